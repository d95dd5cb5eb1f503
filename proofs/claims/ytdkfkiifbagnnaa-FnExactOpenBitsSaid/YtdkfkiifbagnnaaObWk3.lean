/- Part of the walks and plain laws behind the claim: it proves helpers, under no condition beyond their own. -/
import Derived.Test.YtdkfkiifbagnnaaObWk2
set_option linter.unusedVariables false
set_option maxRecDepth 100000
namespace Go.Proofs
open Go.Mr Go.Pu Go.PF Go.RowKit

@[reducible] def p_impl_seqSearch_search (H0 : GH) (w0 : World) (Ha : GH) (L : List MO) (b0 : Nat) (k0_0 : List Value) (r : (Bool × seqSearch)) : Ending → World → Prop :=
 fun e w' => ∃ H' : GH, ∃ v0_0r : Value, ∃ n0_0r : Nat, ∃ c0_0r : List Value, ∃ v0_1r : Value, e = .returned (Value.bool r.1) ∧ (St H0 w0 H' w' (.box b0 47 [v0_0r, v0_1r] :: .row 52 6 v0_0r n0_0r c0_0r :: L) ∧ Inc Ha H') ∧ Els (up w0.heap.size H') eSeqStep 6 c0_0r r.2.steps ∧ (bl c0_0r).Nodup ∧ Gr Ha k0_0 c0_0r ∧ PAt H' eSequent v0_1r r.2.open_
set_option maxHeartbeats 4000000 in
theorem w_impl_seqSearch_search_B {rec_impl_seqSearch_search : seqSearch → Sequent → Option (Bool × seqSearch)} (hrec_impl_seqSearch_search : ∀ {H0 Ha : GH} {w0 wa : World} {L : List MO} {a0 : seqSearch} {b0 : Nat} {v0_0 : Value} {n0_0 : Nat} {k0_0 : List Value} {v0_1 : Value} (S0 : St H0 w0 Ha wa (.box b0 47 [v0_0, v0_1] :: .row 52 6 v0_0 n0_0 k0_0 :: L)) (p0_0 : Els (up w0.heap.size Ha) eSeqStep 6 k0_0 a0.steps) (d0_0 : (bl k0_0).Nodup) (p0_1 : PAt Ha eSequent v0_1 a0.open_) (a1 : Sequent) (v1_0 : Value) (p1_0 : RSl Ha eS 1 v1_0 a1.left) (v1_1 : Value) (p1_1 : RSl Ha eS 1 v1_1 a1.right) {r : (Bool × seqSearch)} (hp : rec_impl_seqSearch_search a0 a1 = some r), Calls Try.prog 20 #[Value.pointer (some (⟨b0, 0, none⟩ : Addr)), Value.agg #[v1_0, v1_1]] wa (p_impl_seqSearch_search H0 w0 Ha L b0 k0_0 r)) {H0 Ha : GH} {w0 wa : World} {L : List MO} {a0 : seqSearch} {b0 : Nat} {v0_0 : Value} {n0_0 : Nat} {k0_0 : List Value} {v0_1 : Value} (S0 : St H0 w0 Ha wa (.box b0 47 [v0_0, v0_1] :: .row 52 6 v0_0 n0_0 k0_0 :: L)) (p0_0 : Els (up w0.heap.size Ha) eSeqStep 6 k0_0 a0.steps) (d0_0 : (bl k0_0).Nodup) (p0_1 : PAt Ha eSequent v0_1 a0.open_) (a1 : Sequent) (v1_0 : Value) (p1_0 : RSl Ha eS 1 v1_0 a1.left) (v1_1 : Value) (p1_1 : RSl Ha eS 1 v1_1 a1.right) {r : (Bool × seqSearch)} (hp : PF.impl_seqSearch_search_B rec_impl_seqSearch_search a0 a1 = some r) :
  Calls Try.prog 20 #[Value.pointer (some (⟨b0, 0, none⟩ : Addr)), Value.agg #[v1_0, v1_1]] wa (p_impl_seqSearch_search H0 w0 Ha L b0 k0_0 r) := by
 unfold PF.impl_seqSearch_search_B at hp
 refine calls_go (N := 83) (args := [Value.pointer (some (⟨b0, 0, none⟩ : Addr)), Value.agg #[v1_0, v1_1]]) Try.func20 rfl rfl rfl ?_
 refine FW.seq (FW.region ?_)
 obtain ⟨b21, w22, run23, S24⟩ := S0.box (P := Try.prog) 28 [v1_0, v1_1] (v := Value.agg #[v1_0, v1_1]) rfl (ones_cons p1_0.one (ones_cons p1_1.one ones_nil))
 refine FL.v (E.box rfl run23) ?_
 refine FL.v (E.assign (v := Value.bool false) rfl) ?_
 refine FL.nil (FW.seq (FW.seq (FW.region ?_)))
 refine FL.v (E.load rfl (run_loadA Try.isAgg28 Try.sizeOf28 (S24.box_now (i := 0) rfl) rfl)) ?_
 obtain ⟨r25, hr26, hp⟩ := bnd hp
 refine FL.call rfl rfl rfl (E.call Try.call35 (A1 rfl)) (w_impl_IsSequent S24.sl a1 v1_0 p1_0 v1_1 p1_1 hr26) ?_
 rintro e w27 ⟨rfl, r28⟩
 refine ⟨_, rfl, ?_⟩
 have S29 := S24.call r28
 refine FL.v (E.not rfl) ?_
 refine FL.nil ?_
 rcases ifB hp with ⟨c30, hp⟩ | ⟨c30, hp⟩
 ·
  refine FW.condT rfl c30 ?_
  refine FW.seq (FW.region ?_)
  refine FL.v (E.assign (v := Value.bool false) rfl) ?_
  refine FL.nil ?_
  refine FW.ret ?_
  obtain rfl := Option.some.inj hp
  exact ⟨.inr rfl, res1 rfl rfl ⟨_, _, _, _, _, rfl, ⟨(S29.selT (a := [.box b21 28 [v1_0, v1_1], .box b0 47 [v0_0, v0_1], .row 52 6 v0_0 n0_0 k0_0]) (l' := [.box b0 47 [v0_0, v0_1], .row 52 6 v0_0 n0_0 k0_0]) [1, 2] (by decide) rfl), (Inc.rfl _)⟩, p0_0, d0_0, Gr.rfl, p0_1⟩⟩
 ·
  refine FW.condF rfl c30 ?_
  refine FW.skip (FW.seq (FW.region ?_))
  refine FL.v (E.load rfl (run_loadA Try.isAgg28 Try.sizeOf28 (S29.box_now (i := 0) rfl) rfl)) ?_
  obtain ⟨r31, hr32, hp⟩ := bnd hp
  refine FL.call rfl rfl rfl (E.call Try.call36 (A1 rfl)) (w_impl_Sequent_clone S29.sl a1 v1_0 p1_0 v1_1 p1_1 hr32) ?_
  rintro e w34 ⟨H33, v37, v43, rfl, r36, ⟨c40, c46, ns39, ns45, ap49⟩⟩
  refine ⟨_, rfl, ?_⟩
  have h38 := ns39.rsl
  have nv41 : New Ha c40 := New.of_up S29.sl (fun b hb => ns39.dom b (.inr hb))
  have nv42 : New Ha [v37] := New.of_up S29.sl h38.dom
  have h38 := h38.mono (up_le S29.size)
  have ns39 := ns39.mono (up_le S29.size)
  have h44 := ns45.rsl
  have nv47 : New Ha c46 := New.of_up S29.sl (fun b hb => ns45.dom b (.inr hb))
  have nv48 : New Ha [v43] := New.of_up S29.sl h44.dom
  have h44 := h44.mono (up_le S29.size)
  have ns45 := ns45.mono (up_le S29.size)
  have S35 := S29.call r36
  refine FL.v (E.build (B2 rfl rfl) (run_build _ 52 #[(0, Value.agg #[v37, v43]), (1, Value.int .i64 1)] #[v37, v43, Value.int .i64 1, Value.string ByteArray.empty, Value.int .i64 0, Value.int .i64 0] (by obtain ⟨_, _, rfl⟩ := RSl.ln (h38.mono upI); obtain ⟨_, _, rfl⟩ := RSl.ln (h44.mono upI); rfl))) ?_
  obtain ⟨b50, w51, run52, S53⟩ := S35.alloc (P := Try.prog) 52 [Value.slice none 0 0, Value.slice none 0 0, Value.int .i64 0, Value.string ByteArray.empty, Value.int .i64 0, Value.int .i64 0] Try.zeroValue52 rfl (ones_cons rfl (ones_cons rfl (ones_cons rfl (ones_cons rfl (ones_cons rfl (ones_cons rfl ones_nil))))))
  refine FL.v (E.alloc run52) ?_
  obtain ⟨w54, run55, S56⟩ := S53.store0 (P := Try.prog) (t := 52) (i := 0) (cs' := [v37, v43, Value.int .i64 1, Value.string ByteArray.empty, Value.int .i64 0, Value.int .i64 0]) (l' := (.box b50 52 [v37, v43, Value.int .i64 1, Value.string ByteArray.empty, Value.int .i64 0, Value.int .i64 0] :: .box b21 28 [v1_0, v1_1] :: .box b0 47 [v0_0, v0_1] :: .row 52 6 v0_0 n0_0 k0_0 :: L)) (v := Value.agg #[v37, v43, Value.int .i64 1, Value.string ByteArray.empty, Value.int .i64 0, Value.int .i64 0]) (c := [v37, v43, Value.int .i64 1, Value.string ByteArray.empty, Value.int .i64 0, Value.int .i64 0]) rfl Try.sizeOf52 rfl rfl (ones_cons h38.one (ones_cons h44.one (ones_cons rfl (ones_cons rfl (ones_cons rfl (ones_cons rfl ones_nil)))))) (Nat.le_of_ble_eq_true rfl) rfl rfl
  refine FL.act rfl rfl (E.store rfl rfl run55) ?_
  refine FL.nil (FW.seq (FW.seq (FW.region ?_)))
  refine FL.v (E.load rfl (run_loadA Try.isAgg28 Try.sizeOf28 (S56.box_now (i := 1) rfl) rfl)) ?_
  obtain ⟨r57, hr58, hp⟩ := bnd hp
  refine FL.call rfl rfl rfl (E.call Try.call37 (A1 rfl)) (w_impl_isSeqAxiom S56.sl a1 v1_0 (p1_0.mono r36.inc) v1_1 (p1_1.mono r36.inc) hr58) ?_
  rintro e w59 ⟨rfl, r60⟩
  refine ⟨_, rfl, ?_⟩
  have S61 := S56.call r60
  refine FL.v (E.not rfl) ?_
  refine FL.nil ?_
  obtain ⟨q316, hq, hp⟩ := bndR hp
  refine FW.joinE (S := ((List SeqStep) × Int × ByteArray × Int × Int × (Option Sequent))) (X := (Bool × seqSearch)) (q := q316) (fun s315 f w => ∃ H : GH, ∃ v318 : Value, ∃ n319 : Nat, ∃ cs320 : List Value, ∃ v324 : Value, St H0 w0 H w (.box b50 52 [v37, v43, Value.int .i64 s315.2.1, Value.string s315.2.2.1, Value.int .i64 s315.2.2.2.1, Value.int .i64 s315.2.2.2.2.1] :: .box b0 47 [v318, v324] :: .row 52 6 v318 n319 cs320 :: L) ∧ Inc H33 H ∧ Els (up w0.heap.size H) eSeqStep 6 cs320 s315.1 ∧ PAt H eSequent v324 s315.2.2.2.2.2 ∧ (bl cs320).Nodup ∧ Gr H33 k0_0 cs320 ∧ f 0 = Value.pointer (some (⟨b0, 0, none⟩ : Addr)) ∧ f 5 = Value.pointer (some (⟨b50, 0, none⟩ : Addr))) (fun x e f w => (e = Exit.ret) ∧ (fun e f w => (e = Exit.normal ∨ e = Exit.ret) ∧ ∀ a, Fr (δ := []) 83 a f → ∃ v, (results Try.f20 a.tmps).run Try.prog w = .ok v w ∧ (p_impl_seqSearch_search H0 w0 Ha L b0 k0_0 x) (.returned v) w) e f w) ?_ ?_ ?_
  ·
   clear hp; have hp := hq; clear hq
   rcases ifB hp with ⟨c326, hp⟩ | ⟨c326, hp⟩
   ·
    refine FW.condT rfl c326 ?_
    refine FW.seq (FW.region ?_)
    refine FL.v (E.load rfl (run_loadA Try.isAgg28 Try.sizeOf28 (S61.box_now (i := 1) rfl) rfl)) ?_
    obtain ⟨r327, hr328, hp⟩ := bnd hp
    refine FL.call rfl rfl rfl (E.call Try.call38 (A1 rfl)) (w_impl_mainOf S61.sl a1 v1_0 (p1_0.mono r36.inc) v1_1 (p1_1.mono r36.inc) hr328) ?_
    rintro e w330 ⟨H329, v333, rfl, r332, h334⟩
    refine ⟨_, rfl, ?_⟩
    have S331 := S61.call r332
    refine FL.v (E.move (v := Value.tuple #[v333, Value.int .i64 r327.2]) rfl) ?_
    refine FL.v (E.extract (i := 0) rfl rfl) ?_
    refine FL.v (E.extract (i := 1) rfl rfl) ?_
    refine FL.v (E.assign (v := v333) rfl) ?_
    refine FL.v (E.assign (v := Value.int .i64 r327.2) rfl) ?_
    refine FL.nil (FW.seq (FW.seq (FW.region ?_)))
    refine FL.v (E.move (v := v333) rfl) ?_
    refine FL.v (E.eqlN Try.runUnderlying64 h334.isNil rfl rfl) ?_
    refine FL.nil ?_
    rcases ifB hp with ⟨c335, hp⟩ | ⟨c335, hp⟩
    ·
     refine FW.condT rfl c335 ?_
     refine FW.seq (FW.region ?_)
     refine FL.v (E.move (v := Value.pointer (some (⟨b0, 0, none⟩ : Addr))) rfl) ?_
     refine FL.v (E.nilCheck rfl) ?_
     refine FL.v (E.fieldAddr tf47_1 rfl) ?_
     obtain ⟨H336, S337, i338, at339⟩ := S331.sealBox (i := 1) (l' := (.box b50 52 [v37, v43, Value.int .i64 1, Value.string ByteArray.empty, Value.int .i64 0, Value.int .i64 0] :: .box b0 47 [v0_0, v0_1] :: .row 52 6 v0_0 n0_0 k0_0 :: L)) rfl rfl
     obtain ⟨w340, run341, S342⟩ := S337.store (P := Try.prog) (t := 45) (i := 1) (j := 1) (cs' := [v0_0, Value.pointer (some ⟨b21, 0, none⟩)]) (l' := (.box b50 52 [v37, v43, Value.int .i64 1, Value.string ByteArray.empty, Value.int .i64 0, Value.int .i64 0] :: .box b0 47 [v0_0, Value.pointer (some ⟨b21, 0, none⟩)] :: .row 52 6 v0_0 n0_0 k0_0 :: L)) (v := Value.pointer (some ⟨b21, 0, none⟩)) (c := [Value.pointer (some ⟨b21, 0, none⟩)]) rfl Try.sizeOf45 rfl rfl (ones_cons rfl ones_nil) (Nat.le_of_ble_eq_true rfl) rfl rfl
     refine FL.act rfl rfl (E.store rfl rfl run341) ?_
     refine FL.nil (FW.seq (FW.region ?_))
     refine FL.v (E.assign (v := Value.bool false) rfl) ?_
     refine FL.nil ?_
     refine FW.ret ?_
     obtain rfl := Option.some.inj hp
     exact ⟨nofun, rfl, ⟨.inr rfl, res1 rfl rfl ⟨_, _, _, _, _, rfl, ⟨(S342.selT (a := [.box b50 52 [v37, v43, Value.int .i64 1, Value.string ByteArray.empty, Value.int .i64 0, Value.int .i64 0], .box b0 47 [v0_0, Value.pointer (some ⟨b21, 0, none⟩)], .row 52 6 v0_0 n0_0 k0_0]) (l' := [.box b0 47 [v0_0, Value.pointer (some ⟨b21, 0, none⟩)], .row 52 6 v0_0 n0_0 k0_0]) [1, 2] (by decide) rfl), ((r36.inc.tr r332.inc).tr i338)⟩, (p0_0.mono (up_mono ((r36.inc.tr r332.inc).tr i338))), d0_0, Gr.rfl, (PAt.mk at339 ⟨_, _, rfl, (p1_0.mono ((r36.inc.tr r332.inc).tr i338)), (p1_1.mono ((r36.inc.tr r332.inc).tr i338))⟩)⟩⟩⟩
    ·
     refine FW.condF rfl c335 ?_
     refine FW.skip (FW.seq (FW.region ?_))
     refine FL.v (E.move (v := Value.int .i64 r327.2) rfl) ?_
     refine FL.v (E.fieldAddr tf52_1 rfl) ?_
     obtain ⟨w343, run344, S345⟩ := S331.store (P := Try.prog) (t := 3) (i := 0) (j := 2) (cs' := [v37, v43, Value.int .i64 r327.2, Value.string ByteArray.empty, Value.int .i64 0, Value.int .i64 0]) (l' := (.box b50 52 [v37, v43, Value.int .i64 r327.2, Value.string ByteArray.empty, Value.int .i64 0, Value.int .i64 0] :: .box b21 28 [v1_0, v1_1] :: .box b0 47 [v0_0, v0_1] :: .row 52 6 v0_0 n0_0 k0_0 :: L)) (v := Value.int .i64 r327.2) (c := [Value.int .i64 r327.2]) rfl Try.sizeOf3 rfl rfl (ones_cons rfl ones_nil) (Nat.le_of_ble_eq_true rfl) rfl rfl
     refine FL.act rfl rfl (E.store rfl rfl run344) ?_
     refine FL.nil (FW.seq (FW.region ?_))
     refine FL.v (E.move (v := v333) rfl) ?_
     obtain ⟨y346, hy347, hp⟩ := bnd hp
     obtain ⟨q348, v350, v351, rfl, at349, h352, h353⟩ := FAt.open h334 hy347
     refine FL.v (E.nilCheck rfl) ?_
     refine FL.v (E.fieldAddr tf68_3 rfl) ?_
     refine FL.v (E.load rfl (run_load1 Try.isAgg9 (at349.now S345.sl) rfl)) ?_
     refine FL.v (E.fieldAddr tf52_2 rfl) ?_
     obtain ⟨w354, run355, S356⟩ := S345.store (P := Try.prog) (t := 9) (i := 0) (j := 3) (cs' := [v37, v43, Value.int .i64 r327.2, Value.string y346.text, Value.int .i64 0, Value.int .i64 0]) (l' := (.box b50 52 [v37, v43, Value.int .i64 r327.2, Value.string y346.text, Value.int .i64 0, Value.int .i64 0] :: .box b21 28 [v1_0, v1_1] :: .box b0 47 [v0_0, v0_1] :: .row 52 6 v0_0 n0_0 k0_0 :: L)) (v := Value.string y346.text) (c := [Value.string y346.text]) rfl Try.sizeOf9 rfl rfl (ones_cons rfl ones_nil) (Nat.le_of_ble_eq_true rfl) rfl rfl
     refine FL.act rfl rfl (E.store rfl rfl run355) ?_
     refine FL.nil (FW.seq (FW.region ?_))
     refine FL.v (E.load rfl (run_loadA Try.isAgg28 Try.sizeOf28 (S356.box_now (i := 1) rfl) rfl)) ?_
     refine FL.v (E.move (v := Value.int .i64 r327.2) rfl) ?_
     refine FL.v (E.move (v := Value.pointer (some q348)) rfl) ?_
     obtain ⟨r357, hr358, hp⟩ := bnd hp
     refine FL.call rfl rfl rfl (E.call Try.call39 (A3 rfl rfl rfl)) (w_impl_premisesOf S356.sl a1 v1_0 (p1_0.mono (r36.inc.tr r332.inc)) v1_1 (p1_1.mono (r36.inc.tr r332.inc)) r327.2 (Value.pointer (some q348)) r327.1 h334 hr358) ?_
     rintro e w360 ⟨H359, v363, n364, cs365, rfl, r362, els366⟩
     refine ⟨_, rfl, ?_⟩
     have S361 := S356.join (l' := (.row 28 2 v363 n364 cs365 :: .box b50 52 [v37, v43, Value.int .i64 r327.2, Value.string y346.text, Value.int .i64 0, Value.int .i64 0] :: .box b21 28 [v1_0, v1_1] :: .box b0 47 [v0_0, v0_1] :: .row 52 6 v0_0 n0_0 k0_0 :: L)) r362 rfl
     refine FL.v (E.lenO te61 rfl S361 (i := 0) rfl els366 (by decide)) ?_
     refine FL.v (E.move (v := Value.int .i64 0) rfl) ?_
     refine FL.nil ?_
     obtain ⟨m367, hchk368, hp⟩ := bnd hp
     obtain ⟨q368, hq, hp⟩ := bndR hp
     refine FW.block ?_
     refine FW.mono (FW.forR (S := ((List SeqStep) × Int × Int × (Option Sequent))) (X := (Rs ((List SeqStep) × Int × ByteArray × Int × Int × (Option Sequent)) (Bool × seqSearch))) (fun (i368 : Nat) (s368 : ((List SeqStep) × Int × Int × (Option Sequent))) f w => ∃ H : GH, ∃ v497 : Value, ∃ n498 : Nat, ∃ cs499 : List Value, ∃ v503 : Value, St H0 w0 H w (.row 28 2 v363 n364 cs365 :: .box b50 52 [v37, v43, Value.int .i64 r327.2, Value.string y346.text, Value.int .i64 s368.2.1, Value.int .i64 s368.2.2.1] :: .box b0 47 [v497, v503] :: .row 52 6 v497 n498 cs499 :: L) ∧ Inc H359 H ∧ Els (up w0.heap.size H) eSeqStep 6 cs499 s368.1 ∧ PAt H eSequent v503 s368.2.2.2 ∧ (bl cs499).Nodup ∧ Gr H359 k0_0 cs499 ∧ f 41 = Value.int .i64 ((i368 : Nat) : Int) ∧ f 0 = Value.pointer (some (⟨b0, 0, none⟩ : Addr)) ∧ f 5 = Value.pointer (some (⟨b50, 0, none⟩ : Addr)) ∧ f 39 = v363 ∧ f 40 = Value.int .i64 (len r357)) (fun q e f w => match q with | .go s368 => e = Exit.exit 0 ∧ (∃ H : GH, ∃ v497 : Value, ∃ n498 : Nat, ∃ cs499 : List Value, ∃ v503 : Value, St H0 w0 H w (.row 28 2 v363 n364 cs365 :: .box b50 52 [v37, v43, Value.int .i64 r327.2, Value.string y346.text, Value.int .i64 s368.2.1, Value.int .i64 s368.2.2.1] :: .box b0 47 [v497, v503] :: .row 52 6 v497 n498 cs499 :: L) ∧ Inc H359 H ∧ Els (up w0.heap.size H) eSeqStep 6 cs499 s368.1 ∧ PAt H eSequent v503 s368.2.2.2 ∧ (bl cs499).Nodup ∧ Gr H359 k0_0 cs499 ∧ f 0 = Value.pointer (some (⟨b0, 0, none⟩ : Addr)) ∧ f 5 = Value.pointer (some (⟨b50, 0, none⟩ : Addr))) | .rt x => ((e = Exit.ret) ∧ (Jn (fun s315 f w => ∃ H : GH, ∃ v318 : Value, ∃ n319 : Nat, ∃ cs320 : List Value, ∃ v324 : Value, St H0 w0 H w (.box b50 52 [v37, v43, Value.int .i64 s315.2.1, Value.string s315.2.2.1, Value.int .i64 s315.2.2.2.1, Value.int .i64 s315.2.2.2.2.1] :: .box b0 47 [v318, v324] :: .row 52 6 v318 n319 cs320 :: L) ∧ Inc H33 H ∧ Els (up w0.heap.size H) eSeqStep 6 cs320 s315.1 ∧ PAt H eSequent v324 s315.2.2.2.2.2 ∧ (bl cs320).Nodup ∧ Gr H33 k0_0 cs320 ∧ f 0 = Value.pointer (some (⟨b0, 0, none⟩ : Addr)) ∧ f 5 = Value.pointer (some (⟨b50, 0, none⟩ : Addr))) (fun x e f w => (e = Exit.ret) ∧ (fun e f w => (e = Exit.normal ∨ e = Exit.ret) ∧ ∀ a, Fr (δ := []) 83 a f → ∃ v, (results Try.f20 a.tmps).run Try.prog w = .ok v w ∧ (p_impl_seqSearch_search H0 w0 Ha L b0 k0_0 x) (.returned v) w) e f w) x) e f w)) hq ⟨_, _, _, _, _, (S361.selT (a := [.row 28 2 v363 n364 cs365, .box b50 52 [v37, v43, Value.int .i64 r327.2, Value.string y346.text, Value.int .i64 0, Value.int .i64 0], .box b21 28 [v1_0, v1_1], .box b0 47 [v0_0, v0_1], .row 52 6 v0_0 n0_0 k0_0]) (l' := [.row 28 2 v363 n364 cs365, .box b50 52 [v37, v43, Value.int .i64 r327.2, Value.string y346.text, Value.int .i64 0, Value.int .i64 0], .box b0 47 [v0_0, v0_1], .row 52 6 v0_0 n0_0 k0_0]) [0, 1, 3, 4] (by decide) rfl), (Inc.rfl _), (p0_0.mono (up_mono ((r36.inc.tr r332.inc).tr r362.run.inc))), (p0_1.mono ((r36.inc.tr r332.inc).tr r362.run.inc)), d0_0, Gr.rfl, rfl, rfl, rfl, rfl, rfl⟩ ?_ ?_) ?_
     ·
      clear hp hq
      rintro i368 s368 f566 w565 ⟨H562, v497, n498, cs499, v503, S563, i564, els500, h504, nd501, gr502, k567, k568, k569, k570, k571⟩ hi368 hj368 o619 hp
      refine FW.seq (FW.region ?_)
      refine FL.v (E.lssT k567 k571 (lss_chk hj368 hchk368)) ?_
      refine FL.nil (FW.seq ?_)
      refine FW.condT rfl rfl ?_
      refine FW.skip (FW.seq (FW.block (FW.seq (FW.region ?_))))
      refine FL.v (E.move k567) ?_
      obtain ⟨x578, hx579, hp⟩ := bnd hp
      obtain ⟨p572, cs573, pt574, l575, at576, rel577⟩ := S563.row_at (i := 0) rfl els366 (by decide) hx579
      obtain ⟨v580, v582, rfl, h581, h583⟩ := eSequent_open rel577
      refine FL.v (E.indexAddr te61 k570 k567 pt574) ?_
      refine FL.v (E.load rfl (run_loadA Try.isAgg28 Try.sizeOf28 at576 rfl)) ?_
      obtain ⟨b584, w585, run586, S587⟩ := S563.alloc (P := Try.prog) 28 [Value.slice none 0 0, Value.slice none 0 0] Try.zeroValue28 rfl (ones_cons rfl (ones_cons rfl ones_nil))
      refine FL.v (E.alloc run586) ?_
      refine FL.v (E.assign (v := Value.int .i64 ((i368 : Nat) : Int)) rfl) ?_
      obtain ⟨w588, run589, S590⟩ := S587.store0 (P := Try.prog) (t := 28) (i := 0) (cs' := [v580, v582]) (l' := (.box b584 28 [v580, v582] :: .row 28 2 v363 n364 cs365 :: .box b50 52 [v37, v43, Value.int .i64 r327.2, Value.string y346.text, Value.int .i64 s368.2.1, Value.int .i64 s368.2.2.1] :: .box b0 47 [v497, v503] :: .row 52 6 v497 n498 cs499 :: L)) (v := Value.agg #[v580, v582]) (c := [v580, v582]) rfl Try.sizeOf28 rfl rfl (ones_cons h581.one (ones_cons h583.one ones_nil)) (Nat.le_of_ble_eq_true rfl) rfl rfl
      refine FL.act rfl rfl (E.store rfl rfl run589) ?_
      obtain ⟨H591, S592, i593, at594⟩ := S590.sealBox (i := 0) (l' := (.row 28 2 v363 n364 cs365 :: .box b50 52 [v37, v43, Value.int .i64 r327.2, Value.string y346.text, Value.int .i64 s368.2.1, Value.int .i64 s368.2.2.1] :: .box b0 47 [v497, v503] :: .row 52 6 v497 n498 cs499 :: L)) rfl rfl
      refine FL.nil (FW.seq (FW.seq (FW.region ?_)))
      refine FL.v (E.move k568) ?_
      refine FL.v (E.load rfl (run_loadA Try.isAgg28 Try.sizeOf28 (at594.now S592.sl) rfl)) ?_
      obtain ⟨r595, hr596, hp⟩ := bnd hp
      have S597 : St H0 w0 H591 w588 (.row 52 6 v497 n498 cs499 :: .row 28 2 v363 n364 cs365 :: .box b50 52 [v37, v43, Value.int .i64 r327.2, Value.string y346.text, Value.int .i64 s368.2.1, Value.int .i64 s368.2.2.1] :: .box b0 47 [v497, v503] :: L) := S592.front 3 rfl rfl
      have S598 : St H0 w0 H591 w588 (.box b0 47 [v497, v503] :: .row 52 6 v497 n498 cs499 :: .row 28 2 v363 n364 cs365 :: .box b50 52 [v37, v43, Value.int .i64 r327.2, Value.string y346.text, Value.int .i64 s368.2.1, Value.int .i64 s368.2.2.1] :: L) := S597.front 3 rfl rfl
      refine FL.call rfl rfl rfl (E.call Try.call20 (A2 rfl rfl)) (hrec_impl_seqSearch_search (L := (.row 28 2 v363 n364 cs365 :: .box b50 52 [v37, v43, Value.int .i64 r327.2, Value.string y346.text, Value.int .i64 s368.2.1, Value.int .i64 s368.2.2.1] :: L)) S598 (a0 := (seqSearch.mk s368.1 s368.2.2.2)) (els500.mono (up_mono i593)) nd501 (h504.mono i593) x578 v580 (h581.mono (i564.tr i593)) v582 (h583.mono (i564.tr i593)) hr596) ?_
      rintro e w600 ⟨H599, v603, n604, cs605, v609, rfl, ⟨S601, i602⟩, els606, nd607, gr608, h610⟩
      refine ⟨_, rfl, ?_⟩
      have S601 : St H0 w0 H599 w600 (.box b0 47 [v603, v609] :: .row 52 6 v603 n604 cs605 :: .row 28 2 v363 n364 cs365 :: .box b50 52 [v37, v43, Value.int .i64 r327.2, Value.string y346.text, Value.int .i64 s368.2.1, Value.int .i64 s368.2.2.1] :: L) := S601
      refine FL.v (E.not rfl) ?_
      refine FL.nil ?_
      rcases ifB hp with ⟨c611, hp⟩ | ⟨c611, hp⟩
      ·
       refine FW.condT rfl c611 ?_
       refine FW.seq (FW.region ?_)
       refine FL.v (E.assign (v := Value.bool false) rfl) ?_
       refine FL.nil ?_
       refine FW.ret ?_
       obtain rfl := Option.some.inj hp
       exact ⟨nofun, rfl, ⟨nofun, rfl, ⟨.inr rfl, res1 rfl rfl ⟨_, _, _, _, _, rfl, ⟨(S601.selT (a := [.box b0 47 [v603, v609], .row 52 6 v603 n604 cs605, .row 28 2 v363 n364 cs365, .box b50 52 [v37, v43, Value.int .i64 r327.2, Value.string y346.text, Value.int .i64 s368.2.1, Value.int .i64 s368.2.2.1]]) (l' := [.box b0 47 [v603, v609], .row 52 6 v603 n604 cs605]) [0, 1] (by decide) rfl), (((((r36.inc.tr r332.inc).tr r362.run.inc).tr i564).tr i593).tr i602)⟩, els606, nd607, ((gr502.tr (i564.tr i593) gr608).anti ((r36.inc.tr r332.inc).tr r362.run.inc)), h610⟩⟩⟩⟩
      ·
       refine FW.condF rfl c611 ?_
       refine FW.skip (FW.seq (FW.region ?_))
       refine FL.v (E.move (v := Value.int .i64 ((i368 : Nat) : Int)) rfl) ?_
       refine FL.v (E.eql rfl rfl) ?_
       refine FL.nil ?_
       rcases ifB hp with ⟨c612, hp⟩ | ⟨c612, hp⟩
       ·
        refine FW.condT rfl c612 ?_
        refine FW.region ?_
        refine FL.v (E.move k568) ?_
        refine FL.v (E.nilCheck rfl) ?_
        refine FL.v (E.fieldAddr tf47_0 rfl) ?_
        refine FL.v (E.load rfl (run_load1 Try.isAgg32 (S601.box_now (i := 0) rfl) rfl)) ?_
        refine FL.v (E.lenO te32 rfl S601 (i := 1) rfl els606 (by decide)) ?_
        refine FL.v (E.sub rfl rfl) ?_
        refine FL.v (E.fieldAddr tf52_3 k569) ?_
        obtain ⟨w613, run614, S615⟩ := S601.store (P := Try.prog) (t := 3) (i := 3) (j := 4) (cs' := [v37, v43, Value.int .i64 r327.2, Value.string y346.text, Value.int .i64 (wr ((len r595.2.steps) - 1)), Value.int .i64 s368.2.2.1]) (l' := (.box b0 47 [v603, v609] :: .row 52 6 v603 n604 cs605 :: .row 28 2 v363 n364 cs365 :: .box b50 52 [v37, v43, Value.int .i64 r327.2, Value.string y346.text, Value.int .i64 (wr ((len r595.2.steps) - 1)), Value.int .i64 s368.2.2.1] :: L)) (v := Value.int .i64 (wr ((len r595.2.steps) - 1))) (c := [Value.int .i64 (wr ((len r595.2.steps) - 1))]) rfl Try.sizeOf3 rfl rfl (ones_cons rfl ones_nil) (Nat.le_of_ble_eq_true rfl) rfl rfl
        refine FL.act rfl rfl (E.store rfl rfl run614) ?_
        refine FL.nil (FW.region ?_)
        refine FL.v (E.add k567 rfl) ?_
        refine FL.v (E.move (v := Value.int .i64 (wr (((i368 : Nat) : Int) + 1))) rfl) ?_
        refine FL.nil ?_
        obtain rfl := Option.some.inj hp
        exact ⟨rfl, ⟨_, _, _, _, _, (S615.selT (a := [.box b0 47 [v603, v609], .row 52 6 v603 n604 cs605, .row 28 2 v363 n364 cs365, .box b50 52 [v37, v43, Value.int .i64 r327.2, Value.string y346.text, Value.int .i64 (wr ((len r595.2.steps) - 1)), Value.int .i64 s368.2.2.1]]) (l' := [.row 28 2 v363 n364 cs365, .box b50 52 [v37, v43, Value.int .i64 r327.2, Value.string y346.text, Value.int .i64 (wr ((len r595.2.steps) - 1)), Value.int .i64 s368.2.2.1], .box b0 47 [v603, v609], .row 52 6 v603 n604 cs605]) [2, 3, 0, 1] (by decide) rfl), ((i564.tr i593).tr i602), els606, h610, nd607, ((gr502.tr (i564.tr i593) gr608).anti (Inc.rfl _)), (nat_succ rfl hj368 (chk_le hchk368)), k568, k569, k570, k571⟩⟩
       ·
        refine FW.condF rfl c612 ?_
        refine FW.region ?_
        refine FL.v (E.move k568) ?_
        refine FL.v (E.nilCheck rfl) ?_
        refine FL.v (E.fieldAddr tf47_0 rfl) ?_
        refine FL.v (E.load rfl (run_load1 Try.isAgg32 (S601.box_now (i := 0) rfl) rfl)) ?_
        refine FL.v (E.lenO te32 rfl S601 (i := 1) rfl els606 (by decide)) ?_
        refine FL.v (E.sub rfl rfl) ?_
        refine FL.v (E.fieldAddr tf52_4 k569) ?_
        obtain ⟨w616, run617, S618⟩ := S601.store (P := Try.prog) (t := 3) (i := 3) (j := 5) (cs' := [v37, v43, Value.int .i64 r327.2, Value.string y346.text, Value.int .i64 s368.2.1, Value.int .i64 (wr ((len r595.2.steps) - 1))]) (l' := (.box b0 47 [v603, v609] :: .row 52 6 v603 n604 cs605 :: .row 28 2 v363 n364 cs365 :: .box b50 52 [v37, v43, Value.int .i64 r327.2, Value.string y346.text, Value.int .i64 s368.2.1, Value.int .i64 (wr ((len r595.2.steps) - 1))] :: L)) (v := Value.int .i64 (wr ((len r595.2.steps) - 1))) (c := [Value.int .i64 (wr ((len r595.2.steps) - 1))]) rfl Try.sizeOf3 rfl rfl (ones_cons rfl ones_nil) (Nat.le_of_ble_eq_true rfl) rfl rfl
        refine FL.act rfl rfl (E.store rfl rfl run617) ?_
        refine FL.nil (FW.region ?_)
        refine FL.v (E.add k567 rfl) ?_
        refine FL.v (E.move (v := Value.int .i64 (wr (((i368 : Nat) : Int) + 1))) rfl) ?_
        refine FL.nil ?_
        obtain rfl := Option.some.inj hp
        exact ⟨rfl, ⟨_, _, _, _, _, (S618.selT (a := [.box b0 47 [v603, v609], .row 52 6 v603 n604 cs605, .row 28 2 v363 n364 cs365, .box b50 52 [v37, v43, Value.int .i64 r327.2, Value.string y346.text, Value.int .i64 s368.2.1, Value.int .i64 (wr ((len r595.2.steps) - 1))]]) (l' := [.row 28 2 v363 n364 cs365, .box b50 52 [v37, v43, Value.int .i64 r327.2, Value.string y346.text, Value.int .i64 s368.2.1, Value.int .i64 (wr ((len r595.2.steps) - 1))], .box b0 47 [v603, v609], .row 52 6 v603 n604 cs605]) [2, 3, 0, 1] (by decide) rfl), ((i564.tr i593).tr i602), els606, h610, nd607, ((gr502.tr (i564.tr i593) gr608).anti (Inc.rfl _)), (nat_succ rfl hj368 (chk_le hchk368)), k568, k569, k570, k571⟩⟩
     ·
      clear hp hq
      rintro s368 f631 w630 ⟨H627, v497, n498, cs499, v503, S628, i629, els500, h504, nd501, gr502, k632, k633, k634, k635, k636⟩
      refine FW.seq (FW.region ?_)
      refine FL.v (E.lss k632 k636) ?_
      refine FL.nil (FW.seq ?_)
      refine FW.condF rfl (dlt_maxchk hchk368) ?_
      refine FW.exit ?_
      exact ⟨nofun, rfl, ⟨_, _, _, _, _, S628, i629, els500, h504, nd501, (gr502.anti (Inc.rfl _)), k633, k634⟩⟩
     ·
      clear hq
      intro e f624 w623 hD
      rcases q368 with s368 | x368
      ·
       obtain ⟨rfl, hD⟩ := hD
       obtain ⟨H620, v497, n498, cs499, v503, S621, i622, els500, h504, nd501, gr502, k625, k626⟩ := hD
       replace hp := el_go hp
       obtain rfl := Option.some.inj hp
       exact ⟨rfl, ⟨_, _, _, _, _, (S621.selT (a := [.row 28 2 v363 n364 cs365, .box b50 52 [v37, v43, Value.int .i64 r327.2, Value.string y346.text, Value.int .i64 s368.2.1, Value.int .i64 s368.2.2.1], .box b0 47 [v497, v503], .row 52 6 v497 n498 cs499]) (l' := [.box b50 52 [v37, v43, Value.int .i64 r327.2, Value.string y346.text, Value.int .i64 s368.2.1, Value.int .i64 s368.2.2.1], .box b0 47 [v497, v503], .row 52 6 v497 n498 cs499]) [1, 2, 3] (by decide) rfl), ((r332.inc.tr r362.run.inc).tr i622), els500, h504, nd501, (gr502.anti (r332.inc.tr r362.run.inc)), k625, k626⟩⟩
      ·
       obtain ⟨he, hL⟩ := hD
       replace hp := el_rt hp
       obtain rfl := Option.some.inj hp
       subst he
       exact hL
   ·
    refine FW.condF rfl c326 ?_
    refine FW.skip ?_
    obtain rfl := Option.some.inj hp
    exact ⟨rfl, ⟨_, _, _, _, _, (S61.selT (a := [.box b50 52 [v37, v43, Value.int .i64 1, Value.string ByteArray.empty, Value.int .i64 0, Value.int .i64 0], .box b21 28 [v1_0, v1_1], .box b0 47 [v0_0, v0_1], .row 52 6 v0_0 n0_0 k0_0]) (l' := [.box b50 52 [v37, v43, Value.int .i64 1, Value.string ByteArray.empty, Value.int .i64 0, Value.int .i64 0], .box b0 47 [v0_0, v0_1], .row 52 6 v0_0 n0_0 k0_0]) [0, 2, 3] (by decide) rfl), (Inc.rfl _), (p0_0.mono (up_mono r36.inc)), (p0_1.mono r36.inc), d0_0, Gr.rfl, rfl, rfl⟩⟩
  ·
   rintro s315 rfl f641 w640 ⟨H637, v318, n319, cs320, v324, S638, i639, els321, h325, nd322, gr323, k642, k643⟩
   replace hp := el_go hp
   refine FW.seq ?_
   obtain ⟨xs70, hz71, hp⟩ := bnd hp
   refine FW.drawB (SX H0 w0 H637 (.box b50 52 [v37, v43, Value.int .i64 s315.2.1, Value.string s315.2.2.1, Value.int .i64 s315.2.2.2.1, Value.int .i64 s315.2.2.2.2.1] :: L)) (fun f w => ∃ H : GH, ∃ v86 : Value, ∃ n87 : Nat, ∃ cs88 : List Value, ∃ v92 : Value, St H0 w0 H w (.box b0 47 [v86, v92] :: .row 52 6 v86 n87 cs88 :: L) ∧ Inc H637 H ∧ Els (up w0.heap.size H) eSeqStep 6 cs88 xs70 ∧ PAt H eSequent v92 s315.2.2.2.2.2 ∧ (bl cs88).Nodup ∧ Gr Ha k0_0 cs88 ∧ f 0 = Value.pointer (some (⟨b0, 0, none⟩ : Addr))) (by kernel_rfl) S638.sl ?_ ?_
   ·
    intro w644 r645
    have S646 := S638.call r645
    refine FB.phase [10] (fun w => WAt w (Addr.add ⟨b0, 0, none⟩ 0) [v318]) ?_
    refine FB.t (i := 0) (bs 11 1) rfl (SP.on ((S646.box_now (i := 1) rfl).sub (j := 0) (n := 1) (c := [v318]) rfl) (SP.nil ⟨_, (S646.selT (a := [.box b50 52 [v37, v43, Value.int .i64 s315.2.1, Value.string s315.2.2.1, Value.int .i64 s315.2.2.2.1, Value.int .i64 s315.2.2.2.2.1], .box b0 47 [v318, v324], .row 52 6 v318 n319 cs320]) (l' := [.box b50 52 [v37, v43, Value.int .i64 s315.2.1, Value.string s315.2.2.1, Value.int .i64 s315.2.2.2.1, Value.int .i64 s315.2.2.2.2.1]]) [0] (by decide) rfl), (Inc.rfl _)⟩)) rfl (fun w' hw' => (E.move k642)) ?_
    refine FB.t (i := 1) (bs 11 3) rfl (SP.on ((S646.box_now (i := 1) rfl).sub (j := 0) (n := 1) (c := [v318]) rfl) (SP.nil ⟨_, (S646.selT (a := [.box b50 52 [v37, v43, Value.int .i64 s315.2.1, Value.string s315.2.2.1, Value.int .i64 s315.2.2.2.1, Value.int .i64 s315.2.2.2.2.1], .box b0 47 [v318, v324], .row 52 6 v318 n319 cs320]) (l' := [.box b50 52 [v37, v43, Value.int .i64 s315.2.1, Value.string s315.2.2.1, Value.int .i64 s315.2.2.2.1, Value.int .i64 s315.2.2.2.2.1]]) [0] (by decide) rfl), (Inc.rfl _)⟩)) rfl (fun w' hw' => (E.move k642)) ?_
    refine FB.t (i := 2) (bs 11 7) rfl (SP.on ((S646.box_now (i := 1) rfl).sub (j := 0) (n := 1) (c := [v318]) rfl) (SP.nil ⟨_, (S646.selT (a := [.box b50 52 [v37, v43, Value.int .i64 s315.2.1, Value.string s315.2.2.1, Value.int .i64 s315.2.2.2.1, Value.int .i64 s315.2.2.2.2.1], .box b0 47 [v318, v324], .row 52 6 v318 n319 cs320]) (l' := [.box b50 52 [v37, v43, Value.int .i64 s315.2.1, Value.string s315.2.2.1, Value.int .i64 s315.2.2.2.1, Value.int .i64 s315.2.2.2.2.1]]) [0] (by decide) rfl), (Inc.rfl _)⟩)) rfl (fun w' hw' => (E.nilCheck rfl)) ?_
    refine FB.t (i := 3) (bs 11 15) rfl (SP.on ((S646.box_now (i := 1) rfl).sub (j := 0) (n := 1) (c := [v318]) rfl) (SP.nil ⟨_, (S646.selT (a := [.box b50 52 [v37, v43, Value.int .i64 s315.2.1, Value.string s315.2.2.1, Value.int .i64 s315.2.2.2.1, Value.int .i64 s315.2.2.2.2.1], .box b0 47 [v318, v324], .row 52 6 v318 n319 cs320]) (l' := [.box b50 52 [v37, v43, Value.int .i64 s315.2.1, Value.string s315.2.2.1, Value.int .i64 s315.2.2.2.1, Value.int .i64 s315.2.2.2.2.1]]) [0] (by decide) rfl), (Inc.rfl _)⟩)) rfl (fun w' hw' => (E.fieldAddr tf47_0 rfl)) ?_
    refine FB.p (i := 4) (bs 11 31) 0 [7, 8, 9, 10] rfl (SP.on ((S646.box_now (i := 1) rfl).sub (j := 0) (n := 1) (c := [v318]) rfl) (SP.nil ⟨_, (S646.selT (a := [.box b50 52 [v37, v43, Value.int .i64 s315.2.1, Value.string s315.2.2.1, Value.int .i64 s315.2.2.2.1, Value.int .i64 s315.2.2.2.2.1], .box b0 47 [v318, v324], .row 52 6 v318 n319 cs320]) (l' := [.box b50 52 [v37, v43, Value.int .i64 s315.2.1, Value.string s315.2.2.1, Value.int .i64 s315.2.2.2.1, Value.int .i64 s315.2.2.2.2.1]]) [0] (by decide) rfl), (Inc.rfl _)⟩)) rfl rfl (fun w' hw' => (E.load rfl (run_load0 Try.isAgg32 hw' rfl))) ?_
    refine FB.t (i := 5) (bs 11 63) rfl (SP.on ((S646.box_now (i := 1) rfl).sub (j := 0) (n := 1) (c := [v318]) rfl) (SP.nil ⟨_, (S646.selT (a := [.box b50 52 [v37, v43, Value.int .i64 s315.2.1, Value.string s315.2.2.1, Value.int .i64 s315.2.2.2.1, Value.int .i64 s315.2.2.2.2.1], .box b0 47 [v318, v324], .row 52 6 v318 n319 cs320]) (l' := [.box b50 52 [v37, v43, Value.int .i64 s315.2.1, Value.string s315.2.2.1, Value.int .i64 s315.2.2.2.1, Value.int .i64 s315.2.2.2.2.1]]) [0] (by decide) rfl), (Inc.rfl _)⟩)) rfl (fun w' hw' => (E.load k643 (run_loadA Try.isAgg52 Try.sizeOf52 (SX.box_now hw' (i := 0) rfl) rfl))) ?_
    refine FB.all1 (i := 6) (by kernel_rfl) ?_
    ·
     obtain ⟨v62, w63, run64, S65⟩ := S646.buildSlice (P := Try.prog) te32 [Value.agg #[v37, v43, Value.int .i64 s315.2.1, Value.string s315.2.2.1, Value.int .i64 s315.2.2.2.1, Value.int .i64 s315.2.2.2.2.1]] (parts := #[(0, Value.agg #[v37, v43, Value.int .i64 s315.2.1, Value.string s315.2.2.1, Value.int .i64 s315.2.2.2.1, Value.int .i64 s315.2.2.2.2.1])]) (cells := [v37, v43, Value.int .i64 s315.2.1, Value.string s315.2.2.1, Value.int .i64 s315.2.2.2.1, Value.int .i64 s315.2.2.2.2.1]) rfl (szs_cons rfl szs_nil) (fc_cons rfl fc_nil) (ones_cons h38.one (ones_cons h44.one (ones_cons rfl (ones_cons rfl (ones_cons rfl (ones_cons rfl ones_nil)))))) (Nat.le_of_ble_eq_true rfl)
     have els66 : Els (up w0.heap.size H637) eSeqStep 6 [v37, v43, Value.int .i64 s315.2.1, Value.string s315.2.2.1, Value.int .i64 s315.2.2.2.1, Value.int .i64 s315.2.2.2.2.1] [(SeqStep.mk r31 s315.2.1 s315.2.2.1 s315.2.2.2.1 s315.2.2.2.2.1)] := (Els.snoc (H := (up w0.heap.size H637)) (E := eSeqStep) (k := 6) (c := [v37, v43, Value.int .i64 s315.2.1, Value.string s315.2.2.1, Value.int .i64 s315.2.2.2.1, Value.int .i64 s315.2.2.2.2.1]) (x := (SeqStep.mk r31 s315.2.1 s315.2.2.1 s315.2.2.2.1 s315.2.2.2.2.1)) Els.nil rfl ⟨_, _, rfl, (h38.mono (up_mono i639)), (h44.mono (up_mono i639))⟩)
     have nd67 : (bl [v37, v43, Value.int .i64 s315.2.1, Value.string s315.2.2.1, Value.int .i64 s315.2.2.2.1, Value.int .i64 s315.2.2.2.2.1]).Nodup := by exact nd_two ap49.dis
     have nv69 : New Ha [v37, v43, Value.int .i64 s315.2.1, Value.string s315.2.2.1, Value.int .i64 s315.2.2.2.1, Value.int .i64 s315.2.2.2.2.1] := by exact (New.two nv42 nv48)
     refine FC.val (l' := (bs 11 127)) rfl (by kernel_rfl) rfl rfl rfl (E.buildSlice (B1 rfl) run64) ?_
     refine ⟨(SP.on ((S65.box_now (i := 2) rfl).sub (j := 0) (n := 1) (c := [v318]) rfl) (SP.nil ⟨_, (S65.selT (a := [.row 52 6 v62 1 [v37, v43, Value.int .i64 s315.2.1, Value.string s315.2.2.1, Value.int .i64 s315.2.2.2.1, Value.int .i64 s315.2.2.2.2.1], .box b50 52 [v37, v43, Value.int .i64 s315.2.1, Value.string s315.2.2.1, Value.int .i64 s315.2.2.2.1, Value.int .i64 s315.2.2.2.2.1], .box b0 47 [v318, v324], .row 52 6 v318 n319 cs320]) (l' := [.box b50 52 [v37, v43, Value.int .i64 s315.2.1, Value.string s315.2.2.1, Value.int .i64 s315.2.2.2.1, Value.int .i64 s315.2.2.2.2.1]]) [1] (by decide) rfl), (Inc.rfl _)⟩)), ?_⟩
     refine FB.all1 (i := 7) (by kernel_rfl) ?_
     ·
      obtain ⟨v72, w75, n73, cs74, run76, S77, els78, ce79⟩ := S65.appendO (P := Try.prog) te32 (i := 3) (j := 0) rfl els321 rfl els66 hz71
      have S77 : St H0 w0 H637 w75 (.row 52 6 v62 1 [v37, v43, Value.int .i64 s315.2.1, Value.string s315.2.2.1, Value.int .i64 s315.2.2.2.1, Value.int .i64 s315.2.2.2.2.1] :: .box b50 52 [v37, v43, Value.int .i64 s315.2.1, Value.string s315.2.2.1, Value.int .i64 s315.2.2.2.1, Value.int .i64 s315.2.2.2.2.1] :: .box b0 47 [v318, v324] :: .row 52 6 v72 n73 cs74 :: L) := S77
      have nd80 : (bl cs74).Nodup := by rw [ce79]; exact Gr.nd_app nd322 nd67 gr323 (Els.dom (p0_0.mono (upI.tr (Inc.rfl _)))) (by exact nv69) (by exact dom_two (RSl.dom (h38.mono (upI.tr (Inc.rfl _)))) (RSl.dom (h44.mono (upI.tr (Inc.rfl _)))))
      have gr81 : Gr Ha k0_0 cs74 := by rw [ce79]; exact ((gr323.anti r36.inc).app (by exact nv69))
      have S82 : St H0 w0 H637 w75 (.box b50 52 [v37, v43, Value.int .i64 s315.2.1, Value.string s315.2.2.1, Value.int .i64 s315.2.2.2.1, Value.int .i64 s315.2.2.2.2.1] :: .box b0 47 [v318, v324] :: .row 52 6 v72 n73 cs74 :: L) := S77.drop 0
      refine FC.val (l' := (bs 11 255)) rfl (by kernel_rfl) rfl rfl rfl (E.append rfl rfl run76) ?_
      refine ⟨(SP.on ((S82.box_now (i := 1) rfl).sub (j := 0) (n := 1) (c := [v318]) rfl) (SP.nil ⟨_, (S82.selT (a := [.box b50 52 [v37, v43, Value.int .i64 s315.2.1, Value.string s315.2.2.1, Value.int .i64 s315.2.2.2.1, Value.int .i64 s315.2.2.2.2.1], .box b0 47 [v318, v324], .row 52 6 v72 n73 cs74]) (l' := [.box b50 52 [v37, v43, Value.int .i64 s315.2.1, Value.string s315.2.2.1, Value.int .i64 s315.2.2.2.1, Value.int .i64 s315.2.2.2.2.1]]) [0] (by decide) rfl), (Inc.rfl _)⟩)), ?_⟩
      refine FB.t (i := 8) (bs 11 511) rfl (SP.on ((S82.box_now (i := 1) rfl).sub (j := 0) (n := 1) (c := [v318]) rfl) (SP.nil ⟨_, (S82.selT (a := [.box b50 52 [v37, v43, Value.int .i64 s315.2.1, Value.string s315.2.2.1, Value.int .i64 s315.2.2.2.1, Value.int .i64 s315.2.2.2.2.1], .box b0 47 [v318, v324], .row 52 6 v72 n73 cs74]) (l' := [.box b50 52 [v37, v43, Value.int .i64 s315.2.1, Value.string s315.2.2.1, Value.int .i64 s315.2.2.2.1, Value.int .i64 s315.2.2.2.2.1]]) [0] (by decide) rfl), (Inc.rfl _)⟩)) rfl (fun w' hw' => (E.nilCheck rfl)) ?_
      refine FB.t (i := 9) (bs 11 1023) rfl (SP.on ((S82.box_now (i := 1) rfl).sub (j := 0) (n := 1) (c := [v318]) rfl) (SP.nil ⟨_, (S82.selT (a := [.box b50 52 [v37, v43, Value.int .i64 s315.2.1, Value.string s315.2.2.1, Value.int .i64 s315.2.2.2.1, Value.int .i64 s315.2.2.2.2.1], .box b0 47 [v318, v324], .row 52 6 v72 n73 cs74]) (l' := [.box b50 52 [v37, v43, Value.int .i64 s315.2.1, Value.string s315.2.2.1, Value.int .i64 s315.2.2.2.1, Value.int .i64 s315.2.2.2.2.1]]) [0] (by decide) rfl), (Inc.rfl _)⟩)) rfl (fun w' hw' => (E.fieldAddr tf47_0 rfl)) ?_
      refine FB.all1 (i := 10) (by kernel_rfl) ?_
      ·
       obtain ⟨w83, run84, S85⟩ := S82.store (P := Try.prog) (t := 32) (i := 1) (j := 0) (cs' := [v72, v324]) (l' := (.box b50 52 [v37, v43, Value.int .i64 s315.2.1, Value.string s315.2.2.1, Value.int .i64 s315.2.2.2.1, Value.int .i64 s315.2.2.2.2.1] :: .box b0 47 [v72, v324] :: .row 52 6 v72 n73 cs74 :: L)) (v := v72) (c := [v72]) rfl Try.sizeOf32 (Ln.cells (S82.row_ln (i := 2) rfl)) rfl (ones_cons (Ln.one (S82.row_ln (i := 2) rfl)) ones_nil) (Nat.le_of_ble_eq_true rfl) rfl rfl
       refine FC.act (l' := (bs 11 2047)) rfl (by kernel_rfl) rfl rfl (E.store rfl rfl run84) ?_
       refine ⟨(SP.o (SP.nil ⟨_, (S85.selT (a := [.box b50 52 [v37, v43, Value.int .i64 s315.2.1, Value.string s315.2.2.1, Value.int .i64 s315.2.2.2.1, Value.int .i64 s315.2.2.2.2.1], .box b0 47 [v72, v324], .row 52 6 v72 n73 cs74]) (l' := [.box b50 52 [v37, v43, Value.int .i64 s315.2.1, Value.string s315.2.2.1, Value.int .i64 s315.2.2.2.1, Value.int .i64 s315.2.2.2.2.1]]) [0] (by decide) rfl), (Inc.rfl _)⟩)), ?_⟩
       exact FB.done (by kernel_rfl) ⟨_, _, _, _, _, (S85.selT (a := [.box b50 52 [v37, v43, Value.int .i64 s315.2.1, Value.string s315.2.2.1, Value.int .i64 s315.2.2.2.1, Value.int .i64 s315.2.2.2.2.1], .box b0 47 [v72, v324], .row 52 6 v72 n73 cs74]) (l' := [.box b0 47 [v72, v324], .row 52 6 v72 n73 cs74]) [1, 2] (by decide) rfl), (Inc.rfl _), els78, h325, nd80, (gr81.anti (Inc.rfl _)), k642⟩
   ·
    rintro f98 w97 ⟨H94, v86, n87, cs88, v92, S95, i96, els89, h93, nd90, gr91, k99⟩
    refine FW.seq (FW.region ?_)
    refine FL.v (E.move k99) ?_
    refine FL.v (E.nilCheck rfl) ?_
    refine FL.v (E.fieldAddr tf47_0 rfl) ?_
    refine FL.v (E.load rfl (run_load1 Try.isAgg32 (S95.box_now (i := 0) rfl) rfl)) ?_
    refine FL.v (E.lenO te32 rfl S95 (i := 1) rfl els89 (by decide)) ?_
    refine FL.v (E.leq rfl rfl) ?_
    refine FL.v (E.assign (v := Value.bool (decide ((len xs70) ≤ 200))) rfl) ?_
    refine FL.nil ?_
    refine FW.ret ?_
    obtain rfl := Option.some.inj hp
    exact ⟨.inr rfl, res1 rfl rfl ⟨_, _, _, _, _, rfl, ⟨S95, ((r36.inc.tr i639).tr i96)⟩, els89, nd90, (gr91.anti (Inc.rfl _)), h93⟩⟩
  ·
   rintro x317 rfl e f w hne ⟨he, hL⟩
   replace hp := el_rt hp
   obtain rfl := Option.some.inj hp
   subst he
   exact hL
theorem w_impl_seqSearch_search_F (n : Nat) : ∀ {H0 Ha : GH} {w0 wa : World} {L : List MO} {a0 : seqSearch} {b0 : Nat} {v0_0 : Value} {n0_0 : Nat} {k0_0 : List Value} {v0_1 : Value} (S0 : St H0 w0 Ha wa (.box b0 47 [v0_0, v0_1] :: .row 52 6 v0_0 n0_0 k0_0 :: L)) (p0_0 : Els (up w0.heap.size Ha) eSeqStep 6 k0_0 a0.steps) (d0_0 : (bl k0_0).Nodup) (p0_1 : PAt Ha eSequent v0_1 a0.open_) (a1 : Sequent) (v1_0 : Value) (p1_0 : RSl Ha eS 1 v1_0 a1.left) (v1_1 : Value) (p1_1 : RSl Ha eS 1 v1_1 a1.right) {r : (Bool × seqSearch)} (hp : PF.impl_seqSearch_search_F n a0 a1 = some r), Calls Try.prog 20 #[Value.pointer (some (⟨b0, 0, none⟩ : Addr)), Value.agg #[v1_0, v1_1]] wa (p_impl_seqSearch_search H0 w0 Ha L b0 k0_0 r) := by
 induction n with
 | zero => intros; rename_i hp; exact nomatch hp
 | succ n ih => exact w_impl_seqSearch_search_B (rec_impl_seqSearch_search := PF.impl_seqSearch_search_F n) ih
theorem w_impl_seqSearch_search {H0 Ha : GH} {w0 wa : World} {L : List MO} {a0 : seqSearch} {b0 : Nat} {v0_0 : Value} {n0_0 : Nat} {k0_0 : List Value} {v0_1 : Value} (S0 : St H0 w0 Ha wa (.box b0 47 [v0_0, v0_1] :: .row 52 6 v0_0 n0_0 k0_0 :: L)) (p0_0 : Els (up w0.heap.size Ha) eSeqStep 6 k0_0 a0.steps) (d0_0 : (bl k0_0).Nodup) (p0_1 : PAt Ha eSequent v0_1 a0.open_) (a1 : Sequent) (v1_0 : Value) (p1_0 : RSl Ha eS 1 v1_0 a1.left) (v1_1 : Value) (p1_1 : RSl Ha eS 1 v1_1 a1.right) {r : (Bool × seqSearch)} (hp : PF.impl_seqSearch_search a0 a1 = some r) :
  Calls Try.prog 20 #[Value.pointer (some (⟨b0, 0, none⟩ : Addr)), Value.agg #[v1_0, v1_1]] wa (p_impl_seqSearch_search H0 w0 Ha L b0 k0_0 r) := w_impl_seqSearch_search_F deep S0 p0_0 d0_0 p0_1 a1 v1_0 p1_0 v1_1 p1_1 hp

set_option maxHeartbeats 4000000 in
theorem w_impl_OpenBits {Ha : GH} {wa : World} (hs : Sl Ha wa) (a0 : Sequent) (v0_0 : Value) (p0_0 : RSl Ha eS 1 v0_0 a0.left) (v0_1 : Value) (p0_1 : RSl Ha eS 1 v0_1 a0.right) {r : (Int × Bool)} (hp : (PF.impl_OpenBits a0) = some r) :
  Calls Try.prog 8 #[Value.agg #[v0_0, v0_1]] wa (Sc Ha wa (Value.tuple #[Value.int .i64 r.1, Value.bool r.2])) := by
 unfold PF.impl_OpenBits at hp
 have S0 := St.init hs
 refine calls_go (N := 43) (args := [Value.agg #[v0_0, v0_1]]) Try.func8 rfl rfl rfl ?_
 refine FW.seq (FW.region ?_)
 obtain ⟨b21, w22, run23, S24⟩ := S0.box (P := Try.prog) 28 [v0_0, v0_1] (v := Value.agg #[v0_0, v0_1]) rfl (ones_cons p0_0.one (ones_cons p0_1.one ones_nil))
 refine FL.v (E.box rfl run23) ?_
 obtain ⟨H25, S26, i27, at28⟩ := S24.sealBox (i := 0) (l' := []) rfl rfl
 refine FL.v (E.assign (v := Value.int .i64 0) rfl) ?_
 refine FL.v (E.assign (v := Value.bool false) rfl) ?_
 refine FL.nil (FW.seq (FW.region ?_))
 refine FL.v (E.build (B0) (run_build _ 47 #[] #[Value.slice none 0 0, Value.pointer none] (by rfl))) ?_
 obtain ⟨b29, w30, run31, S32⟩ := S26.box (P := Try.prog) 47 [Value.slice none 0 0, Value.pointer none] (v := Value.agg #[Value.slice none 0 0, Value.pointer none]) rfl (ones_cons rfl (ones_cons rfl ones_nil))
 refine FL.v (E.box rfl run31) ?_
 refine FL.v (E.assign (v := Value.pointer (some (⟨b29, 0, none⟩ : Addr))) rfl) ?_
 refine FL.nil (FW.seq (FW.seq (FW.region ?_)))
 refine FL.v (E.move (v := Value.pointer (some (⟨b29, 0, none⟩ : Addr))) rfl) ?_
 refine FL.v (E.load rfl (run_loadA Try.isAgg28 Try.sizeOf28 (at28.now S32.sl) rfl)) ?_
 have S33 := S32.nil 52 6
 have els34 : Els (up wa.heap.size H25) eSeqStep 6 [] [] := Els.nil
 obtain ⟨r35, hr36, hp⟩ := bnd hp
 have S37 : St Ha wa H25 w30 [.box b29 47 [(Value.slice none 0 0), Value.pointer none], .row 52 6 (Value.slice none 0 0) 0 []] := S33.front 1 rfl rfl
 refine FL.call rfl rfl rfl (E.call Try.call20 (A2 rfl rfl)) (w_impl_seqSearch_search (L := []) S37 (a0 := (seqSearch.mk [] none)) els34 (show (bl []).Nodup from List.nodup_nil) PAt.nil a0 v0_0 (p0_0.mono i27) v0_1 (p0_1.mono i27) hr36) ?_
 rintro e w39 ⟨H38, v42, n43, cs44, v48, rfl, ⟨S40, i41⟩, els45, nd46, gr47, h49⟩
 refine ⟨_, rfl, ?_⟩
 have S40 : St Ha wa H38 w39 [.box b29 47 [v42, v48], .row 52 6 v42 n43 cs44] := S40
 refine FL.v (E.move (v := Value.bool r35.1) rfl) ?_
 refine FL.cut 6 (fun f w => ∃ H : GH, St Ha wa H w [.box b29 47 [v42, v48], .row 52 6 v42 n43 cs44] ∧ Inc H38 H ∧ f 4 = Value.pointer (some (⟨b29, 0, none⟩ : Addr)) ∧ f 19 = Value.bool (bif r35.1 then true else r35.2.open_.isNone)) ?_ ?_
 ·
  rcases bcase r35.1 with c56 | c56
  ·
   refine FL.skip (wF_no rfl rfl rfl c56) rfl ?_
   refine FL.skip (wF_no rfl rfl rfl c56) rfl ?_
   refine FL.skip (wF_no rfl rfl rfl c56) rfl ?_
   refine FL.skip (wF_no rfl rfl rfl c56) rfl ?_
   refine FL.skip (wF_no rfl rfl rfl c56) rfl ?_
   refine FL.v (E.pickT rfl c56 rfl) ?_
   exact FL.nil ⟨rfl, _, S40, (Inc.rfl _), rfl, (congrArg Value.bool (bifT c56).symm)⟩
  ·
   refine FL.val (wF_yes rfl rfl rfl c56) rfl rfl (E.move (v := Value.pointer (some (⟨b29, 0, none⟩ : Addr))) rfl) ?_
   refine FL.val (wF_yes rfl rfl rfl c56) rfl rfl (E.nilCheck rfl) ?_
   refine FL.val (wF_yes rfl rfl rfl c56) rfl rfl (E.fieldAddr tf47_1 rfl) ?_
   refine FL.val (wF_yes rfl rfl rfl c56) rfl rfl (E.load rfl (run_load1 Try.isAgg45 (S40.box_now (i := 0) rfl) rfl)) ?_
   refine FL.val (wF_yes rfl rfl rfl c56) rfl rfl (E.eqlN Try.runUnderlying45 h49.isNil rfl rfl) ?_
   refine FL.v (E.pickF rfl c56 rfl) ?_
   exact FL.nil ⟨rfl, _, S40, (Inc.rfl _), rfl, (congrArg Value.bool (bifF c56).symm)⟩
 rintro f55 w54 ⟨H51, S52, i53, k57, k58⟩
 refine FL.nil ?_
 rcases ifB hp with ⟨c59, hp⟩ | ⟨c59, hp⟩
 ·
  refine FW.condT k58 c59 ?_
  refine FW.seq (FW.region ?_)
  refine FL.v (E.assign (v := Value.int .i64 0) rfl) ?_
  refine FL.v (E.assign (v := Value.bool false) rfl) ?_
  refine FL.nil ?_
  refine FW.ret ?_
  obtain rfl := Option.some.inj hp
  exact ⟨.inr rfl, res2 rfl rfl rfl ⟨rfl, S52.back⟩⟩
 ·
  refine FW.condF k58 c59 ?_
  refine FW.skip (FW.seq (FW.region ?_))
  refine FL.v (E.assign (v := Value.int .i64 0) rfl) ?_
  refine FL.nil (FW.seq (FW.seq (FW.region ?_)))
  refine FL.v (E.move k57) ?_
  refine FL.v (E.nilCheck rfl) ?_
  refine FL.v (E.fieldAddr tf47_1 rfl) ?_
  refine FL.v (E.load rfl (run_load1 Try.isAgg45 (S52.box_now (i := 0) rfl) rfl)) ?_
  obtain ⟨y60, hy61, hp⟩ := bnd hp
  obtain ⟨q62, cs64, rfl, at63, rel65⟩ := PAt.open h49 hy61
  obtain ⟨v66, v68, rfl, h67, h69⟩ := eSequent_open rel65
  refine FL.v (E.nilCheck rfl) ?_
  refine FL.v (E.fieldAddr tf28_0 rfl) ?_
  refine FL.v (E.load rfl (run_load1 Try.isAgg22 ((at63.mono i53).now S52.sl) rfl)) ?_
  refine FL.v (E.lenP te22 rfl h67) ?_
  refine FL.v (E.move (v := Value.int .i64 0) rfl) ?_
  refine FL.nil ?_
  obtain ⟨q71, hq, hp⟩ := bndR hp
  refine FW.block ?_
  refine FW.mono (FW.forL (S := Int) (X := Empty) (fun (i71 : Nat) (s71 : Int) f w => ∃ H : GH, St Ha wa H w [] ∧ Inc H51 H ∧ f 28 = Value.int .i64 ((i71 : Nat) : Int) ∧ f 5 = Value.int .i64 s71 ∧ f 26 = v66 ∧ f 27 = Value.int .i64 (len y60.left)) (fun (q : Rs Int Empty) e f w => match q with | .go s71 => e = Exit.exit 0 ∧ (∃ H : GH, St Ha wa H w [] ∧ Inc H51 H ∧ f 5 = Value.int .i64 s71) | .rt x => x.elim) hq ⟨_, (S52.sel [] (by decide) rfl), (Inc.rfl _), rfl, rfl, rfl, rfl⟩ ?_ ?_) ?_
  ·
   clear hp hq
   rintro i71 y70 s71 f101 w100 ⟨H97, S98, i99, k102, k103, k104, k105⟩ hx71 o122 hp
   refine FW.seq (FW.region ?_)
   refine FL.v (E.lssT k102 k105 (lss_len hx71)) ?_
   refine FL.nil (FW.seq ?_)
   refine FW.condT rfl rfl ?_
   refine FW.skip (FW.seq (FW.block (FW.seq (FW.region ?_))))
   obtain ⟨p106, cs107, pt108, l109, at110, rel111⟩ := h67.at (ix_nat hx71)
   obtain rfl := eS_open rel111
   refine FL.v (E.indexAddr te22 k104 k102 pt108) ?_
   refine FL.v (E.load rfl (run_load0 Try.isAgg9 ((at110.mono (i53.tr i99)).now S98.sl) rfl)) ?_
   refine FL.v (E.assign (v := Value.string y70) rfl) ?_
   refine FL.nil (FW.seq (FW.region ?_))
   refine FL.v (E.move (v := Value.string y70) rfl) ?_
   obtain ⟨z112, h113, hp⟩ := bnd hp
   refine FL.v (E.ixS Try.runUnderlying9 rfl rfl h113) ?_
   refine FL.call rfl rfl rfl (E.call Try.call21 (A1 rfl)) (w_impl_isLetter S98.sl z112) ?_
   rintro e w114 ⟨rfl, r115⟩
   refine ⟨_, rfl, ?_⟩
   have S116 := S98.call r115
   refine FL.nil ?_
   rcases ifB hp with ⟨c117, hp⟩ | ⟨c117, hp⟩
   ·
    refine FW.condT rfl c117 ?_
    refine FW.region ?_
    refine FL.v (E.move k103) ?_
    refine FL.v (E.move (v := Value.string y70) rfl) ?_
    obtain ⟨z118, h119, hp⟩ := bnd hp
    refine FL.v (E.ixS Try.runUnderlying9 rfl rfl h119) ?_
    refine FL.v (E.subK rfl rfl) ?_
    obtain ⟨u121, z120, hp⟩ := bnd hp
    refine FL.v (E.shl rfl rfl (nn_ge z120)) ?_
    refine FL.v (E.or rfl rfl) ?_
    refine FL.v (E.assign (v := Value.int .i64 (orK true 64 s71 (shlK true 64 1 (wrk false 8 (z118 - 97))))) rfl) ?_
    refine FL.nil (FW.region ?_)
    refine FL.v (E.add k102 rfl) ?_
    refine FL.v (E.move (v := Value.int .i64 (wr (((i71 : Nat) : Int) + 1))) rfl) ?_
    refine FL.nil ?_
    obtain rfl := Option.some.inj hp
    exact ⟨rfl, ⟨_, S116, i99, (nat_succ rfl (lt_of_get hx71) (h67.mono (i53.tr i99)).le), rfl, k104, k105⟩⟩
   ·
    refine FW.condF rfl c117 ?_
    refine FW.skip (FW.region ?_)
    refine FL.v (E.add k102 rfl) ?_
    refine FL.v (E.move (v := Value.int .i64 (wr (((i71 : Nat) : Int) + 1))) rfl) ?_
    refine FL.nil ?_
    obtain rfl := Option.some.inj hp
    exact ⟨rfl, ⟨_, S116, i99, (nat_succ rfl (lt_of_get hx71) (h67.mono (i53.tr i99)).le), k103, k104, k105⟩⟩
  ·
   clear hp hq
   rintro s71 f133 w132 ⟨H129, S130, i131, k134, k135, k136, k137⟩
   refine FW.seq (FW.region ?_)
   refine FL.v (E.lss k134 k137) ?_
   refine FL.nil (FW.seq ?_)
   refine FW.condF rfl dlt_len ?_
   refine FW.exit ?_
   exact ⟨nofun, rfl, ⟨_, S130, i131, k135⟩⟩
  ·
   clear hq
   intro e f127 w126 hD
   rcases q71 with s71 | x71
   ·
    obtain ⟨rfl, hD⟩ := hD
    obtain ⟨H123, S124, i125, k128⟩ := hD
    replace hp := el_go hp
    refine FW.seq (FW.region ?_)
    refine FL.v (E.move k128) ?_
    refine FL.v (E.assign (v := Value.int .i64 s71) rfl) ?_
    refine FL.v (E.assign (v := Value.bool true) rfl) ?_
    refine FL.nil ?_
    refine FW.ret ?_
    obtain rfl := Option.some.inj hp
    exact ⟨.inr rfl, res2 rfl rfl rfl ⟨rfl, S124.back⟩⟩
   ·
    exact x71.elim

set_option maxHeartbeats 4000000 in
theorem w_laws_eqStringS {Ha : GH} {wa : World} (hs : Sl Ha wa) (v0 : Value) (a0 : List ByteArray) (p0 : RSl Ha eS 1 v0 a0) (v1 : Value) (a1 : List ByteArray) (p1 : RSl Ha eS 1 v1 a1) {r : Bool} (hp : (PF.laws_eqStringS a0 a1) = some r) :
  Calls Try.prog 22 #[v0, v1] wa (Sc Ha wa (Value.bool r)) := by
 unfold PF.laws_eqStringS at hp
 have S0 := St.init hs
 refine calls_go (N := 26) (args := [v0, v1]) Try.func22 rfl rfl rfl ?_
 refine FW.seq (FW.region ?_)
 refine FL.v (E.assign (v := Value.bool false) rfl) ?_
 refine FL.nil (FW.seq (FW.seq (FW.region ?_)))
 refine FL.v (E.move (v := v0) rfl) ?_
 refine FL.v (E.lenP te22 rfl p0) ?_
 refine FL.v (E.move (v := v1) rfl) ?_
 refine FL.v (E.lenP te22 rfl p1) ?_
 refine FL.v (E.neq rfl rfl) ?_
 refine FL.nil ?_
 rcases ifB hp with ⟨c21, hp⟩ | ⟨c21, hp⟩
 ·
  refine FW.condT rfl c21 ?_
  refine FW.seq (FW.region ?_)
  refine FL.v (E.assign (v := Value.bool false) rfl) ?_
  refine FL.nil ?_
  refine FW.ret ?_
  obtain rfl := Option.some.inj hp
  exact ⟨.inr rfl, res1 rfl rfl ⟨rfl, S0.back⟩⟩
 ·
  refine FW.condF rfl c21 ?_
  refine FW.skip (FW.seq (FW.seq (FW.region ?_)))
  refine FL.v (E.assign (v := Value.int .i64 0) rfl) ?_
  refine FL.nil ?_
  obtain ⟨q23, hq, hp⟩ := bndR hp
  refine FW.block ?_
  refine FW.mono (FW.forL (S := Unit) (X := Bool) (fun (i23 : Nat) (s23 : Unit) f w => ∃ H : GH, St Ha wa H w [] ∧ Inc Ha H ∧ f 5 = Value.int .i64 ((i23 : Nat) : Int) ∧ f 0 = v0 ∧ f 1 = v1) (fun q e f w => match q with | .go s23 => e = Exit.exit 0 ∧ (∃ H : GH, St Ha wa H w [] ∧ Inc Ha H) | .rt x => ((e = Exit.ret) ∧ (fun e f w => (e = Exit.normal ∨ e = Exit.ret) ∧ ∀ a, Fr (δ := []) 26 a f → ∃ v, (results Try.f22 a.tmps).run Try.prog w = .ok v w ∧ (Sc Ha wa (Value.bool x)) (.returned v) w) e f w)) hq ⟨_, S0, (Inc.rfl _), rfl, rfl, rfl⟩ ?_ ?_) ?_
  ·
   clear hp hq
   rintro i23 y22 s23 f55 w54 ⟨H51, S52, i53, k56, k57, k58⟩ hx23 o78 hp
   refine FW.seq (FW.seq (FW.region ?_))
   refine FL.v (E.move k56) ?_
   refine FL.v (E.move k57) ?_
   refine FL.v (E.lenP te22 rfl p0) ?_
   refine FL.v (E.lssT rfl rfl (lss_len hx23)) ?_
   refine FL.nil ?_
   refine FW.condT rfl rfl ?_
   refine FW.skip (FW.seq (FW.block (FW.seq ?_)))
   refine FW.draw (fun w' => Run w54.heap.size H51 w54 H51 w') (by kernel_rfl) (by kernel_rfl) (run_drew S52.sl) ?_
   refine FD.val rfl rfl rfl (fun w' hw' => (E.move k57)) ?_
   refine FD.val rfl rfl rfl (fun w' hw' => (E.move k56)) ?_
   obtain ⟨p60, cs61, pt62, l63, at64, rel65⟩ := p0.at (ix_nat hx23)
   obtain rfl := eS_open rel65
   refine FD.val rfl rfl rfl (fun w' hw' => (E.indexAddr te22 rfl rfl pt62)) ?_
   refine FD.val rfl rfl rfl (fun w' hw' => (E.load rfl (run_load0 Try.isAgg9 ((at64.mono i53).now (S52.call hw').sl) rfl))) ?_
   refine FD.val rfl rfl rfl (fun w' hw' => (E.move k58)) ?_
   refine FD.val rfl rfl rfl (fun w' hw' => (E.move k56)) ?_
   obtain ⟨x72, hx73, hp⟩ := bnd hp
   obtain ⟨p66, cs67, pt68, l69, at70, rel71⟩ := p1.at hx73
   obtain rfl := eS_open rel71
   refine FD.val rfl rfl rfl (fun w' hw' => (E.indexAddr te22 rfl rfl pt68)) ?_
   refine FD.val rfl rfl rfl (fun w' hw' => (E.load rfl (run_load0 Try.isAgg9 ((at70.mono i53).now (S52.call hw').sl) rfl))) ?_
   refine FD.val rfl rfl rfl (fun w' hw' => (E.neqS rfl rfl)) ?_
   refine FD.nil ?_
   intro w74 r76
   have S75 := S52.call r76
   rcases ifB hp with ⟨c77, hp⟩ | ⟨c77, hp⟩
   ·
    refine FW.condT rfl c77 ?_
    refine FW.seq (FW.region ?_)
    refine FL.v (E.assign (v := Value.bool false) rfl) ?_
    refine FL.nil ?_
    refine FW.ret ?_
    obtain rfl := Option.some.inj hp
    exact ⟨nofun, rfl, ⟨.inr rfl, res1 rfl rfl ⟨rfl, S75.back⟩⟩⟩
   ·
    refine FW.condF rfl c77 ?_
    refine FW.skip (FW.region ?_)
    refine FL.v (E.move k56) ?_
    refine FL.v (E.add rfl rfl) ?_
    refine FL.v (E.assign (v := Value.int .i64 (wr (((i23 : Nat) : Int) + 1))) rfl) ?_
    refine FL.nil ?_
    obtain rfl := Option.some.inj hp
    exact ⟨rfl, ⟨_, S75, i53, (nat_succ rfl (lt_of_get hx23) (p0.mono i53).le), k57, k58⟩⟩
  ·
   clear hp hq
   rintro s23 f88 w87 ⟨H84, S85, i86, k89, k90, k91⟩
   refine FW.seq (FW.seq (FW.region ?_))
   refine FL.v (E.move k89) ?_
   refine FL.v (E.move k90) ?_
   refine FL.v (E.lenP te22 rfl p0) ?_
   refine FL.v (E.lss rfl rfl) ?_
   refine FL.nil ?_
   refine FW.condF rfl dlt_len ?_
   refine FW.exit ?_
   exact ⟨nofun, rfl, ⟨_, S85, i86⟩⟩
  ·
   clear hq
   intro e f83 w82 hD
   rcases q23 with s23 | x23
   ·
    obtain ⟨rfl, hD⟩ := hD
    obtain ⟨H79, S80, i81⟩ := hD
    replace hp := el_go hp
    refine FW.seq (FW.region ?_)
    refine FL.v (E.assign (v := Value.bool true) rfl) ?_
    refine FL.nil ?_
    refine FW.ret ?_
    obtain rfl := Option.some.inj hp
    exact ⟨.inr rfl, res1 rfl rfl ⟨rfl, S80.back⟩⟩
   ·
    obtain ⟨he, hL⟩ := hD
    replace hp := el_rt hp
    obtain rfl := Option.some.inj hp
    subst he
    exact hL

theorem w_laws_eqSequent {Ha : GH} {wa : World} (hs : Sl Ha wa) (a0 : Sequent) (v0_0 : Value) (p0_0 : RSl Ha eS 1 v0_0 a0.left) (v0_1 : Value) (p0_1 : RSl Ha eS 1 v0_1 a0.right) (a1 : Sequent) (v1_0 : Value) (p1_0 : RSl Ha eS 1 v1_0 a1.left) (v1_1 : Value) (p1_1 : RSl Ha eS 1 v1_1 a1.right) {r : Bool} (hp : (PF.laws_eqSequent a0 a1) = some r) :
  Calls Try.prog 9 #[Value.agg #[v0_0, v0_1], Value.agg #[v1_0, v1_1]] wa (Sc Ha wa (Value.bool r)) := by
 unfold PF.laws_eqSequent at hp
 have S0 := St.init hs
 refine calls_go (N := 17) (args := [Value.agg #[v0_0, v0_1], Value.agg #[v1_0, v1_1]]) Try.func9 rfl rfl rfl ?_
 refine FW.seq (FW.region ?_)
 obtain ⟨b21, w22, run23, S24⟩ := S0.box (P := Try.prog) 28 [v0_0, v0_1] (v := Value.agg #[v0_0, v0_1]) rfl (ones_cons p0_0.one (ones_cons p0_1.one ones_nil))
 refine FL.v (E.box rfl run23) ?_
 obtain ⟨H25, S26, i27, at28⟩ := S24.sealBox (i := 0) (l' := []) rfl rfl
 obtain ⟨b29, w30, run31, S32⟩ := S26.box (P := Try.prog) 28 [v1_0, v1_1] (v := Value.agg #[v1_0, v1_1]) rfl (ones_cons p1_0.one (ones_cons p1_1.one ones_nil))
 refine FL.v (E.box rfl run31) ?_
 obtain ⟨H33, S34, i35, at36⟩ := S32.sealBox (i := 0) (l' := []) rfl rfl
 refine FL.v (E.assign (v := Value.bool false) rfl) ?_
 refine FL.nil (FW.seq (FW.seq (FW.region ?_)))
 refine FL.v (E.fieldAddr tf28_0 rfl) ?_
 refine FL.v (E.load rfl (run_load1 Try.isAgg22 ((at28.mono i35).now S34.sl) rfl)) ?_
 refine FL.v (E.fieldAddr tf28_0 rfl) ?_
 refine FL.v (E.load rfl (run_load1 Try.isAgg22 (at36.now S34.sl) rfl)) ?_
 obtain ⟨r37, hr38, hp⟩ := bnd hp
 refine FL.call rfl rfl rfl (E.call Try.call22 (A2 rfl rfl)) (w_laws_eqStringS S34.sl v0_0 a0.left (p0_0.mono (i27.tr i35)) v1_0 a1.left (p1_0.mono (i27.tr i35)) hr38) ?_
 rintro e w39 ⟨rfl, r40⟩
 refine ⟨_, rfl, ?_⟩
 have S41 := S34.call r40
 refine FL.v (E.not rfl) ?_
 refine FL.nil ?_
 rcases ifB hp with ⟨c42, hp⟩ | ⟨c42, hp⟩
 ·
  refine FW.condT rfl c42 ?_
  refine FW.seq (FW.region ?_)
  refine FL.v (E.assign (v := Value.bool false) rfl) ?_
  refine FL.nil ?_
  refine FW.ret ?_
  obtain rfl := Option.some.inj hp
  exact ⟨.inr rfl, res1 rfl rfl ⟨rfl, S41.back⟩⟩
 ·
  refine FW.condF rfl c42 ?_
  refine FW.skip (FW.seq (FW.seq (FW.region ?_)))
  refine FL.v (E.fieldAddr tf28_1 rfl) ?_
  refine FL.v (E.load rfl (run_load1 Try.isAgg22 ((at28.mono i35).now S41.sl) rfl)) ?_
  refine FL.v (E.fieldAddr tf28_1 rfl) ?_
  refine FL.v (E.load rfl (run_load1 Try.isAgg22 (at36.now S41.sl) rfl)) ?_
  obtain ⟨r43, hr44, hp⟩ := bnd hp
  refine FL.call rfl rfl rfl (E.call Try.call22 (A2 rfl rfl)) (w_laws_eqStringS S41.sl v0_1 a0.right (p0_1.mono (i27.tr i35)) v1_1 a1.right (p1_1.mono (i27.tr i35)) hr44) ?_
  rintro e w45 ⟨rfl, r46⟩
  refine ⟨_, rfl, ?_⟩
  have S47 := S41.call r46
  refine FL.v (E.not rfl) ?_
  refine FL.nil ?_
  rcases ifB hp with ⟨c48, hp⟩ | ⟨c48, hp⟩
  ·
   refine FW.condT rfl c48 ?_
   refine FW.seq (FW.region ?_)
   refine FL.v (E.assign (v := Value.bool false) rfl) ?_
   refine FL.nil ?_
   refine FW.ret ?_
   obtain rfl := Option.some.inj hp
   exact ⟨.inr rfl, res1 rfl rfl ⟨rfl, S47.back⟩⟩
  ·
   refine FW.condF rfl c48 ?_
   refine FW.skip (FW.seq (FW.region ?_))
   refine FL.v (E.assign (v := Value.bool true) rfl) ?_
   refine FL.nil ?_
   refine FW.ret ?_
   obtain rfl := Option.some.inj hp
   exact ⟨.inr rfl, res1 rfl rfl ⟨rfl, S47.back⟩⟩

set_option maxHeartbeats 4000000 in
theorem w_laws_FnExactOpenBits {Ha : GH} {wa : World} (hs : Sl Ha wa) (a0 : Sequent) (v0_0 : Value) (p0_0 : RSl Ha eS 1 v0_0 a0.left) (v0_1 : Value) (p0_1 : RSl Ha eS 1 v0_1 a0.right) {r : Bool} (hp : (PF.laws_FnExactOpenBits a0) = some r) :
  Calls Try.prog 3 #[Value.agg #[v0_0, v0_1]] wa (Sc Ha wa (Value.bool r)) := by
 unfold PF.laws_FnExactOpenBits at hp
 have S0 := St.init hs
 refine calls_go (N := 40) (args := [Value.agg #[v0_0, v0_1]]) Try.func3 rfl rfl rfl ?_
 refine FW.seq (FW.region ?_)
 obtain ⟨w21, run22, S23, z24⟩ := S0.boxB (P := Try.prog) 24 [v0_0, v0_1] (v := Value.agg #[v0_0, v0_1]) rfl (ones_cons p0_0.one (ones_cons p0_1.one ones_nil))
 refine FL.v (E.box rfl run22) ?_
 obtain ⟨H25, S26, i27, at28⟩ := S23.sealBoxB (i := 0) (l' := []) rfl rfl
 refine FL.v (E.assign (v := Value.bool false) rfl) ?_
 refine FL.nil (FW.seq (FW.region ?_))
 refine FL.v (E.assign (v := Value.int .i64 1048576) rfl) ?_
 refine FL.nil (FW.seq (FW.region ?_))
 refine FL.v (E.load rfl (run_loadA Try.isAgg24 Try.sizeOf24 ((at28.mono sgI).now S26.sl) rfl)) ?_
 refine FL.v (E.move (v := Value.int .i64 1048576) rfl) ?_
 obtain ⟨r29, hr30, hp⟩ := bnd hp
 refine FL.call rfl rfl rfl (E.call Try.call5 (A2 rfl rfl)) (w_laws_szSequent S26.sl a0 v0_0 (p0_0.mono i27) v0_1 (p0_1.mono i27) 1048576 hr30) ?_
 rintro e w31 ⟨rfl, r32⟩
 refine ⟨_, rfl, ?_⟩
 have S33 := S26.call r32
 have z34 := r32.bel.size
 refine FL.v (E.assign (v := Value.int .i64 r29) rfl) ?_
 refine FL.nil (FW.seq (FW.seq (FW.region ?_)))
 refine FL.v (E.move (v := Value.int .i64 r29) rfl) ?_
 refine FL.v (E.lss rfl rfl) ?_
 refine FL.nil ?_
 rcases ifB hp with ⟨c35, hp⟩ | ⟨c35, hp⟩
 ·
  refine FW.condT rfl c35 ?_
  refine FW.seq (FW.region ?_)
  refine FL.v (E.assign (v := Value.bool true) rfl) ?_
  refine FL.nil ?_
  refine FW.ret ?_
  obtain rfl := Option.some.inj hp
  exact ⟨.inr rfl, res1 rfl rfl ⟨rfl, S33.back⟩⟩
 ·
  refine FW.condF rfl c35 ?_
  refine FW.skip (FW.seq (FW.region ?_))
  refine FL.v (E.load rfl (run_loadA Try.isAgg24 Try.sizeOf24 ((at28.mono sgI).now S33.sl) rfl)) ?_
  obtain ⟨r36, hr37, hp⟩ := bnd hp
  refine FL.call rfl rfl rfl (E.call Try.call7 (A1 rfl)) (w_laws_toSequent S33.sl a0 v0_0 (p0_0.mono i27) v0_1 (p0_1.mono i27) hr37) ?_
  rintro e w39 ⟨H38, v42, v48, rfl, r41, ⟨c45, c51, ns44, ns50, ap54⟩⟩
  refine ⟨_, rfl, ?_⟩
  have h43 := ns44.rsl
  have nv46 : New H25 c45 := New.of_up S33.sl (fun b hb => ns44.dom b (.inr hb))
  have nv47 : New H25 [v42] := New.of_up S33.sl h43.dom
  have h49 := ns50.rsl
  have nv52 : New H25 c51 := New.of_up S33.sl (fun b hb => ns50.dom b (.inr hb))
  have nv53 : New H25 [v48] := New.of_up S33.sl h49.dom
  have S40 := S33.call r41
  have z55 := r41.bel.size
  have h43 := h43.mono (sg_of S40.sl)
  have ns44 := ns44.mono (sg_of S40.sl)
  have h49 := h49.mono (sg_of S40.sl)
  have ns50 := ns50.mono (sg_of S40.sl)
  obtain ⟨r56, hr57, hp⟩ := bnd hp
  refine FL.call rfl rfl rfl (E.call Try.call6 (A1 rfl)) (w_spec_OpenBits S40.sl r36 v42 (h43.mono sgI) v48 (h49.mono sgI) hr57) ?_
  rintro e w58 ⟨rfl, r59⟩
  refine ⟨_, rfl, ?_⟩
  have S60 := S40.call r59
  have z61 := r59.bel.size
  refine FL.v (E.move (v := Value.tuple #[Value.int .i64 r56.1, Value.bool r56.2]) rfl) ?_
  refine FL.v (E.extract (i := 0) rfl rfl) ?_
  refine FL.v (E.extract (i := 1) rfl rfl) ?_
  refine FL.v (E.assign (v := Value.int .i64 r56.1) rfl) ?_
  refine FL.v (E.assign (v := Value.bool r56.2) rfl) ?_
  refine FL.nil (FW.seq (FW.region ?_))
  refine FL.v (E.load rfl (run_loadA Try.isAgg24 Try.sizeOf24 ((at28.mono (sgI.tr r41.inc)).now S60.sl) rfl)) ?_
  obtain ⟨r62, hr63, hp⟩ := bnd hp
  refine FL.call rfl rfl rfl (E.call Try.call7 (A1 rfl)) (w_laws_toSequent S60.sl a0 v0_0 (p0_0.mono (i27.tr r41.inc)) v0_1 (p0_1.mono (i27.tr r41.inc)) hr63) ?_
  rintro e w65 ⟨H64, v68, v74, rfl, r67, ⟨c71, c77, ns70, ns76, ap80⟩⟩
  refine ⟨_, rfl, ?_⟩
  have h69 := ns70.rsl
  have nv72 : New H38 c71 := New.of_up S60.sl (fun b hb => ns70.dom b (.inr hb))
  have nv73 : New H38 [v68] := New.of_up S60.sl h69.dom
  have h75 := ns76.rsl
  have nv78 : New H38 c77 := New.of_up S60.sl (fun b hb => ns76.dom b (.inr hb))
  have nv79 : New H38 [v74] := New.of_up S60.sl h75.dom
  have S66 := S60.call r67
  have z81 := r67.bel.size
  have h69 := h69.mono (sg_of S66.sl)
  have ns70 := ns70.mono (sg_of S66.sl)
  have h75 := h75.mono (sg_of S66.sl)
  have ns76 := ns76.mono (sg_of S66.sl)
  obtain ⟨w82, run83, S84, z85⟩ := S66.allocB (P := Try.prog) 28 [Value.slice none 0 0, Value.slice none 0 0] Try.zeroValue28 rfl (ones_cons rfl (ones_cons rfl ones_nil))
  refine FL.v (E.alloc run83) ?_
  obtain ⟨w86, run87, S88, z89⟩ := S84.store0B (P := Try.prog) (t := 28) (i := 0) (cs' := [v68, v74]) (l' := [.box w65.heap.size 28 [v68, v74]]) (v := Value.agg #[v68, v74]) (c := [v68, v74]) rfl Try.sizeOf28 rfl rfl (ones_cons h69.one (ones_cons h75.one ones_nil)) (Nat.le_of_ble_eq_true rfl) rfl rfl
  refine FL.act rfl rfl (E.store rfl rfl run87) ?_
  obtain ⟨H90, S91, i92, at93⟩ := S88.sealBoxB (i := 0) (l' := []) rfl rfl
  refine FL.nil (FW.seq (FW.region ?_))
  refine FL.v (E.load rfl (run_loadA Try.isAgg28 Try.sizeOf28 ((at93.mono sgI).now S91.sl) rfl)) ?_
  obtain ⟨r94, hr95, hp⟩ := bnd hp
  refine FL.call rfl rfl rfl (E.call Try.call8 (A1 rfl)) (w_impl_OpenBits S91.sl r62 v68 (h69.mono (sgI.tr i92)) v74 (h75.mono (sgI.tr i92)) hr95) ?_
  rintro e w96 ⟨rfl, r97⟩
  refine ⟨_, rfl, ?_⟩
  have S98 := S91.call r97
  have z99 := r97.bel.size
  refine FL.v (E.move (v := Value.tuple #[Value.int .i64 r94.1, Value.bool r94.2]) rfl) ?_
  refine FL.v (E.extract (i := 0) rfl rfl) ?_
  refine FL.v (E.extract (i := 1) rfl rfl) ?_
  refine FL.v (E.assign (v := Value.int .i64 r94.1) rfl) ?_
  refine FL.v (E.assign (v := Value.bool r94.2) rfl) ?_
  refine FL.nil (FW.seq (FW.seq (FW.region ?_)))
  refine FL.v (E.move (v := Value.int .i64 r94.1) rfl) ?_
  refine FL.v (E.move (v := Value.int .i64 r56.1) rfl) ?_
  refine FL.v (E.neq rfl rfl) ?_
  refine FL.v (E.move (v := Value.bool (!(r94.1 == r56.1))) rfl) ?_
  refine FL.cut 4 (fun f w => ∃ H : GH, St Ha wa H w [] ∧ Inc H90 H ∧ f 1 = Value.pointer (some ⟨wa.heap.size, 0, none⟩) ∧ f 6 = Value.pointer (some ⟨w65.heap.size, 0, none⟩) ∧ f 34 = Value.bool (bif (!(r94.1 == r56.1)) then true else (!(r94.2 == r56.2)))) ?_ ?_
  ·
   rcases bcase (!(r94.1 == r56.1)) with c106 | c106
   ·
    refine FL.skip (wF_no rfl rfl rfl c106) rfl ?_
    refine FL.skip (wF_no rfl rfl rfl c106) rfl ?_
    refine FL.skip (wF_no rfl rfl rfl c106) rfl ?_
    refine FL.v (E.pickT rfl c106 rfl) ?_
    exact FL.nil ⟨rfl, _, S98, (Inc.rfl _), rfl, rfl, (congrArg Value.bool (bifT c106).symm)⟩
   ·
    refine FL.val (wF_yes rfl rfl rfl c106) rfl rfl (E.move (v := Value.bool r94.2) rfl) ?_
    refine FL.val (wF_yes rfl rfl rfl c106) rfl rfl (E.move (v := Value.bool r56.2) rfl) ?_
    refine FL.val (wF_yes rfl rfl rfl c106) rfl rfl (E.neqB Try.runUnderlying4 rfl rfl) ?_
    refine FL.v (E.pickF rfl c106 rfl) ?_
    exact FL.nil ⟨rfl, _, S98, (Inc.rfl _), rfl, rfl, (congrArg Value.bool (bifF c106).symm)⟩
  rintro f105 w104 ⟨H101, S102, i103, k107, k108, k109⟩
  refine FL.nil ?_
  rcases ifB hp with ⟨c110, hp⟩ | ⟨c110, hp⟩
  ·
   refine FW.condT k109 c110 ?_
   refine FW.seq (FW.region ?_)
   refine FL.v (E.assign (v := Value.bool false) rfl) ?_
   refine FL.nil ?_
   refine FW.ret ?_
   obtain rfl := Option.some.inj hp
   exact ⟨.inr rfl, res1 rfl rfl ⟨rfl, S102.back⟩⟩
  ·
   refine FW.condF k109 c110 ?_
   refine FW.skip (FW.seq (FW.seq ?_))
   obtain ⟨r100, hr114, hp⟩ := bnd hp
   obtain ⟨r133, hr134, hp⟩ := bnd hp
   refine FW.drawB (Sl H101) (fun f w => ∃ H : GH, St Ha wa H w [] ∧ Inc H101 H ∧ f 39 = Value.bool (!r133)) (by kernel_rfl) S102.sl ?_ ?_
   ·
    intro w111 r112
    have S113 := S102.call r112
    refine FB.t (i := 0) (bs 5 1) rfl (SP.nil S113.sl) rfl (fun w' hw' => (E.load k108 (run_loadA Try.isAgg28 Try.sizeOf28 ((at93.mono (sgI.tr i103)).now hw') rfl))) ?_
    refine FB.t (i := 1) (bs 5 3) rfl (SP.nil S113.sl) rfl (fun w' hw' => (E.load k107 (run_loadA Try.isAgg24 Try.sizeOf24 ((at28.mono (sgI.tr (((r41.inc.tr r67.inc).tr i92).tr i103))).now hw') rfl))) ?_
    refine FB.all1 (i := 2) (by kernel_rfl) ?_
    ·
     refine FC.call (l' := (bs 5 7)) rfl (by kernel_rfl) rfl rfl rfl (E.call Try.call7 (A1 rfl)) (w_laws_toSequent S113.sl a0 v0_0 (p0_0.mono ((((i27.tr r41.inc).tr r67.inc).tr i92).tr i103)) v0_1 (p0_1.mono ((((i27.tr r41.inc).tr r67.inc).tr i92).tr i103)) hr114) ?_
     rintro e w116 ⟨H115, v119, v125, rfl, r118, ⟨c122, c128, ns121, ns127, ap131⟩⟩
     refine ⟨_, rfl, ?_⟩
     have h120 := ns121.rsl
     have nv123 : New H101 c122 := New.of_up S113.sl (fun b hb => ns121.dom b (.inr hb))
     have nv124 : New H101 [v119] := New.of_up S113.sl h120.dom
     have h126 := ns127.rsl
     have nv129 : New H101 c128 := New.of_up S113.sl (fun b hb => ns127.dom b (.inr hb))
     have nv130 : New H101 [v125] := New.of_up S113.sl h126.dom
     have S117 := S113.call r118
     have z132 := r118.bel.size
     have h120 := h120.mono (sg_of S117.sl)
     have ns121 := ns121.mono (sg_of S117.sl)
     have h126 := h126.mono (sg_of S117.sl)
     have ns127 := ns127.mono (sg_of S117.sl)
     refine ⟨(SP.nil (Sl.of_inc r118.inc S117.sl)), ?_⟩
     refine FB.all1 (i := 3) (by kernel_rfl) ?_
     ·
      refine FC.call (l' := (bs 5 15)) rfl (by kernel_rfl) rfl rfl rfl (E.call Try.call9 (A2 rfl rfl)) (w_laws_eqSequent S117.sl r62 v68 (h69.mono (sgI.tr ((i92.tr i103).tr r118.inc))) v74 (h75.mono (sgI.tr ((i92.tr i103).tr r118.inc))) r100 v119 (h120.mono sgI) v125 (h126.mono sgI) hr134) ?_
      rintro e w135 ⟨rfl, r136⟩
      refine ⟨_, rfl, ?_⟩
      have S137 := S117.call r136
      have z138 := r136.bel.size
      refine ⟨(SP.nil (Sl.of_inc r118.inc S137.sl)), ?_⟩
      refine FB.t (i := 4) (bs 5 31) rfl (SP.nil (Sl.of_inc r118.inc S137.sl)) rfl (fun w' hw' => (E.not rfl)) ?_
      exact FB.done (by kernel_rfl) ⟨_, S137, r118.inc, rfl⟩
   ·
    rintro f143 w142 ⟨H139, S140, i141, k144⟩
    rcases ifB hp with ⟨c145, hp⟩ | ⟨c145, hp⟩
    ·
     refine FW.condT k144 c145 ?_
     refine FW.seq (FW.region ?_)
     refine FL.v (E.assign (v := Value.bool false) rfl) ?_
     refine FL.nil ?_
     refine FW.ret ?_
     obtain rfl := Option.some.inj hp
     exact ⟨.inr rfl, res1 rfl rfl ⟨rfl, S140.back⟩⟩
    ·
     refine FW.condF k144 c145 ?_
     refine FW.skip (FW.seq (FW.region ?_))
     refine FL.v (E.assign (v := Value.bool true) rfl) ?_
     refine FL.nil ?_
     refine FW.ret ?_
     obtain rfl := Option.some.inj hp
     exact ⟨.inr rfl, res1 rfl rfl ⟨rfl, S140.back⟩⟩

end Go.Proofs
