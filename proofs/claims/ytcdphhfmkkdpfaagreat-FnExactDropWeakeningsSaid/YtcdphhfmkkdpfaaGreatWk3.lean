/- Part of the walks and plain laws behind the claim: it proves helpers, under no condition beyond their own. -/
import Derived.Test.YtcdphhfmkkdpfaaGreatWk2
set_option linter.unusedVariables false
set_option maxRecDepth 100000
namespace Go.Proofs
open Go.Mr Go.Pu Go.PF Go.RowKit

@[reducible] def p_impl_dropWeakenings (Ha : GH) (wa : World) (r : (List ResStep)) : Ending → World → Prop :=
  fun e w' => ∃ H' : GH, ∃ v0 : Value, ∃ n0 : Nat, ∃ c0 : List Value, e = .returned (v0) ∧ St Ha wa H' w' [.row 89 4 v0 n0 c0] ∧ Els (up wa.heap.size H') eResStep 4 c0 r ∧ (bl c0).Nodup
set_option maxHeartbeats 4000000 in
theorem w_impl_dropWeakenings {Ha : GH} {wa : World} (hs : Sl Ha wa) (v0 : Value) (a0 : List ResStep) (p0 : RSl Ha eResStep 4 v0 a0) {r : (List ResStep)} (hp : (PF.impl_dropWeakenings a0) = some r) :
    Calls Tryz.prog 75 #[v0] wa (p_impl_dropWeakenings Ha wa r) := by
  unfold PF.impl_dropWeakenings at hp
  have S0 := St.init hs
  refine calls_go (N := 66) (args := [v0]) Tryz.func75 rfl rfl rfl ?_
  refine FW.seq ?_
  refine FW.region ?_
  refine FL.val rfl rfl rfl (E.assign (v := Value.slice none 0 0) rfl) ?_
  refine FL.nil ?_
  refine FW.seq ?_
  refine FW.region ?_
  refine FL.val rfl rfl rfl (E.build (B0) (run_build _ 97 #[] #[Value.slice none 0 0, Value.slice none 0 0] (by rfl))) ?_
  have S25 := S0.nil 89 4
  have els26 : Els (up wa.heap.size Ha) eResStep 4 [] [] := Els.nil
  have S27 := S25.nil 3 1
  have els28 : Els (up wa.heap.size Ha) eI 1 [] [] := Els.nil
  obtain ⟨b21, w22, run23, S24⟩ := S27.box (P := Tryz.prog) 97 [(Value.slice none 0 0), (Value.slice none 0 0)] (v := Value.agg #[Value.slice none 0 0, Value.slice none 0 0]) rfl (ones_cons (Ln.one (S27.row_ln (i := 1) rfl)) (ones_cons (Ln.one (S27.row_ln (i := 0) rfl)) ones_nil))
  refine FL.val rfl rfl rfl (E.box rfl run23) ?_
  refine FL.val rfl rfl rfl (E.assign (v := Value.pointer (some (⟨b21, 0, none⟩ : Addr))) rfl) ?_
  refine FL.nil ?_
  refine FW.seq ?_
  refine FW.seq ?_
  refine FW.region ?_
  refine FL.val rfl rfl rfl (E.move (v := v0) rfl) ?_
  refine FL.val rfl rfl rfl (E.lenP te28 rfl p0) ?_
  refine FL.val rfl rfl rfl (E.move (v := Value.int .i64 0) rfl) ?_
  refine FL.nil ?_
  obtain ⟨q30, hq, hp⟩ := bndR hp
  refine FW.block ?_
  refine FW.mono (FW.forL (S := ((List Int) × (List ResStep))) (X := Empty) (fun (i30 : Nat) (s30 : ((List Int) × (List ResStep))) f w => ∃ H : GH, ∃ v108170 : Value, ∃ n108171 : Nat, ∃ cs108172 : List Value, ∃ v108174 : Value, ∃ n108175 : Nat, ∃ cs108176 : List Value, St Ha wa H w [.box b21 97 [v108174, v108170], .row 3 1 v108170 n108171 cs108172, .row 89 4 v108174 n108175 cs108176] ∧ Inc Ha H ∧ Els (up wa.heap.size H) eI 1 cs108172 s30.1 ∧ Els (up wa.heap.size H) eResStep 4 cs108176 s30.2 ∧ (bl cs108176).Nodup ∧ f 11 = Value.int .i64 ((i30 : Nat) : Int) ∧ f 3 = Value.pointer (some (⟨b21, 0, none⟩ : Addr)) ∧ f 9 = v0 ∧ f 10 = Value.int .i64 (len a0)) (fun (q : Rs ((List Int) × (List ResStep)) Empty) e f w => match q with | .go s30 => e = Exit.exit 0 ∧ (∃ H : GH, ∃ v108170 : Value, ∃ n108171 : Nat, ∃ cs108172 : List Value, ∃ v108174 : Value, ∃ n108175 : Nat, ∃ cs108176 : List Value, St Ha wa H w [.box b21 97 [v108174, v108170], .row 3 1 v108170 n108171 cs108172, .row 89 4 v108174 n108175 cs108176] ∧ Inc Ha H ∧ Els (up wa.heap.size H) eI 1 cs108172 s30.1 ∧ Els (up wa.heap.size H) eResStep 4 cs108176 s30.2 ∧ (bl cs108176).Nodup ∧ f 3 = Value.pointer (some (⟨b21, 0, none⟩ : Addr))) | .rt x => x.elim) hq ⟨_, _, _, _, _, _, _, S24, (Inc.rfl _), els28, els26, (show (bl []).Nodup from List.nodup_nil), rfl, rfl, rfl, rfl⟩ ?_ ?_) ?_
  ·
    clear hp hq
    rintro i30 y29 s30 f216322 w216321 ⟨H216318, v108170, n108171, cs108172, v108174, n108175, cs108176, S216319, i216320, els108173, els108177, nd108178, k216323, k216324, k216325, k216326⟩ hx30 o471552 hp
    refine FW.seq ?_
    refine FW.region ?_
    refine FL.val rfl rfl rfl (E.lssT k216323 k216326 (lss_len hx30)) ?_
    refine FL.nil ?_
    refine FW.seq ?_
    refine FW.condT rfl rfl ?_
    refine FW.skip ?_
    refine FW.seq ?_
    refine FW.block ?_
    refine FW.seq ?_
    refine FW.region ?_
    obtain ⟨p216327, cs216328, pt216329, l216330, at216331, rel216332⟩ := p0.at (ix_nat hx30)
    obtain ⟨v216333, rfl, h216334⟩ := eResStep_open rel216332
    refine FL.val rfl rfl rfl (E.indexAddr te28 k216325 k216323 pt216329) ?_
    refine FL.val rfl rfl rfl (E.load rfl (run_loadA Tryz.isAgg89 Tryz.sizeOf89 ((at216331.mono i216320).now S216319.sl) rfl)) ?_
    obtain ⟨b216335, w216336, run216337, S216338⟩ := S216319.alloc (P := Tryz.prog) 89 [Value.slice none 0 0, Value.int .i64 0, Value.int .i64 0, Value.int .i64 0] Tryz.zeroValue89 rfl (ones_cons rfl (ones_cons rfl (ones_cons rfl (ones_cons rfl ones_nil))))
    refine FL.val rfl rfl rfl (E.alloc run216337) ?_
    obtain ⟨w216339, run216340, S216341⟩ := S216338.store0 (P := Tryz.prog) (t := 89) (i := 0) (cs' := [v216333, Value.int .i64 y29.left, Value.int .i64 y29.right, Value.int .i64 y29.pivot]) (l' := [.box b216335 89 [v216333, Value.int .i64 y29.left, Value.int .i64 y29.right, Value.int .i64 y29.pivot], .box b21 97 [v108174, v108170], .row 3 1 v108170 n108171 cs108172, .row 89 4 v108174 n108175 cs108176]) (v := Value.agg #[v216333, Value.int .i64 y29.left, Value.int .i64 y29.right, Value.int .i64 y29.pivot]) (c := [v216333, Value.int .i64 y29.left, Value.int .i64 y29.right, Value.int .i64 y29.pivot]) rfl Tryz.sizeOf89 rfl rfl (ones_cons h216334.one (ones_cons rfl (ones_cons rfl (ones_cons rfl ones_nil)))) (Nat.le_of_ble_eq_true rfl) rfl rfl
    refine FL.act rfl rfl (E.store rfl rfl run216340) ?_
    obtain ⟨H216342, S216343, i216344, at216345⟩ := S216341.sealBox (i := 0) (l' := [.box b21 97 [v108174, v108170], .row 3 1 v108170 n108171 cs108172, .row 89 4 v108174 n108175 cs108176]) rfl rfl
    refine FL.nil ?_
    refine FW.seq ?_
    refine FW.region ?_
    refine FL.val rfl rfl rfl (E.assign (v := Value.int .i64 0) rfl) ?_
    refine FL.nil ?_
    refine FW.seq ?_
    obtain ⟨q324421, hq, hp⟩ := bndR hp
    refine FW.joinE (S := ((List ResStep) × Int)) (X := Empty) (q := q324421) (fun s324420 f w => ∃ H : GH, ∃ v324423 : Value, ∃ n324424 : Nat, ∃ cs324425 : List Value, St Ha wa H w [.box b21 97 [v324423, v108170], .row 3 1 v108170 n108171 cs108172, .row 89 4 v324423 n324424 cs324425] ∧ Inc H216342 H ∧ Els (up wa.heap.size H) eResStep 4 cs324425 s324420.1 ∧ (bl cs324425).Nodup ∧ f 3 = Value.pointer (some (⟨b21, 0, none⟩ : Addr)) ∧ f 6 = Value.int .i64 s324420.2 ∧ f 9 = v0 ∧ f 10 = Value.int .i64 (len a0) ∧ f 11 = Value.int .i64 ((i30 : Nat) : Int)) (fun (_ : Empty) _ _ _ => False) ?_ ?_ ?_
    ·
      clear hp; have hp := hq; clear hq
      refine FW.block ?_
      refine FW.seq ?_
      refine FW.region ?_
      refine FL.val rfl rfl rfl (E.load rfl (run_loadA Tryz.isAgg89 Tryz.sizeOf89 (at216345.now S216343.sl) rfl)) ?_
      refine FL.call rfl rfl rfl (E.call Tryz.call87 (A1 rfl)) (w_impl_ResStep_isAxiom S216343.sl y29 v216333 (h216334.mono (i216320.tr i216344))) ?_
      rintro e w324428 ⟨rfl, r324429⟩
      refine ⟨_, rfl, ?_⟩
      have S324430 := S216343.call r324429
      refine FL.val rfl rfl rfl (E.assign (v := Value.bool (PF.impl_ResStep_isAxiom y29)) rfl) ?_
      refine FL.nil ?_
      rcases ifB hp with ⟨c324431, hp⟩ | ⟨c324431, hp⟩
      ·
        refine FW.condT rfl c324431 ?_
        refine FW.region ?_
        refine FL.val rfl rfl rfl (E.move k216324) ?_
        refine FL.val rfl rfl rfl (E.load rfl (run_loadA Tryz.isAgg89 Tryz.sizeOf89 (at216345.now S324430.sl) rfl)) ?_
        obtain ⟨r324432, hr324433, hp⟩ := bnd hp
        refine FL.call rfl rfl rfl (E.call Tryz.call137 (A2 rfl rfl)) (w_impl_ResStep_moved S324430.sl y29 v216333 (h216334.mono (i216320.tr i216344)) Value.nilFunc (fun _ => none) (fun _ _ _ _ _ r hr => nomatch hr) hr324433) ?_
        rintro e w324435 ⟨H324434, v324438, rfl, r324437, h324439⟩
        refine ⟨_, rfl, ?_⟩
        have nv324440 : New H216342 [v324438] := New.of_up S324430.sl h324439.dom
        have h324439 := h324439.mono (up_le S324430.size)
        have S324436 := S324430.call r324437
        obtain ⟨s363460, hq363460, hp⟩ := bnd hp
        obtain ⟨R363460, hR363460⟩ : ∃ R363460 : ((List ResStep) × Int) → Ending → World → Prop, R363460 = (fun s363460 e w => ∃ H : GH, ∃ v363461 : Value, ∃ n363462 : Nat, ∃ cs363463 : List Value, e = Ending.returned (Value.int .i64 s363460.2) ∧ St Ha wa H w [.box b21 97 [v363461, v108170], .row 3 1 v108170 n108171 cs108172, .row 89 4 v363461 n363462 cs363463] ∧ Inc H324434 H ∧ Els (up wa.heap.size H) eResStep 4 cs363463 s363460.1 ∧ (bl cs363463).Nodup) := ⟨_, rfl⟩
        have hc363460 : Calls Tryz.prog 136 #[Value.pointer (some (⟨b21, 0, none⟩ : Addr)), Value.agg #[v324438, Value.int .i64 r324432.left, Value.int .i64 r324432.right, Value.int .i64 r324432.pivot]] w324435 (R363460 s363460) := by
          clear hp; have hp := hq363460; clear hq363460
          refine calls_go (N := 21) (args := [Value.pointer (some (⟨b21, 0, none⟩ : Addr)), Value.agg #[v324438, Value.int .i64 r324432.left, Value.int .i64 r324432.right, Value.int .i64 r324432.pivot]]) Tryz.func136 rfl rfl rfl ?_
          refine FW.seq ?_
          refine FW.region ?_
          obtain ⟨b363466, w363467, run363468, S363469⟩ := S324436.box (P := Tryz.prog) 89 [v324438, Value.int .i64 r324432.left, Value.int .i64 r324432.right, Value.int .i64 r324432.pivot] (v := Value.agg #[v324438, Value.int .i64 r324432.left, Value.int .i64 r324432.right, Value.int .i64 r324432.pivot]) rfl (ones_cons h324439.one (ones_cons rfl (ones_cons rfl (ones_cons rfl ones_nil))))
          refine FL.val rfl rfl rfl (E.box rfl run363468) ?_
          obtain ⟨H363470, S363471, i363472, at363473⟩ := S363469.sealBox (i := 0) (l' := [.box b21 97 [v108174, v108170], .row 3 1 v108170 n108171 cs108172, .row 89 4 v108174 n108175 cs108176]) rfl rfl
          refine FL.val rfl rfl rfl (E.assign (v := Value.int .i64 0) rfl) ?_
          refine FL.nil ?_
          refine FW.seq ?_
          obtain ⟨xs387474, hz387475, hp⟩ := bnd hp
          refine FW.drawB (Sl H363470) (fun f w => ∃ H : GH, ∃ v402474 : Value, ∃ n402475 : Nat, ∃ cs402476 : List Value, St Ha wa H w [.box b21 97 [v402474, v108170], .row 3 1 v108170 n108171 cs108172, .row 89 4 v402474 n402475 cs402476] ∧ Inc H363470 H ∧ Els (up wa.heap.size H) eResStep 4 cs402476 xs387474 ∧ (bl cs402476).Nodup ∧ f 0 = Value.pointer (some (⟨b21, 0, none⟩ : Addr))) (by kernel_rfl) S363471.sl ?_ ?_
          ·
            intro w363474 r363475
            have S363476 := S363471.call r363475
            refine FB.phase [10] (fun w => WAt w (Addr.add ⟨b21, 0, none⟩ 0) [v108174]) ?_
            refine FB.take (i := 0) (l' := #[true, false, false, false, false, false, false, false, false, false, false]) rfl (by kernel_rfl) (by kernel_rfl) (by kernel_rfl) (by kernel_rfl) (by kernel_rfl) (SP.on ((S363476.box_now (i := 0) rfl).sub (j := 0) (n := 1) (c := [v108174]) rfl) (SP.nil S363476.sl)) rfl rfl rfl (fun w' hw' => (E.move (v := Value.pointer (some (⟨b21, 0, none⟩ : Addr))) rfl)) ?_
            refine FB.take (i := 1) (l' := #[true, true, false, false, false, false, false, false, false, false, false]) rfl (by kernel_rfl) (by kernel_rfl) (by kernel_rfl) (by kernel_rfl) (by kernel_rfl) (SP.on ((S363476.box_now (i := 0) rfl).sub (j := 0) (n := 1) (c := [v108174]) rfl) (SP.nil S363476.sl)) rfl rfl rfl (fun w' hw' => (E.move (v := Value.pointer (some (⟨b21, 0, none⟩ : Addr))) rfl)) ?_
            refine FB.take (i := 2) (l' := #[true, true, true, false, false, false, false, false, false, false, false]) rfl (by kernel_rfl) (by kernel_rfl) (by kernel_rfl) (by kernel_rfl) (by kernel_rfl) (SP.on ((S363476.box_now (i := 0) rfl).sub (j := 0) (n := 1) (c := [v108174]) rfl) (SP.nil S363476.sl)) rfl rfl rfl (fun w' hw' => (E.nilCheck rfl)) ?_
            refine FB.take (i := 3) (l' := #[true, true, true, true, false, false, false, false, false, false, false]) rfl (by kernel_rfl) (by kernel_rfl) (by kernel_rfl) (by kernel_rfl) (by kernel_rfl) (SP.on ((S363476.box_now (i := 0) rfl).sub (j := 0) (n := 1) (c := [v108174]) rfl) (SP.nil S363476.sl)) rfl rfl rfl (fun w' hw' => (E.fieldAddr tf97_0 rfl)) ?_
            refine FB.takeP (i := 4) (l' := #[true, true, true, true, true, false, false, false, false, false, false]) 0 [7, 8, 9, 10] rfl rfl (by kernel_rfl) (by kernel_rfl) (by kernel_rfl) (by kernel_rfl) (by kernel_rfl) (by kernel_rfl) (SP.on ((S363476.box_now (i := 0) rfl).sub (j := 0) (n := 1) (c := [v108174]) rfl) (SP.nil S363476.sl)) rfl rfl rfl (fun w' hw' => (E.load rfl (run_load0 Tryz.isAgg28 hw' rfl))) ?_
            refine FB.take (i := 5) (l' := #[true, true, true, true, true, true, false, false, false, false, false]) rfl (by kernel_rfl) (by kernel_rfl) (by kernel_rfl) (by kernel_rfl) (by kernel_rfl) (SP.on ((S363476.box_now (i := 0) rfl).sub (j := 0) (n := 1) (c := [v108174]) rfl) (SP.nil S363476.sl)) rfl rfl rfl (fun w' hw' => (E.load rfl (run_loadA Tryz.isAgg89 Tryz.sizeOf89 (at363473.now hw') rfl))) ?_
            refine FB.all1 (i := 6) (by kernel_rfl) ?_
            ·
              obtain ⟨v384474, w384475, run384476, S384477⟩ := S363476.buildSlice (P := Tryz.prog) te28 [Value.agg #[v324438, Value.int .i64 r324432.left, Value.int .i64 r324432.right, Value.int .i64 r324432.pivot]] (parts := #[(0, Value.agg #[v324438, Value.int .i64 r324432.left, Value.int .i64 r324432.right, Value.int .i64 r324432.pivot])]) (cells := [v324438, Value.int .i64 r324432.left, Value.int .i64 r324432.right, Value.int .i64 r324432.pivot]) rfl (szs_cons rfl szs_nil) (fc_cons rfl fc_nil) (ones_cons h324439.one (ones_cons rfl (ones_cons rfl (ones_cons rfl ones_nil)))) (Nat.le_of_ble_eq_true rfl)
              have els384478 : Els (up wa.heap.size H363470) eResStep 4 [v324438, Value.int .i64 r324432.left, Value.int .i64 r324432.right, Value.int .i64 r324432.pivot] [r324432] := (Els.snoc (H := (up wa.heap.size H363470)) (E := eResStep) (k := 4) (c := [v324438, Value.int .i64 r324432.left, Value.int .i64 r324432.right, Value.int .i64 r324432.pivot]) (x := r324432) Els.nil rfl ⟨_, rfl, (h324439.mono (up_mono i363472))⟩)
              have nd384479 : (bl [v324438, Value.int .i64 r324432.left, Value.int .i64 r324432.right, Value.int .i64 r324432.pivot]).Nodup := by exact nd_one v324438
              refine FC.val (l' := #[true, true, true, true, true, true, true, false, false, false, false]) rfl (by kernel_rfl) rfl rfl rfl (E.buildSlice (B1 rfl) run384476) ?_
              refine ⟨(SP.on ((S384477.box_now (i := 1) rfl).sub (j := 0) (n := 1) (c := [v108174]) rfl) (SP.nil S384477.sl)), ?_⟩
              refine FB.all1 (i := 7) (by kernel_rfl) ?_
              ·
                obtain ⟨v387476, w387479, n387477, cs387478, run387480, S387481, els387482, ce387483⟩ := S384477.appendO (P := Tryz.prog) te28 (i := 3) (j := 0) rfl (els108177.mono (up_mono ((i216344.tr r324437.inc).tr i363472))) rfl els384478 hz387475
                have S387481 : St Ha wa H363470 w387479 [.row 89 4 v384474 1 [v324438, Value.int .i64 r324432.left, Value.int .i64 r324432.right, Value.int .i64 r324432.pivot], .box b21 97 [v108174, v108170], .row 3 1 v108170 n108171 cs108172, .row 89 4 v387476 n387477 cs387478] := S387481
                have nd387484 : (bl cs387478).Nodup := by rw [ce387483]; exact nd_app nd108178 nd384479 (Els.dom (els108177.mono (upI.tr i216344))) (by exact nv324440)
                have S387485 : St Ha wa H363470 w387479 [.box b21 97 [v108174, v108170], .row 3 1 v108170 n108171 cs108172, .row 89 4 v387476 n387477 cs387478] := S387481.drop 0
                refine FC.val (l' := #[true, true, true, true, true, true, true, true, false, false, false]) rfl (by kernel_rfl) rfl rfl rfl (E.append rfl rfl run387480) ?_
                refine ⟨(SP.on ((S387485.box_now (i := 0) rfl).sub (j := 0) (n := 1) (c := [v108174]) rfl) (SP.nil S387485.sl)), ?_⟩
                refine FB.take (i := 8) (l' := #[true, true, true, true, true, true, true, true, true, false, false]) rfl (by kernel_rfl) (by kernel_rfl) (by kernel_rfl) (by kernel_rfl) (by kernel_rfl) (SP.on ((S387485.box_now (i := 0) rfl).sub (j := 0) (n := 1) (c := [v108174]) rfl) (SP.nil S387485.sl)) rfl rfl rfl (fun w' hw' => (E.nilCheck rfl)) ?_
                refine FB.take (i := 9) (l' := #[true, true, true, true, true, true, true, true, true, true, false]) rfl (by kernel_rfl) (by kernel_rfl) (by kernel_rfl) (by kernel_rfl) (by kernel_rfl) (SP.on ((S387485.box_now (i := 0) rfl).sub (j := 0) (n := 1) (c := [v108174]) rfl) (SP.nil S387485.sl)) rfl rfl rfl (fun w' hw' => (E.fieldAddr tf97_0 rfl)) ?_
                refine FB.all1 (i := 10) (by kernel_rfl) ?_
                ·
                  obtain ⟨w396474, run396475, S396476⟩ := S387485.store (P := Tryz.prog) (t := 28) (i := 0) (j := 0) (cs' := [v387476, v108170]) (l' := [.box b21 97 [v387476, v108170], .row 3 1 v108170 n108171 cs108172, .row 89 4 v387476 n387477 cs387478]) (v := v387476) (c := [v387476]) rfl Tryz.sizeOf28 (Ln.cells (S387485.row_ln (i := 2) rfl)) rfl (ones_cons (Ln.one (S387485.row_ln (i := 2) rfl)) ones_nil) (Nat.le_of_ble_eq_true rfl) rfl rfl
                  refine FC.act (l' := #[true, true, true, true, true, true, true, true, true, true, true]) rfl (by kernel_rfl) rfl rfl (E.store rfl rfl run396475) ?_
                  refine ⟨(SP.off (by kernel_rfl) (SP.nil S396476.sl)), ?_⟩
                  exact FB.done (by kernel_rfl) ⟨_, _, _, _, S396476, (Inc.rfl _), els387482, nd387484, rfl⟩
          ·
            rintro f402484 w402483 ⟨H402480, v402474, n402475, cs402476, S402481, i402482, els402477, nd402478, k402485⟩
            refine FW.seq ?_
            refine FW.region ?_
            refine FL.val rfl rfl rfl (E.move k402485) ?_
            refine FL.val rfl rfl rfl (E.nilCheck rfl) ?_
            refine FL.val rfl rfl rfl (E.fieldAddr tf97_0 rfl) ?_
            refine FL.val rfl rfl rfl (E.load rfl (run_load1 Tryz.isAgg28 (S402481.box_now (i := 0) rfl) rfl)) ?_
            refine FL.val rfl rfl rfl (E.lenO te28 rfl S402481 (i := 2) rfl els402477 (by decide)) ?_
            refine FL.val rfl rfl rfl (E.sub rfl rfl) ?_
            refine FL.val rfl rfl rfl (E.assign (v := Value.int .i64 (wr ((len xs387474) - 1))) rfl) ?_
            refine FL.nil ?_
            refine FW.ret ?_
            obtain rfl := Option.some.inj hp
            exact ⟨.inr rfl, res1 rfl rfl (by rw [hR363460]; exact ⟨_, _, _, _, rfl, S402481, (i363472.tr i402482), els402477, nd402478⟩)⟩
        clear hq363460
        refine FL.call rfl rfl rfl (E.call Tryz.call136 (A2 rfl rfl)) hc363460 ?_
        intro e w402489 hQ363460
        rw [hR363460] at hQ363460
        obtain ⟨H402486, v363461, n363462, cs363463, rfl, S402487, i402488, els363464, nd363465⟩ := hQ363460
        refine ⟨_, rfl, ?_⟩
        refine FL.val rfl rfl rfl (E.assign (v := Value.int .i64 s363460.2) rfl) ?_
        refine FL.nil ?_
        obtain rfl := Option.some.inj hp
        exact ⟨rfl, ⟨_, _, _, _, S402487, (r324437.inc.tr i402488), els363464, nd363465, k216324, rfl, k216325, k216326, k216323⟩⟩
      ·
        refine FW.condF rfl c324431 ?_
        refine FW.seq ?_
        refine FW.region ?_
        refine FL.val rfl rfl rfl (E.load rfl (run_loadA Tryz.isAgg89 Tryz.sizeOf89 (at216345.now S324430.sl) rfl)) ?_
        refine FL.call rfl rfl rfl (E.call Tryz.call89 (A1 rfl)) (w_impl_ResStep_isWeakening S324430.sl y29 v216333 (h216334.mono (i216320.tr i216344))) ?_
        rintro e w402491 ⟨rfl, r402492⟩
        refine ⟨_, rfl, ?_⟩
        have S402493 := S324430.call r402492
        refine FL.val rfl rfl rfl (E.assign (v := Value.bool (PF.impl_ResStep_isWeakening y29)) rfl) ?_
        refine FL.nil ?_
        rcases ifB hp with ⟨c402494, hp⟩ | ⟨c402494, hp⟩
        ·
          refine FW.condT rfl c402494 ?_
          refine FW.draw (fun w' => Run w402491.heap.size H216342 w402491 H216342 w') (by kernel_rfl) (by kernel_rfl) (run_drew S402493.sl) ?_
          refine FD.val rfl rfl rfl (fun w' hw' => (E.move k216324)) ?_
          refine FD.val rfl rfl rfl (fun w' hw' => (E.nilCheck rfl)) ?_
          refine FD.val rfl rfl rfl (fun w' hw' => (E.fieldAddr tf97_1 rfl)) ?_
          refine FD.val rfl rfl rfl (fun w' hw' => (E.load rfl (run_load1 Tryz.isAgg39 ((S402493.call hw').box_now (i := 0) rfl) rfl))) ?_
          refine FD.val rfl rfl rfl (fun w' hw' => (E.fieldAddr tf89_1 rfl)) ?_
          refine FD.val rfl rfl rfl (fun w' hw' => (E.load rfl (run_load1 Tryz.isAgg3 (at216345.now (S402493.call hw').sl) rfl))) ?_
          obtain ⟨x402502, hx402503, hp⟩ := bnd hp
          obtain ⟨p402496, cs402497, pt402498, l402499, at402500, rel402501⟩ := S402493.row_at (i := 1) rfl els108173 (by decide) hx402503
          obtain rfl := eI_open rel402501
          refine FD.val rfl rfl rfl (fun w' hw' => (E.indexAddr te39 rfl rfl pt402498)) ?_
          refine FD.val rfl rfl rfl (fun w' hw' => (E.load rfl (run_load0 Tryz.isAgg3 (at402500.cls hw') rfl))) ?_
          refine FD.val rfl rfl rfl (fun w' hw' => (E.assign (v := Value.int .i64 x402502) rfl)) ?_
          refine FD.nil ?_
          intro w402504 r402506
          have S402505 := S402493.call r402506
          obtain rfl := Option.some.inj hp
          exact ⟨rfl, ⟨_, _, _, _, S402505, (Inc.rfl _), (els108177.mono (up_mono i216344)), nd108178, k216324, rfl, k216325, k216326, k216323⟩⟩
        ·
          refine FW.condF rfl c402494 ?_
          obtain ⟨x426513, hx426514, hp⟩ := bnd hp
          obtain ⟨x450513, hx450514, hp⟩ := bnd hp
          obtain ⟨s648611, hq648611, hp⟩ := bnd hp
          refine FW.drawB (SX Ha wa H216342 [.row 3 1 v108170 n108171 cs108172]) (fun f w => ∃ H : GH, ∃ v471507 : Value, ∃ n471508 : Nat, ∃ cs471509 : List Value, St Ha wa H w [.box b21 97 [v471507, v108170], .row 3 1 v108170 n108171 cs108172, .row 89 4 v471507 n471508 cs471509] ∧ Inc H216342 H ∧ Els (up wa.heap.size H) eResStep 4 cs471509 s648611.1 ∧ (bl cs471509).Nodup ∧ f 3 = Value.pointer (some (⟨b21, 0, none⟩ : Addr)) ∧ f 6 = Value.int .i64 s648611.2 ∧ f 9 = v0 ∧ f 10 = Value.int .i64 (len a0) ∧ f 11 = Value.int .i64 ((i30 : Nat) : Int)) (by kernel_rfl) S402493.sl ?_ ?_
          ·
            intro w402507 r402508
            have S402509 := S402493.call r402508
            refine FB.phase [] (fun w => WAt w (Addr.add ⟨b21, 0, none⟩ 1) [v108170]) ?_
            refine FB.take (i := 0) (l' := #[true, false, false, false, false, false, false, false, false, false, false, false, false, false, false, false, false, false, false, false, false]) rfl (by kernel_rfl) (by kernel_rfl) (by kernel_rfl) (by kernel_rfl) (by kernel_rfl) (SP.on ((S402509.box_now (i := 0) rfl).sub (j := 1) (n := 1) (c := [v108170]) rfl) (SP.nil ⟨_, (S402509.sel [1] (by decide) rfl), (Inc.rfl _)⟩)) rfl rfl rfl (fun w' hw' => (E.move k216324)) ?_
            refine FB.take (i := 1) (l' := #[true, true, false, false, false, false, false, false, false, false, false, false, false, false, false, false, false, false, false, false, false]) rfl (by kernel_rfl) (by kernel_rfl) (by kernel_rfl) (by kernel_rfl) (by kernel_rfl) (SP.on ((S402509.box_now (i := 0) rfl).sub (j := 1) (n := 1) (c := [v108170]) rfl) (SP.nil ⟨_, (S402509.sel [1] (by decide) rfl), (Inc.rfl _)⟩)) rfl rfl rfl (fun w' hw' => (E.move k216324)) ?_
            refine FB.take (i := 2) (l' := #[true, true, true, false, false, false, false, false, false, false, false, false, false, false, false, false, false, false, false, false, false]) rfl (by kernel_rfl) (by kernel_rfl) (by kernel_rfl) (by kernel_rfl) (by kernel_rfl) (SP.on ((S402509.box_now (i := 0) rfl).sub (j := 1) (n := 1) (c := [v108170]) rfl) (SP.nil ⟨_, (S402509.sel [1] (by decide) rfl), (Inc.rfl _)⟩)) rfl rfl rfl (fun w' hw' => (E.nilCheck rfl)) ?_
            refine FB.take (i := 3) (l' := #[true, true, true, true, false, false, false, false, false, false, false, false, false, false, false, false, false, false, false, false, false]) rfl (by kernel_rfl) (by kernel_rfl) (by kernel_rfl) (by kernel_rfl) (by kernel_rfl) (SP.on ((S402509.box_now (i := 0) rfl).sub (j := 1) (n := 1) (c := [v108170]) rfl) (SP.nil ⟨_, (S402509.sel [1] (by decide) rfl), (Inc.rfl _)⟩)) rfl rfl rfl (fun w' hw' => (E.fieldAddr tf97_1 rfl)) ?_
            refine FB.takeP (i := 4) (l' := #[true, true, true, true, true, false, false, false, false, false, false, false, false, false, false, false, false, false, false, false, false]) 0 [7, 8, 19, 20] rfl rfl (by kernel_rfl) (by kernel_rfl) (by kernel_rfl) (by kernel_rfl) (by kernel_rfl) (by kernel_rfl) (SP.on ((S402509.box_now (i := 0) rfl).sub (j := 1) (n := 1) (c := [v108170]) rfl) (SP.nil ⟨_, (S402509.sel [1] (by decide) rfl), (Inc.rfl _)⟩)) rfl rfl rfl (fun w' hw' => (E.load rfl (run_load0 Tryz.isAgg39 hw' rfl))) ?_
            refine FB.take (i := 5) (l' := #[true, true, true, true, true, true, false, false, false, false, false, false, false, false, false, false, false, false, false, false, false]) rfl (by kernel_rfl) (by kernel_rfl) (by kernel_rfl) (by kernel_rfl) (by kernel_rfl) (SP.on ((S402509.box_now (i := 0) rfl).sub (j := 1) (n := 1) (c := [v108170]) rfl) (SP.nil ⟨_, (S402509.sel [1] (by decide) rfl), (Inc.rfl _)⟩)) rfl rfl rfl (fun w' hw' => (E.fieldAddr tf89_1 rfl)) ?_
            refine FB.take (i := 6) (l' := #[true, true, true, true, true, true, true, false, false, false, false, false, false, false, false, false, false, false, false, false, false]) rfl (by kernel_rfl) (by kernel_rfl) (by kernel_rfl) (by kernel_rfl) (by kernel_rfl) (SP.on ((S402509.box_now (i := 0) rfl).sub (j := 1) (n := 1) (c := [v108170]) rfl) (SP.nil ⟨_, (S402509.sel [1] (by decide) rfl), (Inc.rfl _)⟩)) rfl rfl rfl (fun w' hw' => (E.load rfl (run_load1 Tryz.isAgg3 (at216345.now hw'.sl) rfl))) ?_
            obtain ⟨p426507, cs426508, pt426509, l426510, at426511, rel426512, hall426515⟩ := S402509.row_atA (i := 1) rfl els108173 (by decide) hx426514
            obtain rfl := eI_open rel426512
            refine FB.take (i := 7) (l' := #[true, true, true, true, true, true, true, true, false, false, false, false, false, false, false, false, false, false, false, false, false]) rfl (by kernel_rfl) (by kernel_rfl) (by kernel_rfl) (by kernel_rfl) (by kernel_rfl) (SP.on ((S402509.box_now (i := 0) rfl).sub (j := 1) (n := 1) (c := [v108170]) rfl) (SP.nil ⟨_, (S402509.sel [1] (by decide) rfl), (Inc.rfl _)⟩)) rfl rfl rfl (fun w' hw' => (E.indexAddr te39 rfl rfl pt426509)) ?_
            refine FB.take (i := 8) (l' := #[true, true, true, true, true, true, true, true, true, false, false, false, false, false, false, false, false, false, false, false, false]) rfl (by kernel_rfl) (by kernel_rfl) (by kernel_rfl) (by kernel_rfl) (by kernel_rfl) (SP.on ((S402509.box_now (i := 0) rfl).sub (j := 1) (n := 1) (c := [v108170]) rfl) (SP.nil ⟨_, (S402509.sel [1] (by decide) rfl), (Inc.rfl _)⟩)) rfl rfl rfl (fun w' hw' => (E.load rfl (run_load0 Tryz.isAgg3 (hw'.use fun _ st => hall426515 _ _ _ 0 st rfl) rfl))) ?_
            refine FB.take (i := 9) (l' := #[true, true, true, true, true, true, true, true, true, true, false, false, false, false, false, false, false, false, false, false, false]) rfl (by kernel_rfl) (by kernel_rfl) (by kernel_rfl) (by kernel_rfl) (by kernel_rfl) (SP.on ((S402509.box_now (i := 0) rfl).sub (j := 1) (n := 1) (c := [v108170]) rfl) (SP.nil ⟨_, (S402509.sel [1] (by decide) rfl), (Inc.rfl _)⟩)) rfl rfl rfl (fun w' hw' => (E.move k216324)) ?_
            refine FB.take (i := 10) (l' := #[true, true, true, true, true, true, true, true, true, true, true, false, false, false, false, false, false, false, false, false, false]) rfl (by kernel_rfl) (by kernel_rfl) (by kernel_rfl) (by kernel_rfl) (by kernel_rfl) (SP.on ((S402509.box_now (i := 0) rfl).sub (j := 1) (n := 1) (c := [v108170]) rfl) (SP.nil ⟨_, (S402509.sel [1] (by decide) rfl), (Inc.rfl _)⟩)) rfl rfl rfl (fun w' hw' => (E.nilCheck rfl)) ?_
            refine FB.take (i := 11) (l' := #[true, true, true, true, true, true, true, true, true, true, true, true, false, false, false, false, false, false, false, false, false]) rfl (by kernel_rfl) (by kernel_rfl) (by kernel_rfl) (by kernel_rfl) (by kernel_rfl) (SP.on ((S402509.box_now (i := 0) rfl).sub (j := 1) (n := 1) (c := [v108170]) rfl) (SP.nil ⟨_, (S402509.sel [1] (by decide) rfl), (Inc.rfl _)⟩)) rfl rfl rfl (fun w' hw' => (E.fieldAddr tf97_1 rfl)) ?_
            refine FB.takeP (i := 12) (l' := #[true, true, true, true, true, true, true, true, true, true, true, true, true, false, false, false, false, false, false, false, false]) 0 [15, 16, 19, 20] rfl rfl (by kernel_rfl) (by kernel_rfl) (by kernel_rfl) (by kernel_rfl) (by kernel_rfl) (by kernel_rfl) (SP.on ((S402509.box_now (i := 0) rfl).sub (j := 1) (n := 1) (c := [v108170]) rfl) (SP.nil ⟨_, (S402509.sel [1] (by decide) rfl), (Inc.rfl _)⟩)) rfl rfl rfl (fun w' hw' => (E.load rfl (run_load0 Tryz.isAgg39 hw' rfl))) ?_
            refine FB.take (i := 13) (l' := #[true, true, true, true, true, true, true, true, true, true, true, true, true, true, false, false, false, false, false, false, false]) rfl (by kernel_rfl) (by kernel_rfl) (by kernel_rfl) (by kernel_rfl) (by kernel_rfl) (SP.on ((S402509.box_now (i := 0) rfl).sub (j := 1) (n := 1) (c := [v108170]) rfl) (SP.nil ⟨_, (S402509.sel [1] (by decide) rfl), (Inc.rfl _)⟩)) rfl rfl rfl (fun w' hw' => (E.fieldAddr tf89_2 rfl)) ?_
            refine FB.take (i := 14) (l' := #[true, true, true, true, true, true, true, true, true, true, true, true, true, true, true, false, false, false, false, false, false]) rfl (by kernel_rfl) (by kernel_rfl) (by kernel_rfl) (by kernel_rfl) (by kernel_rfl) (SP.on ((S402509.box_now (i := 0) rfl).sub (j := 1) (n := 1) (c := [v108170]) rfl) (SP.nil ⟨_, (S402509.sel [1] (by decide) rfl), (Inc.rfl _)⟩)) rfl rfl rfl (fun w' hw' => (E.load rfl (run_load1 Tryz.isAgg3 (at216345.now hw'.sl) rfl))) ?_
            obtain ⟨p450507, cs450508, pt450509, l450510, at450511, rel450512, hall450515⟩ := S402509.row_atA (i := 1) rfl els108173 (by decide) hx450514
            obtain rfl := eI_open rel450512
            refine FB.take (i := 15) (l' := #[true, true, true, true, true, true, true, true, true, true, true, true, true, true, true, true, false, false, false, false, false]) rfl (by kernel_rfl) (by kernel_rfl) (by kernel_rfl) (by kernel_rfl) (by kernel_rfl) (SP.on ((S402509.box_now (i := 0) rfl).sub (j := 1) (n := 1) (c := [v108170]) rfl) (SP.nil ⟨_, (S402509.sel [1] (by decide) rfl), (Inc.rfl _)⟩)) rfl rfl rfl (fun w' hw' => (E.indexAddr te39 rfl rfl pt450509)) ?_
            refine FB.take (i := 16) (l' := #[true, true, true, true, true, true, true, true, true, true, true, true, true, true, true, true, true, false, false, false, false]) rfl (by kernel_rfl) (by kernel_rfl) (by kernel_rfl) (by kernel_rfl) (by kernel_rfl) (SP.on ((S402509.box_now (i := 0) rfl).sub (j := 1) (n := 1) (c := [v108170]) rfl) (SP.nil ⟨_, (S402509.sel [1] (by decide) rfl), (Inc.rfl _)⟩)) rfl rfl rfl (fun w' hw' => (E.load rfl (run_load0 Tryz.isAgg3 (hw'.use fun _ st => hall450515 _ _ _ 0 st rfl) rfl))) ?_
            refine FB.take (i := 17) (l' := #[true, true, true, true, true, true, true, true, true, true, true, true, true, true, true, true, true, true, false, false, false]) rfl (by kernel_rfl) (by kernel_rfl) (by kernel_rfl) (by kernel_rfl) (by kernel_rfl) (SP.on ((S402509.box_now (i := 0) rfl).sub (j := 1) (n := 1) (c := [v108170]) rfl) (SP.nil ⟨_, (S402509.sel [1] (by decide) rfl), (Inc.rfl _)⟩)) rfl rfl rfl (fun w' hw' => (E.fieldAddr tf89_3 rfl)) ?_
            refine FB.take (i := 18) (l' := #[true, true, true, true, true, true, true, true, true, true, true, true, true, true, true, true, true, true, true, false, false]) rfl (by kernel_rfl) (by kernel_rfl) (by kernel_rfl) (by kernel_rfl) (by kernel_rfl) (SP.on ((S402509.box_now (i := 0) rfl).sub (j := 1) (n := 1) (c := [v108170]) rfl) (SP.nil ⟨_, (S402509.sel [1] (by decide) rfl), (Inc.rfl _)⟩)) rfl rfl rfl (fun w' hw' => (E.load rfl (run_load1 Tryz.isAgg3 (at216345.now hw'.sl) rfl))) ?_
            refine FB.all1 (i := 19) (by kernel_rfl) ?_
            ·
              obtain ⟨R648611, hR648611⟩ : ∃ R648611 : ((List ResStep) × Int) → Ending → World → Prop, R648611 = (fun s648611 e w => ∃ H : GH, ∃ v648612 : Value, ∃ n648613 : Nat, ∃ cs648614 : List Value, e = Ending.returned (Value.int .i64 s648611.2) ∧ St Ha wa H w [.box b21 97 [v648612, v108170], .row 3 1 v108170 n108171 cs108172, .row 89 4 v648612 n648613 cs648614] ∧ Inc H216342 H ∧ Els (up wa.heap.size H) eResStep 4 cs648614 s648611.1 ∧ (bl cs648614).Nodup) := ⟨_, rfl⟩
              have hc648611 : Calls Tryz.prog 138 #[Value.pointer (some (⟨b21, 0, none⟩ : Addr)), Value.int .i64 x426513, Value.int .i64 x450513, Value.int .i64 y29.pivot] w402507 (R648611 s648611) := by
                clear hp; have hp := hq648611; clear hq648611
                refine calls_go (N := 66) (args := [Value.pointer (some (⟨b21, 0, none⟩ : Addr)), Value.int .i64 x426513, Value.int .i64 x450513, Value.int .i64 y29.pivot]) Tryz.func138 rfl rfl rfl ?_
                refine FW.seq ?_
                refine FW.region ?_
                refine FL.val rfl rfl rfl (E.assign (v := Value.int .i64 0) rfl) ?_
                refine FL.nil ?_
                refine FW.seq ?_
                refine FW.block ?_
                refine FW.seq ?_
                refine FW.region ?_
                refine FL.val rfl rfl rfl (E.move (v := Value.pointer (some (⟨b21, 0, none⟩ : Addr))) rfl) ?_
                refine FL.val rfl rfl rfl (E.nilCheck rfl) ?_
                refine FL.val rfl rfl rfl (E.fieldAddr tf97_0 rfl) ?_
                refine FL.val rfl rfl rfl (E.load rfl (run_load1 Tryz.isAgg28 (S402509.box_now (i := 0) rfl) rfl)) ?_
                refine FL.val rfl rfl rfl (E.move (v := Value.int .i64 x426513) rfl) ?_
                obtain ⟨x648623, hx648624, hp⟩ := bnd hp
                obtain ⟨p648617, cs648618, pt648619, l648620, at648621, rel648622⟩ := S402509.row_at (i := 2) rfl els108177 (by decide) hx648624
                obtain ⟨v648625, rfl, h648626⟩ := eResStep_open rel648622
                refine FL.val rfl rfl rfl (E.indexAddr te28 rfl rfl pt648619) ?_
                refine FL.val rfl rfl rfl (E.fieldAddr tf89_0 rfl) ?_
                refine FL.val rfl rfl rfl (E.load rfl (run_load1 Tryz.isAgg39 at648621 rfl)) ?_
                refine FL.val rfl rfl rfl (E.move (v := Value.int .i64 y29.pivot) rfl) ?_
                obtain ⟨r648627, hr648628, hp⟩ := bnd hp
                refine FL.call rfl rfl rfl (E.call Tryz.call162 (A2 rfl rfl)) (w_slices_Contains_int_int S402509.sl v648625 x648623.clause (h648626.mono (upI.tr i216344)) y29.pivot hr648628) ?_
                rintro e w648629 ⟨rfl, r648630⟩
                refine ⟨_, rfl, ?_⟩
                have S648631 := S402509.call r648630
                refine FL.val rfl rfl rfl (E.not rfl) ?_
                refine FL.val rfl rfl rfl (E.assign (v := Value.bool (!r648627)) rfl) ?_
                refine FL.nil ?_
                rcases ifB hp with ⟨c648632, hp⟩ | ⟨c648632, hp⟩
                ·
                  refine FW.condT rfl c648632 ?_
                  refine FW.seq ?_
                  refine FW.region ?_
                  refine FL.val rfl rfl rfl (E.move (v := Value.int .i64 x426513) rfl) ?_
                  refine FL.val rfl rfl rfl (E.assign (v := Value.int .i64 x426513) rfl) ?_
                  refine FL.nil ?_
                  refine FW.ret ?_
                  obtain rfl := Option.some.inj hp
                  exact ⟨.inr rfl, res1 rfl rfl (by rw [hR648611]; exact ⟨_, _, _, _, rfl, S648631, (Inc.rfl _), (els108177.mono (up_mono i216344)), nd108178⟩)⟩
                ·
                  refine FW.condF rfl c648632 ?_
                  refine FW.seq ?_
                  refine FW.region ?_
                  refine FL.val rfl rfl rfl (E.move (v := Value.pointer (some (⟨b21, 0, none⟩ : Addr))) rfl) ?_
                  refine FL.val rfl rfl rfl (E.nilCheck rfl) ?_
                  refine FL.val rfl rfl rfl (E.fieldAddr tf97_0 rfl) ?_
                  refine FL.val rfl rfl rfl (E.load rfl (run_load1 Tryz.isAgg28 (S648631.box_now (i := 0) rfl) rfl)) ?_
                  refine FL.val rfl rfl rfl (E.move (v := Value.int .i64 x450513) rfl) ?_
                  obtain ⟨x648639, hx648640, hp⟩ := bnd hp
                  obtain ⟨p648633, cs648634, pt648635, l648636, at648637, rel648638⟩ := S648631.row_at (i := 2) rfl els108177 (by decide) hx648640
                  obtain ⟨v648641, rfl, h648642⟩ := eResStep_open rel648638
                  refine FL.val rfl rfl rfl (E.indexAddr te28 rfl rfl pt648635) ?_
                  refine FL.val rfl rfl rfl (E.fieldAddr tf89_0 rfl) ?_
                  refine FL.val rfl rfl rfl (E.load rfl (run_load1 Tryz.isAgg39 at648637 rfl)) ?_
                  refine FL.val rfl rfl rfl (E.move (v := Value.int .i64 y29.pivot) rfl) ?_
                  refine FL.val rfl rfl rfl (E.neg rfl) ?_
                  obtain ⟨r648643, hr648644, hp⟩ := bnd hp
                  refine FL.call rfl rfl rfl (E.call Tryz.call162 (A2 rfl rfl)) (w_slices_Contains_int_int S648631.sl v648641 x648639.clause (h648642.mono (upI.tr i216344)) (wr (-y29.pivot)) hr648644) ?_
                  rintro e w648645 ⟨rfl, r648646⟩
                  refine ⟨_, rfl, ?_⟩
                  have S648647 := S648631.call r648646
                  refine FL.val rfl rfl rfl (E.not rfl) ?_
                  refine FL.val rfl rfl rfl (E.assign (v := Value.bool (!r648643)) rfl) ?_
                  refine FL.nil ?_
                  rcases ifB hp with ⟨c648648, hp⟩ | ⟨c648648, hp⟩
                  ·
                    refine FW.condT rfl c648648 ?_
                    refine FW.seq ?_
                    refine FW.region ?_
                    refine FL.val rfl rfl rfl (E.move (v := Value.int .i64 x450513) rfl) ?_
                    refine FL.val rfl rfl rfl (E.assign (v := Value.int .i64 x450513) rfl) ?_
                    refine FL.nil ?_
                    refine FW.ret ?_
                    obtain rfl := Option.some.inj hp
                    exact ⟨.inr rfl, res1 rfl rfl (by rw [hR648611]; exact ⟨_, _, _, _, rfl, S648647, (Inc.rfl _), (els108177.mono (up_mono i216344)), nd108178⟩)⟩
                  ·
                    refine FW.condF rfl c648648 ?_
                    refine FW.skip ?_
                    refine FW.seq ?_
                    obtain ⟨x666655, hx666656, hp⟩ := bnd hp
                    obtain ⟨x690655, hx690656, hp⟩ := bnd hp
                    obtain ⟨r702649, hr702650, hp⟩ := bnd hp
                    refine FW.drawB (SX Ha wa H216342 [.box b21 97 [v108174, v108170], .row 89 4 v108174 n108175 cs108176]) (fun f w => ∃ H : GH, ∃ v723649 : Value, ∃ n723650 : Nat, ∃ cs723651 : List Value, St Ha wa H w [.box b21 97 [v108174, v108170], .row 3 1 v108170 n108171 cs108172, .row 89 4 v108174 n108175 cs108176, .row 3 1 v723649 n723650 cs723651] ∧ Inc H216342 H ∧ Els (up wa.heap.size H) eI 1 cs723651 r702649.1 ∧ f 0 = Value.pointer (some (⟨b21, 0, none⟩ : Addr)) ∧ f 1 = Value.int .i64 x426513 ∧ f 2 = Value.int .i64 x450513 ∧ f 3 = Value.int .i64 y29.pivot ∧ f 9 = v723649) (by kernel_rfl) S648647.sl ?_ ?_
                    ·
                      intro w648649 r648650
                      have S648651 := S648647.call r648650
                      refine FB.take (i := 0) (l' := #[true, false, false, false, false, false, false, false, false, false, false, false, false, false, false, false, false, false, false, false, false, false, false]) rfl (by kernel_rfl) (by kernel_rfl) (by kernel_rfl) (by kernel_rfl) (by kernel_rfl) (SP.nil ⟨_, (S648651.sel [0, 2] (by decide) rfl), (Inc.rfl _)⟩) rfl rfl rfl (fun w' hw' => (E.move (v := Value.pointer (some (⟨b21, 0, none⟩ : Addr))) rfl)) ?_
                      refine FB.take (i := 1) (l' := #[true, true, false, false, false, false, false, false, false, false, false, false, false, false, false, false, false, false, false, false, false, false, false]) rfl (by kernel_rfl) (by kernel_rfl) (by kernel_rfl) (by kernel_rfl) (by kernel_rfl) (SP.nil ⟨_, (S648651.sel [0, 2] (by decide) rfl), (Inc.rfl _)⟩) rfl rfl rfl (fun w' hw' => (E.nilCheck rfl)) ?_
                      refine FB.take (i := 2) (l' := #[true, true, true, false, false, false, false, false, false, false, false, false, false, false, false, false, false, false, false, false, false, false, false]) rfl (by kernel_rfl) (by kernel_rfl) (by kernel_rfl) (by kernel_rfl) (by kernel_rfl) (SP.nil ⟨_, (S648651.sel [0, 2] (by decide) rfl), (Inc.rfl _)⟩) rfl rfl rfl (fun w' hw' => (E.fieldAddr tf97_0 rfl)) ?_
                      refine FB.take (i := 3) (l' := #[true, true, true, true, false, false, false, false, false, false, false, false, false, false, false, false, false, false, false, false, false, false, false]) rfl (by kernel_rfl) (by kernel_rfl) (by kernel_rfl) (by kernel_rfl) (by kernel_rfl) (SP.nil ⟨_, (S648651.sel [0, 2] (by decide) rfl), (Inc.rfl _)⟩) rfl rfl rfl (fun w' hw' => (E.load rfl (run_load1 Tryz.isAgg28 (SX.box_now hw' (i := 0) rfl) rfl))) ?_
                      refine FB.take (i := 4) (l' := #[true, true, true, true, true, false, false, false, false, false, false, false, false, false, false, false, false, false, false, false, false, false, false]) rfl (by kernel_rfl) (by kernel_rfl) (by kernel_rfl) (by kernel_rfl) (by kernel_rfl) (SP.nil ⟨_, (S648651.sel [0, 2] (by decide) rfl), (Inc.rfl _)⟩) rfl rfl rfl (fun w' hw' => (E.move (v := Value.int .i64 x426513) rfl)) ?_
                      obtain ⟨p666649, cs666650, pt666651, l666652, at666653, rel666654, hall666657⟩ := S648651.row_atA (i := 2) rfl els108177 (by decide) hx666656
                      obtain ⟨v666658, rfl, h666659⟩ := eResStep_open rel666654
                      refine FB.take (i := 5) (l' := #[true, true, true, true, true, true, false, false, false, false, false, false, false, false, false, false, false, false, false, false, false, false, false]) rfl (by kernel_rfl) (by kernel_rfl) (by kernel_rfl) (by kernel_rfl) (by kernel_rfl) (SP.nil ⟨_, (S648651.sel [0, 2] (by decide) rfl), (Inc.rfl _)⟩) rfl rfl rfl (fun w' hw' => (E.indexAddr te28 rfl rfl pt666651)) ?_
                      refine FB.take (i := 6) (l' := #[true, true, true, true, true, true, true, false, false, false, false, false, false, false, false, false, false, false, false, false, false, false, false]) rfl (by kernel_rfl) (by kernel_rfl) (by kernel_rfl) (by kernel_rfl) (by kernel_rfl) (SP.nil ⟨_, (S648651.sel [0, 2] (by decide) rfl), (Inc.rfl _)⟩) rfl rfl rfl (fun w' hw' => (E.fieldAddr tf89_0 rfl)) ?_
                      refine FB.take (i := 7) (l' := #[true, true, true, true, true, true, true, true, false, false, false, false, false, false, false, false, false, false, false, false, false, false, false]) rfl (by kernel_rfl) (by kernel_rfl) (by kernel_rfl) (by kernel_rfl) (by kernel_rfl) (SP.nil ⟨_, (S648651.sel [0, 2] (by decide) rfl), (Inc.rfl _)⟩) rfl rfl rfl (fun w' hw' => (E.load rfl (run_load1 Tryz.isAgg39 (hw'.use fun _ st => hall666657 _ _ _ 1 st rfl) rfl))) ?_
                      refine FB.take (i := 8) (l' := #[true, true, true, true, true, true, true, true, true, false, false, false, false, false, false, false, false, false, false, false, false, false, false]) rfl (by kernel_rfl) (by kernel_rfl) (by kernel_rfl) (by kernel_rfl) (by kernel_rfl) (SP.nil ⟨_, (S648651.sel [0, 2] (by decide) rfl), (Inc.rfl _)⟩) rfl rfl rfl (fun w' hw' => (E.move (v := Value.pointer (some (⟨b21, 0, none⟩ : Addr))) rfl)) ?_
                      refine FB.take (i := 9) (l' := #[true, true, true, true, true, true, true, true, true, true, false, false, false, false, false, false, false, false, false, false, false, false, false]) rfl (by kernel_rfl) (by kernel_rfl) (by kernel_rfl) (by kernel_rfl) (by kernel_rfl) (SP.nil ⟨_, (S648651.sel [0, 2] (by decide) rfl), (Inc.rfl _)⟩) rfl rfl rfl (fun w' hw' => (E.nilCheck rfl)) ?_
                      refine FB.take (i := 10) (l' := #[true, true, true, true, true, true, true, true, true, true, true, false, false, false, false, false, false, false, false, false, false, false, false]) rfl (by kernel_rfl) (by kernel_rfl) (by kernel_rfl) (by kernel_rfl) (by kernel_rfl) (SP.nil ⟨_, (S648651.sel [0, 2] (by decide) rfl), (Inc.rfl _)⟩) rfl rfl rfl (fun w' hw' => (E.fieldAddr tf97_0 rfl)) ?_
                      refine FB.take (i := 11) (l' := #[true, true, true, true, true, true, true, true, true, true, true, true, false, false, false, false, false, false, false, false, false, false, false]) rfl (by kernel_rfl) (by kernel_rfl) (by kernel_rfl) (by kernel_rfl) (by kernel_rfl) (SP.nil ⟨_, (S648651.sel [0, 2] (by decide) rfl), (Inc.rfl _)⟩) rfl rfl rfl (fun w' hw' => (E.load rfl (run_load1 Tryz.isAgg28 (SX.box_now hw' (i := 0) rfl) rfl))) ?_
                      refine FB.take (i := 12) (l' := #[true, true, true, true, true, true, true, true, true, true, true, true, true, false, false, false, false, false, false, false, false, false, false]) rfl (by kernel_rfl) (by kernel_rfl) (by kernel_rfl) (by kernel_rfl) (by kernel_rfl) (SP.nil ⟨_, (S648651.sel [0, 2] (by decide) rfl), (Inc.rfl _)⟩) rfl rfl rfl (fun w' hw' => (E.move (v := Value.int .i64 x450513) rfl)) ?_
                      obtain ⟨p690649, cs690650, pt690651, l690652, at690653, rel690654, hall690657⟩ := S648651.row_atA (i := 2) rfl els108177 (by decide) hx690656
                      obtain ⟨v690658, rfl, h690659⟩ := eResStep_open rel690654
                      refine FB.take (i := 13) (l' := #[true, true, true, true, true, true, true, true, true, true, true, true, true, true, false, false, false, false, false, false, false, false, false]) rfl (by kernel_rfl) (by kernel_rfl) (by kernel_rfl) (by kernel_rfl) (by kernel_rfl) (SP.nil ⟨_, (S648651.sel [0, 2] (by decide) rfl), (Inc.rfl _)⟩) rfl rfl rfl (fun w' hw' => (E.indexAddr te28 rfl rfl pt690651)) ?_
                      refine FB.take (i := 14) (l' := #[true, true, true, true, true, true, true, true, true, true, true, true, true, true, true, false, false, false, false, false, false, false, false]) rfl (by kernel_rfl) (by kernel_rfl) (by kernel_rfl) (by kernel_rfl) (by kernel_rfl) (SP.nil ⟨_, (S648651.sel [0, 2] (by decide) rfl), (Inc.rfl _)⟩) rfl rfl rfl (fun w' hw' => (E.fieldAddr tf89_0 rfl)) ?_
                      refine FB.take (i := 15) (l' := #[true, true, true, true, true, true, true, true, true, true, true, true, true, true, true, true, false, false, false, false, false, false, false]) rfl (by kernel_rfl) (by kernel_rfl) (by kernel_rfl) (by kernel_rfl) (by kernel_rfl) (SP.nil ⟨_, (S648651.sel [0, 2] (by decide) rfl), (Inc.rfl _)⟩) rfl rfl rfl (fun w' hw' => (E.load rfl (run_load1 Tryz.isAgg39 (hw'.use fun _ st => hall690657 _ _ _ 1 st rfl) rfl))) ?_
                      refine FB.take (i := 16) (l' := #[true, true, true, true, true, true, true, true, true, true, true, true, true, true, true, true, true, false, false, false, false, false, false]) rfl (by kernel_rfl) (by kernel_rfl) (by kernel_rfl) (by kernel_rfl) (by kernel_rfl) (SP.nil ⟨_, (S648651.sel [0, 2] (by decide) rfl), (Inc.rfl _)⟩) rfl rfl rfl (fun w' hw' => (E.move (v := Value.int .i64 y29.pivot) rfl)) ?_
                      refine FB.all1 (i := 17) (by kernel_rfl) ?_
                      ·
                        refine FC.call (l' := #[true, true, true, true, true, true, true, true, true, true, true, true, true, true, true, true, true, true, false, false, false, false, false]) rfl (by kernel_rfl) rfl rfl rfl (E.call Tryz.call203 (A3 rfl rfl rfl)) (w_impl_resolve S648651.sl v666658 x666655.clause (h666659.mono (upI.tr i216344)) v690658 x690655.clause (h690659.mono (upI.tr i216344)) y29.pivot hr702650) ?_
                        rintro e w702652 ⟨H702651, v702655, n702656, cs702657, rfl, r702654, els702658⟩
                        refine ⟨_, rfl, ?_⟩
                        have els702658 := els702658.mono (up_le S648651.size)
                        have S702653 := S648651.join (l' := [.row 3 1 v702655 n702656 cs702657, .box b21 97 [v108174, v108170], .row 3 1 v108170 n108171 cs108172, .row 89 4 v108174 n108175 cs108176]) r702654 rfl
                        refine ⟨(SP.nil ⟨_, (S702653.sel [1, 3] (by decide) rfl), r702654.run.inc⟩), ?_⟩
                        refine FB.take (i := 18) (l' := #[true, true, true, true, true, true, true, true, true, true, true, true, true, true, true, true, true, true, true, false, false, false, false]) rfl (by kernel_rfl) (by kernel_rfl) (by kernel_rfl) (by kernel_rfl) (by kernel_rfl) (SP.nil ⟨_, (S702653.sel [1, 3] (by decide) rfl), r702654.run.inc⟩) rfl rfl rfl (fun w' hw' => (E.move (v := Value.tuple #[v702655, Value.bool r702649.2]) rfl)) ?_
                        refine FB.take (i := 19) (l' := #[true, true, true, true, true, true, true, true, true, true, true, true, true, true, true, true, true, true, true, true, false, false, false]) rfl (by kernel_rfl) (by kernel_rfl) (by kernel_rfl) (by kernel_rfl) (by kernel_rfl) (SP.nil ⟨_, (S702653.sel [1, 3] (by decide) rfl), r702654.run.inc⟩) rfl rfl rfl (fun w' hw' => (E.extract (i := 0) rfl rfl)) ?_
                        refine FB.take (i := 20) (l' := #[true, true, true, true, true, true, true, true, true, true, true, true, true, true, true, true, true, true, true, true, true, false, false]) rfl (by kernel_rfl) (by kernel_rfl) (by kernel_rfl) (by kernel_rfl) (by kernel_rfl) (SP.nil ⟨_, (S702653.sel [1, 3] (by decide) rfl), r702654.run.inc⟩) rfl rfl rfl (fun w' hw' => (E.extract (i := 1) rfl rfl)) ?_
                        refine FB.take (i := 21) (l' := #[true, true, true, true, true, true, true, true, true, true, true, true, true, true, true, true, true, true, true, true, true, true, false]) rfl (by kernel_rfl) (by kernel_rfl) (by kernel_rfl) (by kernel_rfl) (by kernel_rfl) (SP.nil ⟨_, (S702653.sel [1, 3] (by decide) rfl), r702654.run.inc⟩) rfl rfl rfl (fun w' hw' => (E.assign (v := v702655) rfl)) ?_
                        refine FB.take (i := 22) (l' := #[true, true, true, true, true, true, true, true, true, true, true, true, true, true, true, true, true, true, true, true, true, true, true]) rfl (by kernel_rfl) (by kernel_rfl) (by kernel_rfl) (by kernel_rfl) (by kernel_rfl) (SP.nil ⟨_, (S702653.sel [1, 3] (by decide) rfl), r702654.run.inc⟩) rfl rfl rfl (fun w' hw' => (E.assign (v := Value.bool r702649.2) rfl)) ?_
                        exact FB.done (by kernel_rfl) ⟨_, _, _, _, (S702653.sel [1, 2, 3, 0] (by decide) rfl), r702654.run.inc, els702658, rfl, rfl, rfl, rfl, rfl⟩
                    ·
                      rintro f723658 w723657 ⟨H723654, v723649, n723650, cs723651, S723655, i723656, els723652, k723659, k723660, k723661, k723662, k723663⟩
                      refine FW.seq ?_
                      refine FW.region ?_
                      refine FL.val rfl rfl rfl (E.move k723659) ?_
                      refine FL.val rfl rfl rfl (E.move k723663) ?_
                      refine FL.val rfl rfl rfl (E.move k723660) ?_
                      refine FL.val rfl rfl rfl (E.move k723661) ?_
                      refine FL.val rfl rfl rfl (E.move k723662) ?_
                      refine FL.val rfl rfl rfl (E.build (B4 rfl rfl rfl rfl) (run_build _ 89 #[(0, v723649), (1, Value.int .i64 x426513), (2, Value.int .i64 x450513), (3, Value.int .i64 y29.pivot)] #[v723649, Value.int .i64 x426513, Value.int .i64 x450513, Value.int .i64 y29.pivot] (by obtain ⟨_, _, rfl⟩ := S723655.row_ln (i := 3) rfl; rfl))) ?_
                      obtain ⟨H795687, S795688, i795689, h795690, nv795691⟩ := S723655.sealRowU (i := 3) (l' := [.box b21 97 [v108174, v108170], .row 3 1 v108170 n108171 cs108172, .row 89 4 v108174 n108175 cs108176]) rfl els723652 (by decide) rfl
                      obtain ⟨s834711, hq834711, hp⟩ := bnd hp
                      obtain ⟨R834711, hR834711⟩ : ∃ R834711 : ((List ResStep) × Int) → Ending → World → Prop, R834711 = (fun s834711 e w => ∃ H : GH, ∃ v834712 : Value, ∃ n834713 : Nat, ∃ cs834714 : List Value, e = Ending.returned (Value.int .i64 s834711.2) ∧ St Ha wa H w [.box b21 97 [v834712, v108170], .row 3 1 v108170 n108171 cs108172, .row 89 4 v834712 n834713 cs834714] ∧ Inc H795687 H ∧ Els (up wa.heap.size H) eResStep 4 cs834714 s834711.1 ∧ (bl cs834714).Nodup) := ⟨_, rfl⟩
                      have hc834711 : Calls Tryz.prog 136 #[Value.pointer (some (⟨b21, 0, none⟩ : Addr)), Value.agg #[v723649, Value.int .i64 x426513, Value.int .i64 x450513, Value.int .i64 y29.pivot]] w723657 (R834711 s834711) := by
                        clear hp; have hp := hq834711; clear hq834711
                        refine calls_go (N := 21) (args := [Value.pointer (some (⟨b21, 0, none⟩ : Addr)), Value.agg #[v723649, Value.int .i64 x426513, Value.int .i64 x450513, Value.int .i64 y29.pivot]]) Tryz.func136 rfl rfl rfl ?_
                        refine FW.seq ?_
                        refine FW.region ?_
                        obtain ⟨b834717, w834718, run834719, S834720⟩ := S795688.box (P := Tryz.prog) 89 [v723649, Value.int .i64 x426513, Value.int .i64 x450513, Value.int .i64 y29.pivot] (v := Value.agg #[v723649, Value.int .i64 x426513, Value.int .i64 x450513, Value.int .i64 y29.pivot]) rfl (ones_cons h795690.one (ones_cons rfl (ones_cons rfl (ones_cons rfl ones_nil))))
                        refine FL.val rfl rfl rfl (E.box rfl run834719) ?_
                        obtain ⟨H834721, S834722, i834723, at834724⟩ := S834720.sealBox (i := 0) (l' := [.box b21 97 [v108174, v108170], .row 3 1 v108170 n108171 cs108172, .row 89 4 v108174 n108175 cs108176]) rfl rfl
                        refine FL.val rfl rfl rfl (E.assign (v := Value.int .i64 0) rfl) ?_
                        refine FL.nil ?_
                        refine FW.seq ?_
                        obtain ⟨xs858725, hz858726, hp⟩ := bnd hp
                        refine FW.drawB (Sl H834721) (fun f w => ∃ H : GH, ∃ v873725 : Value, ∃ n873726 : Nat, ∃ cs873727 : List Value, St Ha wa H w [.box b21 97 [v873725, v108170], .row 3 1 v108170 n108171 cs108172, .row 89 4 v873725 n873726 cs873727] ∧ Inc H834721 H ∧ Els (up wa.heap.size H) eResStep 4 cs873727 xs858725 ∧ (bl cs873727).Nodup ∧ f 0 = Value.pointer (some (⟨b21, 0, none⟩ : Addr))) (by kernel_rfl) S834722.sl ?_ ?_
                        ·
                          intro w834725 r834726
                          have S834727 := S834722.call r834726
                          refine FB.phase [10] (fun w => WAt w (Addr.add ⟨b21, 0, none⟩ 0) [v108174]) ?_
                          refine FB.take (i := 0) (l' := #[true, false, false, false, false, false, false, false, false, false, false]) rfl (by kernel_rfl) (by kernel_rfl) (by kernel_rfl) (by kernel_rfl) (by kernel_rfl) (SP.on ((S834727.box_now (i := 0) rfl).sub (j := 0) (n := 1) (c := [v108174]) rfl) (SP.nil S834727.sl)) rfl rfl rfl (fun w' hw' => (E.move (v := Value.pointer (some (⟨b21, 0, none⟩ : Addr))) rfl)) ?_
                          refine FB.take (i := 1) (l' := #[true, true, false, false, false, false, false, false, false, false, false]) rfl (by kernel_rfl) (by kernel_rfl) (by kernel_rfl) (by kernel_rfl) (by kernel_rfl) (SP.on ((S834727.box_now (i := 0) rfl).sub (j := 0) (n := 1) (c := [v108174]) rfl) (SP.nil S834727.sl)) rfl rfl rfl (fun w' hw' => (E.move (v := Value.pointer (some (⟨b21, 0, none⟩ : Addr))) rfl)) ?_
                          refine FB.take (i := 2) (l' := #[true, true, true, false, false, false, false, false, false, false, false]) rfl (by kernel_rfl) (by kernel_rfl) (by kernel_rfl) (by kernel_rfl) (by kernel_rfl) (SP.on ((S834727.box_now (i := 0) rfl).sub (j := 0) (n := 1) (c := [v108174]) rfl) (SP.nil S834727.sl)) rfl rfl rfl (fun w' hw' => (E.nilCheck rfl)) ?_
                          refine FB.take (i := 3) (l' := #[true, true, true, true, false, false, false, false, false, false, false]) rfl (by kernel_rfl) (by kernel_rfl) (by kernel_rfl) (by kernel_rfl) (by kernel_rfl) (SP.on ((S834727.box_now (i := 0) rfl).sub (j := 0) (n := 1) (c := [v108174]) rfl) (SP.nil S834727.sl)) rfl rfl rfl (fun w' hw' => (E.fieldAddr tf97_0 rfl)) ?_
                          refine FB.takeP (i := 4) (l' := #[true, true, true, true, true, false, false, false, false, false, false]) 0 [7, 8, 9, 10] rfl rfl (by kernel_rfl) (by kernel_rfl) (by kernel_rfl) (by kernel_rfl) (by kernel_rfl) (by kernel_rfl) (SP.on ((S834727.box_now (i := 0) rfl).sub (j := 0) (n := 1) (c := [v108174]) rfl) (SP.nil S834727.sl)) rfl rfl rfl (fun w' hw' => (E.load rfl (run_load0 Tryz.isAgg28 hw' rfl))) ?_
                          refine FB.take (i := 5) (l' := #[true, true, true, true, true, true, false, false, false, false, false]) rfl (by kernel_rfl) (by kernel_rfl) (by kernel_rfl) (by kernel_rfl) (by kernel_rfl) (SP.on ((S834727.box_now (i := 0) rfl).sub (j := 0) (n := 1) (c := [v108174]) rfl) (SP.nil S834727.sl)) rfl rfl rfl (fun w' hw' => (E.load rfl (run_loadA Tryz.isAgg89 Tryz.sizeOf89 (at834724.now hw') rfl))) ?_
                          refine FB.all1 (i := 6) (by kernel_rfl) ?_
                          ·
                            obtain ⟨v855725, w855726, run855727, S855728⟩ := S834727.buildSlice (P := Tryz.prog) te28 [Value.agg #[v723649, Value.int .i64 x426513, Value.int .i64 x450513, Value.int .i64 y29.pivot]] (parts := #[(0, Value.agg #[v723649, Value.int .i64 x426513, Value.int .i64 x450513, Value.int .i64 y29.pivot])]) (cells := [v723649, Value.int .i64 x426513, Value.int .i64 x450513, Value.int .i64 y29.pivot]) rfl (szs_cons rfl szs_nil) (fc_cons rfl fc_nil) (ones_cons h795690.one (ones_cons rfl (ones_cons rfl (ones_cons rfl ones_nil)))) (Nat.le_of_ble_eq_true rfl)
                            have els855729 : Els (up wa.heap.size H834721) eResStep 4 [v723649, Value.int .i64 x426513, Value.int .i64 x450513, Value.int .i64 y29.pivot] [(ResStep.mk r702649.1 x426513 x450513 y29.pivot)] := (Els.snoc (H := (up wa.heap.size H834721)) (E := eResStep) (k := 4) (c := [v723649, Value.int .i64 x426513, Value.int .i64 x450513, Value.int .i64 y29.pivot]) (x := (ResStep.mk r702649.1 x426513 x450513 y29.pivot)) Els.nil rfl ⟨_, rfl, (h795690.mono (up_mono i834723))⟩)
                            have nd855730 : (bl [v723649, Value.int .i64 x426513, Value.int .i64 x450513, Value.int .i64 y29.pivot]).Nodup := by exact nd_one v723649
                            refine FC.val (l' := #[true, true, true, true, true, true, true, false, false, false, false]) rfl (by kernel_rfl) rfl rfl rfl (E.buildSlice (B1 rfl) run855727) ?_
                            refine ⟨(SP.on ((S855728.box_now (i := 1) rfl).sub (j := 0) (n := 1) (c := [v108174]) rfl) (SP.nil S855728.sl)), ?_⟩
                            refine FB.all1 (i := 7) (by kernel_rfl) ?_
                            ·
                              obtain ⟨v858727, w858730, n858728, cs858729, run858731, S858732, els858733, ce858734⟩ := S855728.appendO (P := Tryz.prog) te28 (i := 3) (j := 0) rfl (els108177.mono (up_mono (((i216344.tr i723656).tr i795689).tr i834723))) rfl els855729 hz858726
                              have S858732 : St Ha wa H834721 w858730 [.row 89 4 v855725 1 [v723649, Value.int .i64 x426513, Value.int .i64 x450513, Value.int .i64 y29.pivot], .box b21 97 [v108174, v108170], .row 3 1 v108170 n108171 cs108172, .row 89 4 v858727 n858728 cs858729] := S858732
                              have nd858735 : (bl cs858729).Nodup := by rw [ce858734]; exact nd_app nd108178 nd855730 (Els.dom (els108177.mono (upI.tr (i216344.tr i723656)))) (by exact nv795691)
                              have S858736 : St Ha wa H834721 w858730 [.box b21 97 [v108174, v108170], .row 3 1 v108170 n108171 cs108172, .row 89 4 v858727 n858728 cs858729] := S858732.drop 0
                              refine FC.val (l' := #[true, true, true, true, true, true, true, true, false, false, false]) rfl (by kernel_rfl) rfl rfl rfl (E.append rfl rfl run858731) ?_
                              refine ⟨(SP.on ((S858736.box_now (i := 0) rfl).sub (j := 0) (n := 1) (c := [v108174]) rfl) (SP.nil S858736.sl)), ?_⟩
                              refine FB.take (i := 8) (l' := #[true, true, true, true, true, true, true, true, true, false, false]) rfl (by kernel_rfl) (by kernel_rfl) (by kernel_rfl) (by kernel_rfl) (by kernel_rfl) (SP.on ((S858736.box_now (i := 0) rfl).sub (j := 0) (n := 1) (c := [v108174]) rfl) (SP.nil S858736.sl)) rfl rfl rfl (fun w' hw' => (E.nilCheck rfl)) ?_
                              refine FB.take (i := 9) (l' := #[true, true, true, true, true, true, true, true, true, true, false]) rfl (by kernel_rfl) (by kernel_rfl) (by kernel_rfl) (by kernel_rfl) (by kernel_rfl) (SP.on ((S858736.box_now (i := 0) rfl).sub (j := 0) (n := 1) (c := [v108174]) rfl) (SP.nil S858736.sl)) rfl rfl rfl (fun w' hw' => (E.fieldAddr tf97_0 rfl)) ?_
                              refine FB.all1 (i := 10) (by kernel_rfl) ?_
                              ·
                                obtain ⟨w867725, run867726, S867727⟩ := S858736.store (P := Tryz.prog) (t := 28) (i := 0) (j := 0) (cs' := [v858727, v108170]) (l' := [.box b21 97 [v858727, v108170], .row 3 1 v108170 n108171 cs108172, .row 89 4 v858727 n858728 cs858729]) (v := v858727) (c := [v858727]) rfl Tryz.sizeOf28 (Ln.cells (S858736.row_ln (i := 2) rfl)) rfl (ones_cons (Ln.one (S858736.row_ln (i := 2) rfl)) ones_nil) (Nat.le_of_ble_eq_true rfl) rfl rfl
                                refine FC.act (l' := #[true, true, true, true, true, true, true, true, true, true, true]) rfl (by kernel_rfl) rfl rfl (E.store rfl rfl run867726) ?_
                                refine ⟨(SP.off (by kernel_rfl) (SP.nil S867727.sl)), ?_⟩
                                exact FB.done (by kernel_rfl) ⟨_, _, _, _, S867727, (Inc.rfl _), els858733, nd858735, rfl⟩
                        ·
                          rintro f873735 w873734 ⟨H873731, v873725, n873726, cs873727, S873732, i873733, els873728, nd873729, k873736⟩
                          refine FW.seq ?_
                          refine FW.region ?_
                          refine FL.val rfl rfl rfl (E.move k873736) ?_
                          refine FL.val rfl rfl rfl (E.nilCheck rfl) ?_
                          refine FL.val rfl rfl rfl (E.fieldAddr tf97_0 rfl) ?_
                          refine FL.val rfl rfl rfl (E.load rfl (run_load1 Tryz.isAgg28 (S873732.box_now (i := 0) rfl) rfl)) ?_
                          refine FL.val rfl rfl rfl (E.lenO te28 rfl S873732 (i := 2) rfl els873728 (by decide)) ?_
                          refine FL.val rfl rfl rfl (E.sub rfl rfl) ?_
                          refine FL.val rfl rfl rfl (E.assign (v := Value.int .i64 (wr ((len xs858725) - 1))) rfl) ?_
                          refine FL.nil ?_
                          refine FW.ret ?_
                          obtain rfl := Option.some.inj hp
                          exact ⟨.inr rfl, res1 rfl rfl (by rw [hR834711]; exact ⟨_, _, _, _, rfl, S873732, (i834723.tr i873733), els873728, nd873729⟩)⟩
                      clear hq834711
                      refine FL.call rfl rfl rfl (E.call Tryz.call136 (A2 rfl rfl)) hc834711 ?_
                      intro e w873740 hQ834711
                      rw [hR834711] at hQ834711
                      obtain ⟨H873737, v834712, n834713, cs834714, rfl, S873738, i873739, els834715, nd834716⟩ := hQ834711
                      refine ⟨_, rfl, ?_⟩
                      refine FL.val rfl rfl rfl (E.assign (v := Value.int .i64 s834711.2) rfl) ?_
                      refine FL.nil ?_
                      refine FW.ret ?_
                      obtain rfl := Option.some.inj hp
                      exact ⟨.inr rfl, res1 rfl rfl (by rw [hR648611]; exact ⟨_, _, _, _, rfl, S873738, ((i723656.tr i795689).tr i873739), els834715, nd834716⟩)⟩
              clear hq648611
              refine FC.call (l' := #[true, true, true, true, true, true, true, true, true, true, true, true, true, true, true, true, true, true, true, true, false]) rfl (by kernel_rfl) rfl rfl rfl (E.call Tryz.call138 (A4 rfl rfl rfl rfl)) hc648611 ?_
              intro e w873745 hQ648611
              rw [hR648611] at hQ648611
              obtain ⟨H873742, v648612, n648613, cs648614, rfl, S873743, i873744, els648615, nd648616⟩ := hQ648611
              refine ⟨_, rfl, ?_⟩
              refine ⟨(SP.on ((S873743.box_now (i := 0) rfl).sub (j := 1) (n := 1) (c := [v108170]) rfl) (SP.nil ⟨_, (S873743.sel [1] (by decide) rfl), i873744⟩)), ?_⟩
              refine FB.take (i := 20) (l' := #[true, true, true, true, true, true, true, true, true, true, true, true, true, true, true, true, true, true, true, true, true]) rfl (by kernel_rfl) (by kernel_rfl) (by kernel_rfl) (by kernel_rfl) (by kernel_rfl) (SP.on ((S873743.box_now (i := 0) rfl).sub (j := 1) (n := 1) (c := [v108170]) rfl) (SP.nil ⟨_, (S873743.sel [1] (by decide) rfl), i873744⟩)) rfl rfl rfl (fun w' hw' => (E.assign (v := Value.int .i64 s648611.2) rfl)) ?_
              exact FB.done (by kernel_rfl) ⟨_, _, _, _, S873743, i873744, els648615, nd648616, k216324, rfl, k216325, k216326, k216323⟩
          ·
            rintro f471517 w471516 ⟨H471513, v471507, n471508, cs471509, S471514, i471515, els471510, nd471511, k471518, k471519, k471520, k471521, k471522⟩
            obtain rfl := Option.some.inj hp
            exact ⟨rfl, ⟨_, _, _, _, S471514, i471515, els471510, nd471511, k471518, k471519, k471520, k471521, k471522⟩⟩
    ·
      rintro s324420 rfl f471527 w471526 ⟨H471523, v324423, n324424, cs324425, S471524, i471525, els324426, nd324427, k471528, k471529, k471530, k471531, k471532⟩
      replace hp := el_go hp
      refine FW.region ?_
      refine FL.val rfl rfl rfl (E.move k471528) ?_
      refine FL.val rfl rfl rfl (E.move k471528) ?_
      refine FL.val rfl rfl rfl (E.nilCheck rfl) ?_
      refine FL.val rfl rfl rfl (E.fieldAddr tf97_1 rfl) ?_
      refine FL.val rfl rfl rfl (E.load rfl (run_load1 Tryz.isAgg39 (S471524.box_now (i := 0) rfl) rfl)) ?_
      refine FL.val rfl rfl rfl (E.move k471529) ?_
      obtain ⟨v471533, w471534, run471535, S471536⟩ := S471524.buildSlice (P := Tryz.prog) te39 [Value.int .i64 s324420.2] (parts := #[(0, Value.int .i64 s324420.2)]) (cells := [Value.int .i64 s324420.2]) rfl (szs_cons rfl szs_nil) (fc_cons rfl fc_nil) (ones_cons rfl ones_nil) (Nat.le_of_ble_eq_true rfl)
      have els471537 : Els (up wa.heap.size H471523) eI 1 [Value.int .i64 s324420.2] [s324420.2] := (Els.snoc (H := (up wa.heap.size H471523)) (E := eI) (k := 1) (c := [Value.int .i64 s324420.2]) (x := s324420.2) Els.nil rfl rfl)
      refine FL.val rfl rfl rfl (E.buildSlice (B1 rfl) run471535) ?_
      obtain ⟨xs471538, hz471539, hp⟩ := bnd hp
      obtain ⟨v471540, w471543, n471541, cs471542, run471544, S471545, els471546, ce471547⟩ := S471536.appendO (P := Tryz.prog) te39 (i := 2) (j := 0) rfl (els108173.mono (up_mono (i216344.tr i471525))) rfl els471537 hz471539
      have S471545 : St Ha wa H471523 w471543 [.row 3 1 v471533 1 [Value.int .i64 s324420.2], .box b21 97 [v324423, v108170], .row 3 1 v471540 n471541 cs471542, .row 89 4 v324423 n324424 cs324425] := S471545
      have S471548 : St Ha wa H471523 w471543 [.box b21 97 [v324423, v108170], .row 3 1 v471540 n471541 cs471542, .row 89 4 v324423 n324424 cs324425] := S471545.drop 0
      refine FL.val rfl rfl rfl (E.append rfl rfl run471544) ?_
      refine FL.val rfl rfl rfl (E.nilCheck rfl) ?_
      refine FL.val rfl rfl rfl (E.fieldAddr tf97_1 rfl) ?_
      obtain ⟨w471549, run471550, S471551⟩ := S471548.store (P := Tryz.prog) (t := 39) (i := 0) (j := 1) (cs' := [v324423, v471540]) (l' := [.box b21 97 [v324423, v471540], .row 3 1 v471540 n471541 cs471542, .row 89 4 v324423 n324424 cs324425]) (v := v471540) (c := [v471540]) rfl Tryz.sizeOf39 (Ln.cells (S471548.row_ln (i := 1) rfl)) rfl (ones_cons (Ln.one (S471548.row_ln (i := 1) rfl)) ones_nil) (Nat.le_of_ble_eq_true rfl) rfl rfl
      refine FL.act rfl rfl (E.store rfl rfl run471550) ?_
      refine FL.nil ?_
      refine FW.region ?_
      refine FL.val rfl rfl rfl (E.add k471532 rfl) ?_
      refine FL.val rfl rfl rfl (E.move (v := Value.int .i64 (wr (((i30 : Nat) : Int) + 1))) rfl) ?_
      refine FL.nil ?_
      obtain rfl := Option.some.inj hp
      exact ⟨rfl, ⟨_, _, _, _, _, _, _, S471551, ((i216320.tr i216344).tr i471525), els471546, els324426, nd324427, (nat_succ rfl (lt_of_get hx30) (p0.mono ((i216320.tr i216344).tr i471525)).le), k471528, k471530, k471531⟩⟩
    ·
      intro x324422; exact x324422.elim
  ·
    clear hp hq
    rintro s30 f555601 w555600 ⟨H555597, v108170, n108171, cs108172, v108174, n108175, cs108176, S555598, i555599, els108173, els108177, nd108178, k555602, k555603, k555604, k555605⟩
    refine FW.seq ?_
    refine FW.region ?_
    refine FL.val rfl rfl rfl (E.lss k555602 k555605) ?_
    refine FL.nil ?_
    refine FW.seq ?_
    refine FW.condF rfl dlt_len ?_
    refine FW.exit ?_
    exact ⟨nofun, rfl, ⟨_, _, _, _, _, _, _, S555598, i555599, els108173, els108177, nd108178, k555603⟩⟩
  ·
    clear hq
    intro e f471557 w471556 hD
    rcases q30 with s30 | x30
    ·
      obtain ⟨rfl, hD⟩ := hD
      obtain ⟨H471553, v108170, n108171, cs108172, v108174, n108175, cs108176, S471554, i471555, els108173, els108177, nd108178, k471558⟩ := hD
      replace hp := el_go hp
      refine FW.seq ?_
      refine FW.region ?_
      refine FL.val rfl rfl rfl (E.move k471558) ?_
      obtain ⟨s513572, hq513572, hp⟩ := bnd hp
      obtain ⟨R513572, hR513572⟩ : ∃ R513572 : (List ResStep) → Ending → World → Prop, R513572 = (fun s513572 e w => ∃ H : GH, ∃ v513573 : Value, ∃ n513574 : Nat, ∃ cs513575 : List Value, e = Ending.returned (v513573) ∧ St Ha wa H w [.box b21 97 [v108174, v108170], .row 3 1 v108170 n108171 cs108172, .row 89 4 v513573 n513574 cs513575] ∧ Inc H471553 H ∧ Els (up wa.heap.size H) eResStep 4 cs513575 s513572 ∧ (bl cs513575).Nodup) := ⟨_, rfl⟩
      have hc513572 : Calls Tryz.prog 83 #[Value.pointer (some (⟨b21, 0, none⟩ : Addr))] w471556 (R513572 s513572) := by
        clear hp; have hp := hq513572; clear hq513572
        refine calls_go (N := 20) (args := [Value.pointer (some (⟨b21, 0, none⟩ : Addr))]) Tryz.func83 rfl rfl rfl ?_
        refine FW.seq ?_
        refine FW.region ?_
        refine FL.val rfl rfl rfl (E.assign (v := Value.slice none 0 0) rfl) ?_
        refine FL.nil ?_
        refine FW.seq ?_
        refine FW.seq ?_
        refine FW.region ?_
        refine FL.val rfl rfl rfl (E.move (v := Value.pointer (some (⟨b21, 0, none⟩ : Addr))) rfl) ?_
        refine FL.val rfl rfl rfl (E.nilCheck rfl) ?_
        refine FL.val rfl rfl rfl (E.fieldAddr tf97_1 rfl) ?_
        refine FL.val rfl rfl rfl (E.load rfl (run_load1 Tryz.isAgg39 (S471554.box_now (i := 0) rfl) rfl)) ?_
        refine FL.val rfl rfl rfl (E.lenO te39 rfl S471554 (i := 1) rfl els108173 (by decide)) ?_
        refine FL.val rfl rfl rfl (E.eql rfl rfl) ?_
        refine FL.nil ?_
        rcases ifB hp with ⟨c513578, hp⟩ | ⟨c513578, hp⟩
        ·
          refine FW.condT rfl c513578 ?_
          refine FW.seq ?_
          refine FW.region ?_
          refine FL.val rfl rfl rfl (E.assign (v := Value.slice none 0 0) rfl) ?_
          refine FL.nil ?_
          refine FW.ret ?_
          obtain rfl := Option.some.inj hp
          exact ⟨.inr rfl, res1 rfl rfl (by rw [hR513572]; exact ⟨_, _, _, _, rfl, ((S471554.nil 89 4).sel [1, 2, 0] (by decide) rfl), (Inc.rfl _), Els.nil, List.nodup_nil⟩)⟩
        ·
          refine FW.condF rfl c513578 ?_
          refine FW.skip ?_
          refine FW.seq ?_
          obtain ⟨r540585, hr540586, hp⟩ := bnd hp
          obtain ⟨xs546580, hc546581, hp⟩ := bnd hp
          refine FW.drawB (SX Ha wa H471553 [.box b21 97 [v108174, v108170]]) (fun f w => ∃ H : GH, ∃ v555580 : Value, ∃ n555581 : Nat, ∃ cs555582 : List Value, St Ha wa H w [.box b21 97 [v108174, v108170], .row 3 1 v108170 n108171 cs108172, .row 89 4 v555580 n555581 cs555582] ∧ Inc H471553 H ∧ Els (up wa.heap.size H) eResStep 4 cs555582 xs546580 ∧ (bl cs555582).Nodup ∧ f 2 = v555580) (by kernel_rfl) S471554.sl ?_ ?_
          ·
            intro w513580 r513581
            have S513582 := S471554.call r513581
            refine FB.take (i := 0) (l' := #[true, false, false, false, false, false, false, false, false, false, false, false]) rfl (by kernel_rfl) (by kernel_rfl) (by kernel_rfl) (by kernel_rfl) (by kernel_rfl) (SP.nil ⟨_, (S513582.sel [0] (by decide) rfl), (Inc.rfl _)⟩) rfl rfl rfl (fun w' hw' => (E.move (v := Value.pointer (some (⟨b21, 0, none⟩ : Addr))) rfl)) ?_
            refine FB.take (i := 1) (l' := #[true, true, false, false, false, false, false, false, false, false, false, false]) rfl (by kernel_rfl) (by kernel_rfl) (by kernel_rfl) (by kernel_rfl) (by kernel_rfl) (SP.nil ⟨_, (S513582.sel [0] (by decide) rfl), (Inc.rfl _)⟩) rfl rfl rfl (fun w' hw' => (E.nilCheck rfl)) ?_
            refine FB.take (i := 2) (l' := #[true, true, true, false, false, false, false, false, false, false, false, false]) rfl (by kernel_rfl) (by kernel_rfl) (by kernel_rfl) (by kernel_rfl) (by kernel_rfl) (SP.nil ⟨_, (S513582.sel [0] (by decide) rfl), (Inc.rfl _)⟩) rfl rfl rfl (fun w' hw' => (E.fieldAddr tf97_0 rfl)) ?_
            refine FB.take (i := 3) (l' := #[true, true, true, true, false, false, false, false, false, false, false, false]) rfl (by kernel_rfl) (by kernel_rfl) (by kernel_rfl) (by kernel_rfl) (by kernel_rfl) (SP.nil ⟨_, (S513582.sel [0] (by decide) rfl), (Inc.rfl _)⟩) rfl rfl rfl (fun w' hw' => (E.load rfl (run_load1 Tryz.isAgg28 (SX.box_now hw' (i := 0) rfl) rfl))) ?_
            refine FB.take (i := 4) (l' := #[true, true, true, true, true, false, false, false, false, false, false, false]) rfl (by kernel_rfl) (by kernel_rfl) (by kernel_rfl) (by kernel_rfl) (by kernel_rfl) (SP.nil ⟨_, (S513582.sel [0] (by decide) rfl), (Inc.rfl _)⟩) rfl rfl rfl (fun w' hw' => (E.move (v := Value.pointer (some (⟨b21, 0, none⟩ : Addr))) rfl)) ?_
            refine FB.take (i := 5) (l' := #[true, true, true, true, true, true, false, false, false, false, false, false]) rfl (by kernel_rfl) (by kernel_rfl) (by kernel_rfl) (by kernel_rfl) (by kernel_rfl) (SP.nil ⟨_, (S513582.sel [0] (by decide) rfl), (Inc.rfl _)⟩) rfl rfl rfl (fun w' hw' => (E.nilCheck rfl)) ?_
            refine FB.take (i := 6) (l' := #[true, true, true, true, true, true, true, false, false, false, false, false]) rfl (by kernel_rfl) (by kernel_rfl) (by kernel_rfl) (by kernel_rfl) (by kernel_rfl) (SP.nil ⟨_, (S513582.sel [0] (by decide) rfl), (Inc.rfl _)⟩) rfl rfl rfl (fun w' hw' => (E.fieldAddr tf97_1 rfl)) ?_
            refine FB.take (i := 7) (l' := #[true, true, true, true, true, true, true, true, false, false, false, false]) rfl (by kernel_rfl) (by kernel_rfl) (by kernel_rfl) (by kernel_rfl) (by kernel_rfl) (SP.nil ⟨_, (S513582.sel [0] (by decide) rfl), (Inc.rfl _)⟩) rfl rfl rfl (fun w' hw' => (E.load rfl (run_load1 Tryz.isAgg39 (SX.box_now hw' (i := 0) rfl) rfl))) ?_
            refine FB.all1 (i := 8) (by kernel_rfl) ?_
            ·
              obtain ⟨H540580, S540581, i540582, h540583, nv540584⟩ := S513582.sealRowU (i := 1) (l' := [.box b21 97 [v108174, v108170], .row 89 4 v108174 n108175 cs108176]) rfl els108173 (by decide) rfl
              refine FC.call (l' := #[true, true, true, true, true, true, true, true, true, false, false, false]) rfl (by kernel_rfl) rfl rfl rfl (E.call Tryz.call95 (A1 rfl)) (w_impl_last_int S540581.sl v108170 s30.1 (h540583.mono upI) hr540586) ?_
              rintro e w540587 ⟨rfl, r540588⟩
              refine ⟨_, rfl, ?_⟩
              have r540588 := Run.lend i540582 S513582.sl r540588
              have S540589 := S513582.call r540588
              refine ⟨(SP.nil ⟨_, (S540589.sel [0] (by decide) rfl), (Inc.rfl _)⟩), ?_⟩
              refine FB.take (i := 9) (l' := #[true, true, true, true, true, true, true, true, true, true, false, false]) rfl (by kernel_rfl) (by kernel_rfl) (by kernel_rfl) (by kernel_rfl) (by kernel_rfl) (SP.nil ⟨_, (S540589.sel [0] (by decide) rfl), (Inc.rfl _)⟩) rfl rfl rfl (fun w' hw' => (E.add rfl rfl)) ?_
              refine FB.phase [] (fun w' => w' = w540587) ?_
              obtain ⟨v546582, n546583, cs546584, run546585, S546586, els546587, nd546588⟩ := S540589.cutRow te28 (kk := .i64) (i := 2) rfl els108177 hc546581
              have S546586 : St Ha wa H471553 w540587 [.box b21 97 [v108174, v108170], .row 3 1 v108170 n108171 cs108172, .row 89 4 v546582 n546583 cs546584] := S546586
              refine FB.takeW (i := 10) (l' := #[true, true, true, true, true, true, true, true, true, true, true, false]) [11] rfl (by kernel_rfl) (by kernel_rfl) (by kernel_rfl) (by kernel_rfl) (by kernel_rfl) (by kernel_rfl) (SP.on rfl (SP.nil ⟨_, (S540589.sel [0] (by decide) rfl), (Inc.rfl _)⟩)) rfl rfl rfl (E.slice te28 rfl rfl (congrArg some rfl) rfl (run546585 _)) ?_
              refine FB.take (i := 11) (l' := #[true, true, true, true, true, true, true, true, true, true, true, true]) rfl (by kernel_rfl) (by kernel_rfl) (by kernel_rfl) (by kernel_rfl) (by kernel_rfl) (SP.on rfl (SP.nil ⟨_, (S546586.sel [0] (by decide) rfl), (Inc.rfl _)⟩)) rfl rfl rfl (fun w' hw' => (E.assign (v := v546582) rfl)) ?_
              exact FB.done (by kernel_rfl) ⟨_, _, _, _, S546586, (Inc.rfl _), els546587, (nd546588 nd108178), rfl⟩
          ·
            rintro f555590 w555589 ⟨H555586, v555580, n555581, cs555582, S555587, i555588, els555583, nd555584, k555591⟩
            refine FW.ret ?_
            obtain rfl := Option.some.inj hp
            exact ⟨.inr rfl, res1 rfl k555591 (by rw [hR513572]; exact ⟨_, _, _, _, rfl, S555587, i555588, els555583, nd555584⟩)⟩
      clear hq513572
      refine FL.call rfl rfl rfl (E.call Tryz.call83 (A1 rfl)) hc513572 ?_
      intro e w555595 hQ513572
      rw [hR513572] at hQ513572
      obtain ⟨H555592, v513573, n513574, cs513575, rfl, S555593, i555594, els513576, nd513577⟩ := hQ513572
      refine ⟨_, rfl, ?_⟩
      refine FL.val rfl rfl rfl (E.assign (v := v513573) rfl) ?_
      refine FL.nil ?_
      refine FW.ret ?_
      obtain rfl := Option.some.inj hp
      exact ⟨.inr rfl, res1 rfl rfl ⟨_, _, _, _, rfl, (S555593.sel [2] (by decide) rfl), els513576, nd513577⟩⟩
    · exact x30.elim

@[reducible] def p_impl_DropWeakenings (Ha : GH) (wa : World) (r : ((List ResStep) × Bool)) : Ending → World → Prop :=
  fun e w' => ∃ H' : GH, ∃ v0 : Value, ∃ n0 : Nat, ∃ c0 : List Value, e = .returned (Value.tuple #[v0, Value.bool r.2]) ∧ St Ha wa H' w' [.row 89 4 v0 n0 c0] ∧ Els (up wa.heap.size H') eResStep 4 c0 r.1 ∧ (bl c0).Nodup
theorem w_impl_DropWeakenings {Ha : GH} {wa : World} (hs : Sl Ha wa) (a0 : Cnf) (v0_1 : Value) (p0_1 : RSl Ha (eL eI 1) 1 v0_1 a0.clauses) (v1 : Value) (a1 : List ResStep) (p1 : RSl Ha eResStep 4 v1 a1) {r : ((List ResStep) × Bool)} (hp : (PF.impl_DropWeakenings a0 a1) = some r) :
    Calls Tryz.prog 20 #[Value.agg #[Value.int .i64 a0.vars, v0_1], v1] wa (p_impl_DropWeakenings Ha wa r) := by
  unfold PF.impl_DropWeakenings at hp
  have S0 := St.init hs
  refine calls_go (N := 12) (args := [Value.agg #[Value.int .i64 a0.vars, v0_1], v1]) Tryz.func20 rfl rfl rfl ?_
  refine FW.seq ?_
  refine FW.region ?_
  obtain ⟨b21, w22, run23, S24⟩ := S0.box (P := Tryz.prog) 31 [Value.int .i64 a0.vars, v0_1] (v := Value.agg #[Value.int .i64 a0.vars, v0_1]) rfl (ones_cons rfl (ones_cons p0_1.one ones_nil))
  refine FL.val rfl rfl rfl (E.box rfl run23) ?_
  obtain ⟨H25, S26, i27, at28⟩ := S24.sealBox (i := 0) (l' := []) rfl rfl
  refine FL.val rfl rfl rfl (E.assign (v := Value.slice none 0 0) rfl) ?_
  refine FL.val rfl rfl rfl (E.assign (v := Value.bool false) rfl) ?_
  refine FL.nil ?_
  refine FW.seq ?_
  refine FW.seq ?_
  refine FW.region ?_
  refine FL.val rfl rfl rfl (E.load rfl (run_loadA Tryz.isAgg31 Tryz.sizeOf31 (at28.now S26.sl) rfl)) ?_
  refine FL.val rfl rfl rfl (E.move (v := v1) rfl) ?_
  obtain ⟨r29, hr30, hp⟩ := bnd hp
  refine FL.call rfl rfl rfl (E.call Tryz.call74 (A2 rfl rfl)) (w_impl_IsDerivation S26.sl a0 v0_1 (p0_1.mono i27) v1 a1 (p1.mono i27) hr30) ?_
  rintro e w31 ⟨rfl, r32⟩
  refine ⟨_, rfl, ?_⟩
  have S33 := S26.call r32
  refine FL.val rfl rfl rfl (E.not rfl) ?_
  refine FL.nil ?_
  rcases ifB hp with ⟨c34, hp⟩ | ⟨c34, hp⟩
  ·
    refine FW.condT rfl c34 ?_
    refine FW.seq ?_
    refine FW.region ?_
    refine FL.val rfl rfl rfl (E.assign (v := Value.slice none 0 0) rfl) ?_
    refine FL.val rfl rfl rfl (E.assign (v := Value.bool false) rfl) ?_
    refine FL.nil ?_
    refine FW.ret ?_
    obtain rfl := Option.some.inj hp
    exact ⟨.inr rfl, res2 rfl rfl rfl ⟨_, _, _, _, rfl, (S33.nil 89 4), Els.nil, List.nodup_nil⟩⟩
  ·
    refine FW.condF rfl c34 ?_
    refine FW.skip ?_
    refine FW.seq ?_
    refine FW.region ?_
    refine FL.val rfl rfl rfl (E.move (v := v1) rfl) ?_
    obtain ⟨r35, hr36, hp⟩ := bnd hp
    refine FL.call rfl rfl rfl (E.call Tryz.call75 (A1 rfl)) (w_impl_dropWeakenings S33.sl v1 a1 (p1.mono i27) hr36) ?_
    rintro e w38 ⟨H37, v41, n42, cs43, rfl, r40, els44, nd45⟩
    refine ⟨_, rfl, ?_⟩
    have nv46 : New H25 cs43 := New.of_up S33.sl els44.dom
    have els44 := els44.mono (up_le S33.size)
    have S39 := S33.join (l' := [.row 89 4 v41 n42 cs43]) r40 rfl
    refine FL.val rfl rfl rfl (E.assign (v := v41) rfl) ?_
    refine FL.val rfl rfl rfl (E.assign (v := Value.bool true) rfl) ?_
    refine FL.nil ?_
    refine FW.ret ?_
    obtain rfl := Option.some.inj hp
    exact ⟨.inr rfl, res2 rfl rfl rfl ⟨_, _, _, _, rfl, S39, els44, nd45⟩⟩

theorem w_laws_eqIntS {Ha : GH} {wa : World} (hs : Sl Ha wa) (v0 : Value) (a0 : List Int) (p0 : RSl Ha eI 1 v0 a0) (v1 : Value) (a1 : List Int) (p1 : RSl Ha eI 1 v1 a1) {r : Bool} (hp : (PF.laws_eqIntS a0 a1) = some r) :
    Calls Tryz.prog 29 #[v0, v1] wa (Sc Ha wa (Value.bool r)) := by
  unfold PF.laws_eqIntS at hp
  have S0 := St.init hs
  refine calls_go (N := 26) (args := [v0, v1]) Tryz.func29 rfl rfl rfl ?_
  refine FW.seq ?_
  refine FW.region ?_
  refine FL.val rfl rfl rfl (E.assign (v := Value.bool false) rfl) ?_
  refine FL.nil ?_
  refine FW.seq ?_
  refine FW.seq ?_
  refine FW.region ?_
  refine FL.val rfl rfl rfl (E.move (v := v0) rfl) ?_
  refine FL.val rfl rfl rfl (E.lenP te39 rfl p0) ?_
  refine FL.val rfl rfl rfl (E.move (v := v1) rfl) ?_
  refine FL.val rfl rfl rfl (E.lenP te39 rfl p1) ?_
  refine FL.val rfl rfl rfl (E.neq rfl rfl) ?_
  refine FL.nil ?_
  rcases ifB hp with ⟨c21, hp⟩ | ⟨c21, hp⟩
  ·
    refine FW.condT rfl c21 ?_
    refine FW.seq ?_
    refine FW.region ?_
    refine FL.val rfl rfl rfl (E.assign (v := Value.bool false) rfl) ?_
    refine FL.nil ?_
    refine FW.ret ?_
    obtain rfl := Option.some.inj hp
    exact ⟨.inr rfl, res1 rfl rfl ⟨rfl, S0.back⟩⟩
  ·
    refine FW.condF rfl c21 ?_
    refine FW.skip ?_
    refine FW.seq ?_
    refine FW.seq ?_
    refine FW.region ?_
    refine FL.val rfl rfl rfl (E.assign (v := Value.int .i64 0) rfl) ?_
    refine FL.nil ?_
    obtain ⟨q23, hq, hp⟩ := bndR hp
    refine FW.block ?_
    refine FW.mono (FW.forL (S := Unit) (X := Bool) (fun (i23 : Nat) (s23 : Unit) f w => ∃ H : GH, St Ha wa H w [] ∧ Inc Ha H ∧ f 5 = Value.int .i64 ((i23 : Nat) : Int) ∧ f 0 = v0 ∧ f 1 = v1) (fun q e f w => match q with | .go s23 => e = Exit.exit 0 ∧ (∃ H : GH, St Ha wa H w [] ∧ Inc Ha H) | .rt x => ((e = Exit.ret) ∧ (fun e f w => (e = Exit.normal ∨ e = Exit.ret) ∧ ∀ a, Fr (δ := []) 26 a f → ∃ v, (results Tryz.f29 a.tmps).run Tryz.prog w = .ok v w ∧ (Sc Ha wa (Value.bool x)) (.returned v) w) e f w)) hq ⟨_, S0, (Inc.rfl _), rfl, rfl, rfl⟩ ?_ ?_) ?_
    ·
      clear hp hq
      rintro i23 y22 s23 f55 w54 ⟨H51, S52, i53, k56, k57, k58⟩ hx23 o78 hp
      refine FW.seq ?_
      refine FW.seq ?_
      refine FW.region ?_
      refine FL.val rfl rfl rfl (E.move k56) ?_
      refine FL.val rfl rfl rfl (E.move k57) ?_
      refine FL.val rfl rfl rfl (E.lenP te39 rfl p0) ?_
      refine FL.val rfl rfl rfl (E.lssT rfl rfl (lss_len hx23)) ?_
      refine FL.nil ?_
      refine FW.condT rfl rfl ?_
      refine FW.skip ?_
      refine FW.seq ?_
      refine FW.block ?_
      refine FW.seq ?_
      refine FW.draw (fun w' => Run w54.heap.size H51 w54 H51 w') (by kernel_rfl) (by kernel_rfl) (run_drew S52.sl) ?_
      refine FD.val rfl rfl rfl (fun w' hw' => (E.move k57)) ?_
      refine FD.val rfl rfl rfl (fun w' hw' => (E.move k56)) ?_
      obtain ⟨p60, cs61, pt62, l63, at64, rel65⟩ := p0.at (ix_nat hx23)
      obtain rfl := eI_open rel65
      refine FD.val rfl rfl rfl (fun w' hw' => (E.indexAddr te39 rfl rfl pt62)) ?_
      refine FD.val rfl rfl rfl (fun w' hw' => (E.load rfl (run_load0 Tryz.isAgg3 ((at64.mono i53).now (S52.call hw').sl) rfl))) ?_
      refine FD.val rfl rfl rfl (fun w' hw' => (E.move k58)) ?_
      refine FD.val rfl rfl rfl (fun w' hw' => (E.move k56)) ?_
      obtain ⟨x72, hx73, hp⟩ := bnd hp
      obtain ⟨p66, cs67, pt68, l69, at70, rel71⟩ := p1.at hx73
      obtain rfl := eI_open rel71
      refine FD.val rfl rfl rfl (fun w' hw' => (E.indexAddr te39 rfl rfl pt68)) ?_
      refine FD.val rfl rfl rfl (fun w' hw' => (E.load rfl (run_load0 Tryz.isAgg3 ((at70.mono i53).now (S52.call hw').sl) rfl))) ?_
      refine FD.val rfl rfl rfl (fun w' hw' => (E.neq rfl rfl)) ?_
      refine FD.nil ?_
      intro w74 r76
      have S75 := S52.call r76
      rcases ifB hp with ⟨c77, hp⟩ | ⟨c77, hp⟩
      ·
        refine FW.condT rfl c77 ?_
        refine FW.seq ?_
        refine FW.region ?_
        refine FL.val rfl rfl rfl (E.assign (v := Value.bool false) rfl) ?_
        refine FL.nil ?_
        refine FW.ret ?_
        obtain rfl := Option.some.inj hp
        exact ⟨nofun, rfl, ⟨.inr rfl, res1 rfl rfl ⟨rfl, S75.back⟩⟩⟩
      ·
        refine FW.condF rfl c77 ?_
        refine FW.skip ?_
        refine FW.region ?_
        refine FL.val rfl rfl rfl (E.move k56) ?_
        refine FL.val rfl rfl rfl (E.add rfl rfl) ?_
        refine FL.val rfl rfl rfl (E.assign (v := Value.int .i64 (wr (((i23 : Nat) : Int) + 1))) rfl) ?_
        refine FL.nil ?_
        obtain rfl := Option.some.inj hp
        exact ⟨rfl, ⟨_, S75, i53, (nat_succ rfl (lt_of_get hx23) (p0.mono i53).le), k57, k58⟩⟩
    ·
      clear hp hq
      rintro s23 f88 w87 ⟨H84, S85, i86, k89, k90, k91⟩
      refine FW.seq ?_
      refine FW.seq ?_
      refine FW.region ?_
      refine FL.val rfl rfl rfl (E.move k89) ?_
      refine FL.val rfl rfl rfl (E.move k90) ?_
      refine FL.val rfl rfl rfl (E.lenP te39 rfl p0) ?_
      refine FL.val rfl rfl rfl (E.lss rfl rfl) ?_
      refine FL.nil ?_
      refine FW.condF rfl dlt_len ?_
      refine FW.exit ?_
      exact ⟨nofun, rfl, ⟨_, S85, i86⟩⟩
    ·
      clear hq
      intro e f83 w82 hD
      rcases q23 with s23 | x23
      ·
        obtain ⟨rfl, hD⟩ := hD
        obtain ⟨H79, S80, i81⟩ := hD
        replace hp := el_go hp
        refine FW.seq ?_
        refine FW.region ?_
        refine FL.val rfl rfl rfl (E.assign (v := Value.bool true) rfl) ?_
        refine FL.nil ?_
        refine FW.ret ?_
        obtain rfl := Option.some.inj hp
        exact ⟨.inr rfl, res1 rfl rfl ⟨rfl, S80.back⟩⟩
      ·
        obtain ⟨he, hL⟩ := hD
        replace hp := el_rt hp
        obtain rfl := Option.some.inj hp
        subst he
        exact hL

theorem w_laws_eqResStep {Ha : GH} {wa : World} (hs : Sl Ha wa) (a0 : ResStep) (v0_0 : Value) (p0_0 : RSl Ha eI 1 v0_0 a0.clause) (a1 : ResStep) (v1_0 : Value) (p1_0 : RSl Ha eI 1 v1_0 a1.clause) {r : Bool} (hp : (PF.laws_eqResStep a0 a1) = some r) :
    Calls Tryz.prog 76 #[Value.agg #[v0_0, Value.int .i64 a0.left, Value.int .i64 a0.right, Value.int .i64 a0.pivot], Value.agg #[v1_0, Value.int .i64 a1.left, Value.int .i64 a1.right, Value.int .i64 a1.pivot]] wa (Sc Ha wa (Value.bool r)) := by
  unfold PF.laws_eqResStep at hp
  have S0 := St.init hs
  refine calls_go (N := 26) (args := [Value.agg #[v0_0, Value.int .i64 a0.left, Value.int .i64 a0.right, Value.int .i64 a0.pivot], Value.agg #[v1_0, Value.int .i64 a1.left, Value.int .i64 a1.right, Value.int .i64 a1.pivot]]) Tryz.func76 rfl rfl rfl ?_
  refine FW.seq ?_
  refine FW.region ?_
  obtain ⟨b21, w22, run23, S24⟩ := S0.box (P := Tryz.prog) 89 [v0_0, Value.int .i64 a0.left, Value.int .i64 a0.right, Value.int .i64 a0.pivot] (v := Value.agg #[v0_0, Value.int .i64 a0.left, Value.int .i64 a0.right, Value.int .i64 a0.pivot]) rfl (ones_cons p0_0.one (ones_cons rfl (ones_cons rfl (ones_cons rfl ones_nil))))
  refine FL.val rfl rfl rfl (E.box rfl run23) ?_
  obtain ⟨H25, S26, i27, at28⟩ := S24.sealBox (i := 0) (l' := []) rfl rfl
  obtain ⟨b29, w30, run31, S32⟩ := S26.box (P := Tryz.prog) 89 [v1_0, Value.int .i64 a1.left, Value.int .i64 a1.right, Value.int .i64 a1.pivot] (v := Value.agg #[v1_0, Value.int .i64 a1.left, Value.int .i64 a1.right, Value.int .i64 a1.pivot]) rfl (ones_cons p1_0.one (ones_cons rfl (ones_cons rfl (ones_cons rfl ones_nil))))
  refine FL.val rfl rfl rfl (E.box rfl run31) ?_
  obtain ⟨H33, S34, i35, at36⟩ := S32.sealBox (i := 0) (l' := []) rfl rfl
  refine FL.val rfl rfl rfl (E.assign (v := Value.bool false) rfl) ?_
  refine FL.nil ?_
  refine FW.seq ?_
  refine FW.seq ?_
  refine FW.region ?_
  refine FL.val rfl rfl rfl (E.fieldAddr tf89_0 rfl) ?_
  refine FL.val rfl rfl rfl (E.load rfl (run_load1 Tryz.isAgg39 ((at28.mono i35).now S34.sl) rfl)) ?_
  refine FL.val rfl rfl rfl (E.fieldAddr tf89_0 rfl) ?_
  refine FL.val rfl rfl rfl (E.load rfl (run_load1 Tryz.isAgg39 (at36.now S34.sl) rfl)) ?_
  obtain ⟨r37, hr38, hp⟩ := bnd hp
  refine FL.call rfl rfl rfl (E.call Tryz.call29 (A2 rfl rfl)) (w_laws_eqIntS S34.sl v0_0 a0.clause (p0_0.mono (i27.tr i35)) v1_0 a1.clause (p1_0.mono (i27.tr i35)) hr38) ?_
  rintro e w39 ⟨rfl, r40⟩
  refine ⟨_, rfl, ?_⟩
  have S41 := S34.call r40
  refine FL.val rfl rfl rfl (E.not rfl) ?_
  refine FL.nil ?_
  rcases ifB hp with ⟨c42, hp⟩ | ⟨c42, hp⟩
  ·
    refine FW.condT rfl c42 ?_
    refine FW.seq ?_
    refine FW.region ?_
    refine FL.val rfl rfl rfl (E.assign (v := Value.bool false) rfl) ?_
    refine FL.nil ?_
    refine FW.ret ?_
    obtain rfl := Option.some.inj hp
    exact ⟨.inr rfl, res1 rfl rfl ⟨rfl, S41.back⟩⟩
  ·
    refine FW.condF rfl c42 ?_
    refine FW.skip ?_
    refine FW.seq ?_
    refine FW.seq ?_
    refine FW.region ?_
    refine FL.val rfl rfl rfl (E.fieldAddr tf89_1 rfl) ?_
    refine FL.val rfl rfl rfl (E.load rfl (run_load1 Tryz.isAgg3 ((at28.mono i35).now S41.sl) rfl)) ?_
    refine FL.val rfl rfl rfl (E.fieldAddr tf89_1 rfl) ?_
    refine FL.val rfl rfl rfl (E.load rfl (run_load1 Tryz.isAgg3 (at36.now S41.sl) rfl)) ?_
    refine FL.val rfl rfl rfl (E.neq rfl rfl) ?_
    refine FL.nil ?_
    rcases ifB hp with ⟨c43, hp⟩ | ⟨c43, hp⟩
    ·
      refine FW.condT rfl c43 ?_
      refine FW.seq ?_
      refine FW.region ?_
      refine FL.val rfl rfl rfl (E.assign (v := Value.bool false) rfl) ?_
      refine FL.nil ?_
      refine FW.ret ?_
      obtain rfl := Option.some.inj hp
      exact ⟨.inr rfl, res1 rfl rfl ⟨rfl, S41.back⟩⟩
    ·
      refine FW.condF rfl c43 ?_
      refine FW.skip ?_
      refine FW.seq ?_
      refine FW.seq ?_
      refine FW.region ?_
      refine FL.val rfl rfl rfl (E.fieldAddr tf89_2 rfl) ?_
      refine FL.val rfl rfl rfl (E.load rfl (run_load1 Tryz.isAgg3 ((at28.mono i35).now S41.sl) rfl)) ?_
      refine FL.val rfl rfl rfl (E.fieldAddr tf89_2 rfl) ?_
      refine FL.val rfl rfl rfl (E.load rfl (run_load1 Tryz.isAgg3 (at36.now S41.sl) rfl)) ?_
      refine FL.val rfl rfl rfl (E.neq rfl rfl) ?_
      refine FL.nil ?_
      rcases ifB hp with ⟨c44, hp⟩ | ⟨c44, hp⟩
      ·
        refine FW.condT rfl c44 ?_
        refine FW.seq ?_
        refine FW.region ?_
        refine FL.val rfl rfl rfl (E.assign (v := Value.bool false) rfl) ?_
        refine FL.nil ?_
        refine FW.ret ?_
        obtain rfl := Option.some.inj hp
        exact ⟨.inr rfl, res1 rfl rfl ⟨rfl, S41.back⟩⟩
      ·
        refine FW.condF rfl c44 ?_
        refine FW.skip ?_
        refine FW.seq ?_
        refine FW.seq ?_
        refine FW.region ?_
        refine FL.val rfl rfl rfl (E.fieldAddr tf89_3 rfl) ?_
        refine FL.val rfl rfl rfl (E.load rfl (run_load1 Tryz.isAgg3 ((at28.mono i35).now S41.sl) rfl)) ?_
        refine FL.val rfl rfl rfl (E.fieldAddr tf89_3 rfl) ?_
        refine FL.val rfl rfl rfl (E.load rfl (run_load1 Tryz.isAgg3 (at36.now S41.sl) rfl)) ?_
        refine FL.val rfl rfl rfl (E.neq rfl rfl) ?_
        refine FL.nil ?_
        rcases ifB hp with ⟨c45, hp⟩ | ⟨c45, hp⟩
        ·
          refine FW.condT rfl c45 ?_
          refine FW.seq ?_
          refine FW.region ?_
          refine FL.val rfl rfl rfl (E.assign (v := Value.bool false) rfl) ?_
          refine FL.nil ?_
          refine FW.ret ?_
          obtain rfl := Option.some.inj hp
          exact ⟨.inr rfl, res1 rfl rfl ⟨rfl, S41.back⟩⟩
        ·
          refine FW.condF rfl c45 ?_
          refine FW.skip ?_
          refine FW.seq ?_
          refine FW.region ?_
          refine FL.val rfl rfl rfl (E.assign (v := Value.bool true) rfl) ?_
          refine FL.nil ?_
          refine FW.ret ?_
          obtain rfl := Option.some.inj hp
          exact ⟨.inr rfl, res1 rfl rfl ⟨rfl, S41.back⟩⟩

theorem w_laws_eqResStepS {Ha : GH} {wa : World} (hs : Sl Ha wa) (v0 : Value) (a0 : List ResStep) (p0 : RSl Ha eResStep 4 v0 a0) (v1 : Value) (a1 : List ResStep) (p1 : RSl Ha eResStep 4 v1 a1) {r : Bool} (hp : (PF.laws_eqResStepS a0 a1) = some r) :
    Calls Tryz.prog 21 #[v0, v1] wa (Sc Ha wa (Value.bool r)) := by
  unfold PF.laws_eqResStepS at hp
  have S0 := St.init hs
  refine calls_go (N := 27) (args := [v0, v1]) Tryz.func21 rfl rfl rfl ?_
  refine FW.seq ?_
  refine FW.region ?_
  refine FL.val rfl rfl rfl (E.assign (v := Value.bool false) rfl) ?_
  refine FL.nil ?_
  refine FW.seq ?_
  refine FW.seq ?_
  refine FW.region ?_
  refine FL.val rfl rfl rfl (E.move (v := v0) rfl) ?_
  refine FL.val rfl rfl rfl (E.lenP te28 rfl p0) ?_
  refine FL.val rfl rfl rfl (E.move (v := v1) rfl) ?_
  refine FL.val rfl rfl rfl (E.lenP te28 rfl p1) ?_
  refine FL.val rfl rfl rfl (E.neq rfl rfl) ?_
  refine FL.nil ?_
  rcases ifB hp with ⟨c21, hp⟩ | ⟨c21, hp⟩
  ·
    refine FW.condT rfl c21 ?_
    refine FW.seq ?_
    refine FW.region ?_
    refine FL.val rfl rfl rfl (E.assign (v := Value.bool false) rfl) ?_
    refine FL.nil ?_
    refine FW.ret ?_
    obtain rfl := Option.some.inj hp
    exact ⟨.inr rfl, res1 rfl rfl ⟨rfl, S0.back⟩⟩
  ·
    refine FW.condF rfl c21 ?_
    refine FW.skip ?_
    refine FW.seq ?_
    refine FW.seq ?_
    refine FW.region ?_
    refine FL.val rfl rfl rfl (E.assign (v := Value.int .i64 0) rfl) ?_
    refine FL.nil ?_
    obtain ⟨q23, hq, hp⟩ := bndR hp
    refine FW.block ?_
    refine FW.mono (FW.forL (S := Unit) (X := Bool) (fun (i23 : Nat) (s23 : Unit) f w => ∃ H : GH, St Ha wa H w [] ∧ Inc Ha H ∧ f 5 = Value.int .i64 ((i23 : Nat) : Int) ∧ f 0 = v0 ∧ f 1 = v1) (fun q e f w => match q with | .go s23 => e = Exit.exit 0 ∧ (∃ H : GH, St Ha wa H w [] ∧ Inc Ha H) | .rt x => ((e = Exit.ret) ∧ (fun e f w => (e = Exit.normal ∨ e = Exit.ret) ∧ ∀ a, Fr (δ := []) 27 a f → ∃ v, (results Tryz.f21 a.tmps).run Tryz.prog w = .ok v w ∧ (Sc Ha wa (Value.bool x)) (.returned v) w) e f w)) hq ⟨_, S0, (Inc.rfl _), rfl, rfl, rfl⟩ ?_ ?_) ?_
    ·
      clear hp hq
      rintro i23 y22 s23 f61 w60 ⟨H57, S58, i59, k62, k63, k64⟩ hx23 o90 hp
      refine FW.seq ?_
      refine FW.seq ?_
      refine FW.region ?_
      refine FL.val rfl rfl rfl (E.move k62) ?_
      refine FL.val rfl rfl rfl (E.move k63) ?_
      refine FL.val rfl rfl rfl (E.lenP te28 rfl p0) ?_
      refine FL.val rfl rfl rfl (E.lssT rfl rfl (lss_len hx23)) ?_
      refine FL.nil ?_
      refine FW.condT rfl rfl ?_
      refine FW.skip ?_
      refine FW.seq ?_
      refine FW.block ?_
      refine FW.seq ?_
      refine FW.draw (fun w' => Run w60.heap.size H57 w60 H57 w') (by kernel_rfl) (by kernel_rfl) (run_drew S58.sl) ?_
      refine FD.val rfl rfl rfl (fun w' hw' => (E.move k63)) ?_
      refine FD.val rfl rfl rfl (fun w' hw' => (E.move k62)) ?_
      obtain ⟨p66, cs67, pt68, l69, at70, rel71⟩ := p0.at (ix_nat hx23)
      obtain ⟨v72, rfl, h73⟩ := eResStep_open rel71
      refine FD.val rfl rfl rfl (fun w' hw' => (E.indexAddr te28 rfl rfl pt68)) ?_
      refine FD.val rfl rfl rfl (fun w' hw' => (E.load rfl (run_loadA Tryz.isAgg89 Tryz.sizeOf89 ((at70.mono i59).now (S58.call hw').sl) rfl))) ?_
      refine FD.val rfl rfl rfl (fun w' hw' => (E.move k64)) ?_
      refine FD.val rfl rfl rfl (fun w' hw' => (E.move k62)) ?_
      obtain ⟨x80, hx81, hp⟩ := bnd hp
      obtain ⟨p74, cs75, pt76, l77, at78, rel79⟩ := p1.at hx81
      obtain ⟨v82, rfl, h83⟩ := eResStep_open rel79
      refine FD.val rfl rfl rfl (fun w' hw' => (E.indexAddr te28 rfl rfl pt76)) ?_
      refine FD.val rfl rfl rfl (fun w' hw' => (E.load rfl (run_loadA Tryz.isAgg89 Tryz.sizeOf89 ((at78.mono i59).now (S58.call hw').sl) rfl))) ?_
      obtain ⟨r84, hr85, hp⟩ := bnd hp
      refine FD.call rfl rfl rfl (fun w' hw' => (E.call Tryz.call76 (A2 rfl rfl))) (fun w' hw' => Calls.cls hw' (w_laws_eqResStep (S58.call hw').sl y22 v72 (h73.mono i59) x80 v82 (h83.mono i59) hr85)) ?_
      refine FD.val rfl rfl rfl (fun w' hw' => (E.not rfl)) ?_
      refine FD.nil ?_
      intro w86 r88
      have S87 := S58.call r88
      rcases ifB hp with ⟨c89, hp⟩ | ⟨c89, hp⟩
      ·
        refine FW.condT rfl c89 ?_
        refine FW.seq ?_
        refine FW.region ?_
        refine FL.val rfl rfl rfl (E.assign (v := Value.bool false) rfl) ?_
        refine FL.nil ?_
        refine FW.ret ?_
        obtain rfl := Option.some.inj hp
        exact ⟨nofun, rfl, ⟨.inr rfl, res1 rfl rfl ⟨rfl, S87.back⟩⟩⟩
      ·
        refine FW.condF rfl c89 ?_
        refine FW.skip ?_
        refine FW.region ?_
        refine FL.val rfl rfl rfl (E.move k62) ?_
        refine FL.val rfl rfl rfl (E.add rfl rfl) ?_
        refine FL.val rfl rfl rfl (E.assign (v := Value.int .i64 (wr (((i23 : Nat) : Int) + 1))) rfl) ?_
        refine FL.nil ?_
        obtain rfl := Option.some.inj hp
        exact ⟨rfl, ⟨_, S87, i59, (nat_succ rfl (lt_of_get hx23) (p0.mono i59).le), k63, k64⟩⟩
    ·
      clear hp hq
      rintro s23 f100 w99 ⟨H96, S97, i98, k101, k102, k103⟩
      refine FW.seq ?_
      refine FW.seq ?_
      refine FW.region ?_
      refine FL.val rfl rfl rfl (E.move k101) ?_
      refine FL.val rfl rfl rfl (E.move k102) ?_
      refine FL.val rfl rfl rfl (E.lenP te28 rfl p0) ?_
      refine FL.val rfl rfl rfl (E.lss rfl rfl) ?_
      refine FL.nil ?_
      refine FW.condF rfl dlt_len ?_
      refine FW.exit ?_
      exact ⟨nofun, rfl, ⟨_, S97, i98⟩⟩
    ·
      clear hq
      intro e f95 w94 hD
      rcases q23 with s23 | x23
      ·
        obtain ⟨rfl, hD⟩ := hD
        obtain ⟨H91, S92, i93⟩ := hD
        replace hp := el_go hp
        refine FW.seq ?_
        refine FW.region ?_
        refine FL.val rfl rfl rfl (E.assign (v := Value.bool true) rfl) ?_
        refine FL.nil ?_
        refine FW.ret ?_
        obtain rfl := Option.some.inj hp
        exact ⟨.inr rfl, res1 rfl rfl ⟨rfl, S92.back⟩⟩
      ·
        obtain ⟨he, hL⟩ := hD
        replace hp := el_rt hp
        obtain rfl := Option.some.inj hp
        subst he
        exact hL

theorem w_laws_eqIntSS {Ha : GH} {wa : World} (hs : Sl Ha wa) (v0 : Value) (a0 : List (List Int)) (p0 : RSl Ha (eL eI 1) 1 v0 a0) (v1 : Value) (a1 : List (List Int)) (p1 : RSl Ha (eL eI 1) 1 v1 a1) {r : Bool} (hp : (PF.laws_eqIntSS a0 a1) = some r) :
    Calls Tryz.prog 77 #[v0, v1] wa (Sc Ha wa (Value.bool r)) := by
  unfold PF.laws_eqIntSS at hp
  have S0 := St.init hs
  refine calls_go (N := 27) (args := [v0, v1]) Tryz.func77 rfl rfl rfl ?_
  refine FW.seq ?_
  refine FW.region ?_
  refine FL.val rfl rfl rfl (E.assign (v := Value.bool false) rfl) ?_
  refine FL.nil ?_
  refine FW.seq ?_
  refine FW.seq ?_
  refine FW.region ?_
  refine FL.val rfl rfl rfl (E.move (v := v0) rfl) ?_
  refine FL.val rfl rfl rfl (E.lenP te22 rfl p0) ?_
  refine FL.val rfl rfl rfl (E.move (v := v1) rfl) ?_
  refine FL.val rfl rfl rfl (E.lenP te22 rfl p1) ?_
  refine FL.val rfl rfl rfl (E.neq rfl rfl) ?_
  refine FL.nil ?_
  rcases ifB hp with ⟨c21, hp⟩ | ⟨c21, hp⟩
  ·
    refine FW.condT rfl c21 ?_
    refine FW.seq ?_
    refine FW.region ?_
    refine FL.val rfl rfl rfl (E.assign (v := Value.bool false) rfl) ?_
    refine FL.nil ?_
    refine FW.ret ?_
    obtain rfl := Option.some.inj hp
    exact ⟨.inr rfl, res1 rfl rfl ⟨rfl, S0.back⟩⟩
  ·
    refine FW.condF rfl c21 ?_
    refine FW.skip ?_
    refine FW.seq ?_
    refine FW.seq ?_
    refine FW.region ?_
    refine FL.val rfl rfl rfl (E.assign (v := Value.int .i64 0) rfl) ?_
    refine FL.nil ?_
    obtain ⟨q23, hq, hp⟩ := bndR hp
    refine FW.block ?_
    refine FW.mono (FW.forL (S := Unit) (X := Bool) (fun (i23 : Nat) (s23 : Unit) f w => ∃ H : GH, St Ha wa H w [] ∧ Inc Ha H ∧ f 5 = Value.int .i64 ((i23 : Nat) : Int) ∧ f 0 = v0 ∧ f 1 = v1) (fun q e f w => match q with | .go s23 => e = Exit.exit 0 ∧ (∃ H : GH, St Ha wa H w [] ∧ Inc Ha H) | .rt x => ((e = Exit.ret) ∧ (fun e f w => (e = Exit.normal ∨ e = Exit.ret) ∧ ∀ a, Fr (δ := []) 27 a f → ∃ v, (results Tryz.f77 a.tmps).run Tryz.prog w = .ok v w ∧ (Sc Ha wa (Value.bool x)) (.returned v) w) e f w)) hq ⟨_, S0, (Inc.rfl _), rfl, rfl, rfl⟩ ?_ ?_) ?_
    ·
      clear hp hq
      rintro i23 y22 s23 f61 w60 ⟨H57, S58, i59, k62, k63, k64⟩ hx23 o90 hp
      refine FW.seq ?_
      refine FW.seq ?_
      refine FW.region ?_
      refine FL.val rfl rfl rfl (E.move k62) ?_
      refine FL.val rfl rfl rfl (E.move k63) ?_
      refine FL.val rfl rfl rfl (E.lenP te22 rfl p0) ?_
      refine FL.val rfl rfl rfl (E.lssT rfl rfl (lss_len hx23)) ?_
      refine FL.nil ?_
      refine FW.condT rfl rfl ?_
      refine FW.skip ?_
      refine FW.seq ?_
      refine FW.block ?_
      refine FW.seq ?_
      refine FW.draw (fun w' => Run w60.heap.size H57 w60 H57 w') (by kernel_rfl) (by kernel_rfl) (run_drew S58.sl) ?_
      refine FD.val rfl rfl rfl (fun w' hw' => (E.move k63)) ?_
      refine FD.val rfl rfl rfl (fun w' hw' => (E.move k62)) ?_
      obtain ⟨p66, cs67, pt68, l69, at70, rel71⟩ := p0.at (ix_nat hx23)
      obtain ⟨v72, rfl, h73⟩ := eL_open rel71
      refine FD.val rfl rfl rfl (fun w' hw' => (E.indexAddr te22 rfl rfl pt68)) ?_
      refine FD.val rfl rfl rfl (fun w' hw' => (E.load rfl (run_load0 Tryz.isAgg39 ((at70.mono i59).now (S58.call hw').sl) rfl))) ?_
      refine FD.val rfl rfl rfl (fun w' hw' => (E.move k64)) ?_
      refine FD.val rfl rfl rfl (fun w' hw' => (E.move k62)) ?_
      obtain ⟨x80, hx81, hp⟩ := bnd hp
      obtain ⟨p74, cs75, pt76, l77, at78, rel79⟩ := p1.at hx81
      obtain ⟨v82, rfl, h83⟩ := eL_open rel79
      refine FD.val rfl rfl rfl (fun w' hw' => (E.indexAddr te22 rfl rfl pt76)) ?_
      refine FD.val rfl rfl rfl (fun w' hw' => (E.load rfl (run_load0 Tryz.isAgg39 ((at78.mono i59).now (S58.call hw').sl) rfl))) ?_
      obtain ⟨r84, hr85, hp⟩ := bnd hp
      refine FD.call rfl rfl rfl (fun w' hw' => (E.call Tryz.call29 (A2 rfl rfl))) (fun w' hw' => Calls.cls hw' (w_laws_eqIntS (S58.call hw').sl v72 y22 (h73.mono i59) v82 x80 (h83.mono i59) hr85)) ?_
      refine FD.val rfl rfl rfl (fun w' hw' => (E.not rfl)) ?_
      refine FD.nil ?_
      intro w86 r88
      have S87 := S58.call r88
      rcases ifB hp with ⟨c89, hp⟩ | ⟨c89, hp⟩
      ·
        refine FW.condT rfl c89 ?_
        refine FW.seq ?_
        refine FW.region ?_
        refine FL.val rfl rfl rfl (E.assign (v := Value.bool false) rfl) ?_
        refine FL.nil ?_
        refine FW.ret ?_
        obtain rfl := Option.some.inj hp
        exact ⟨nofun, rfl, ⟨.inr rfl, res1 rfl rfl ⟨rfl, S87.back⟩⟩⟩
      ·
        refine FW.condF rfl c89 ?_
        refine FW.skip ?_
        refine FW.region ?_
        refine FL.val rfl rfl rfl (E.move k62) ?_
        refine FL.val rfl rfl rfl (E.add rfl rfl) ?_
        refine FL.val rfl rfl rfl (E.assign (v := Value.int .i64 (wr (((i23 : Nat) : Int) + 1))) rfl) ?_
        refine FL.nil ?_
        obtain rfl := Option.some.inj hp
        exact ⟨rfl, ⟨_, S87, i59, (nat_succ rfl (lt_of_get hx23) (p0.mono i59).le), k63, k64⟩⟩
    ·
      clear hp hq
      rintro s23 f100 w99 ⟨H96, S97, i98, k101, k102, k103⟩
      refine FW.seq ?_
      refine FW.seq ?_
      refine FW.region ?_
      refine FL.val rfl rfl rfl (E.move k101) ?_
      refine FL.val rfl rfl rfl (E.move k102) ?_
      refine FL.val rfl rfl rfl (E.lenP te22 rfl p0) ?_
      refine FL.val rfl rfl rfl (E.lss rfl rfl) ?_
      refine FL.nil ?_
      refine FW.condF rfl dlt_len ?_
      refine FW.exit ?_
      exact ⟨nofun, rfl, ⟨_, S97, i98⟩⟩
    ·
      clear hq
      intro e f95 w94 hD
      rcases q23 with s23 | x23
      ·
        obtain ⟨rfl, hD⟩ := hD
        obtain ⟨H91, S92, i93⟩ := hD
        replace hp := el_go hp
        refine FW.seq ?_
        refine FW.region ?_
        refine FL.val rfl rfl rfl (E.assign (v := Value.bool true) rfl) ?_
        refine FL.nil ?_
        refine FW.ret ?_
        obtain rfl := Option.some.inj hp
        exact ⟨.inr rfl, res1 rfl rfl ⟨rfl, S92.back⟩⟩
      ·
        obtain ⟨he, hL⟩ := hD
        replace hp := el_rt hp
        obtain rfl := Option.some.inj hp
        subst he
        exact hL

theorem w_laws_eqCnf {Ha : GH} {wa : World} (hs : Sl Ha wa) (a0 : Cnf) (v0_1 : Value) (p0_1 : RSl Ha (eL eI 1) 1 v0_1 a0.clauses) (a1 : Cnf) (v1_1 : Value) (p1_1 : RSl Ha (eL eI 1) 1 v1_1 a1.clauses) {r : Bool} (hp : (PF.laws_eqCnf a0 a1) = some r) :
    Calls Tryz.prog 22 #[Value.agg #[Value.int .i64 a0.vars, v0_1], Value.agg #[Value.int .i64 a1.vars, v1_1]] wa (Sc Ha wa (Value.bool r)) := by
  unfold PF.laws_eqCnf at hp
  have S0 := St.init hs
  refine calls_go (N := 16) (args := [Value.agg #[Value.int .i64 a0.vars, v0_1], Value.agg #[Value.int .i64 a1.vars, v1_1]]) Tryz.func22 rfl rfl rfl ?_
  refine FW.seq ?_
  refine FW.region ?_
  obtain ⟨b21, w22, run23, S24⟩ := S0.box (P := Tryz.prog) 31 [Value.int .i64 a0.vars, v0_1] (v := Value.agg #[Value.int .i64 a0.vars, v0_1]) rfl (ones_cons rfl (ones_cons p0_1.one ones_nil))
  refine FL.val rfl rfl rfl (E.box rfl run23) ?_
  obtain ⟨H25, S26, i27, at28⟩ := S24.sealBox (i := 0) (l' := []) rfl rfl
  obtain ⟨b29, w30, run31, S32⟩ := S26.box (P := Tryz.prog) 31 [Value.int .i64 a1.vars, v1_1] (v := Value.agg #[Value.int .i64 a1.vars, v1_1]) rfl (ones_cons rfl (ones_cons p1_1.one ones_nil))
  refine FL.val rfl rfl rfl (E.box rfl run31) ?_
  obtain ⟨H33, S34, i35, at36⟩ := S32.sealBox (i := 0) (l' := []) rfl rfl
  refine FL.val rfl rfl rfl (E.assign (v := Value.bool false) rfl) ?_
  refine FL.nil ?_
  refine FW.seq ?_
  refine FW.seq ?_
  refine FW.region ?_
  refine FL.val rfl rfl rfl (E.fieldAddr tf31_0 rfl) ?_
  refine FL.val rfl rfl rfl (E.load rfl (run_load1 Tryz.isAgg3 ((at28.mono i35).now S34.sl) rfl)) ?_
  refine FL.val rfl rfl rfl (E.fieldAddr tf31_0 rfl) ?_
  refine FL.val rfl rfl rfl (E.load rfl (run_load1 Tryz.isAgg3 (at36.now S34.sl) rfl)) ?_
  refine FL.val rfl rfl rfl (E.neq rfl rfl) ?_
  refine FL.nil ?_
  rcases ifB hp with ⟨c37, hp⟩ | ⟨c37, hp⟩
  ·
    refine FW.condT rfl c37 ?_
    refine FW.seq ?_
    refine FW.region ?_
    refine FL.val rfl rfl rfl (E.assign (v := Value.bool false) rfl) ?_
    refine FL.nil ?_
    refine FW.ret ?_
    obtain rfl := Option.some.inj hp
    exact ⟨.inr rfl, res1 rfl rfl ⟨rfl, S34.back⟩⟩
  ·
    refine FW.condF rfl c37 ?_
    refine FW.skip ?_
    refine FW.seq ?_
    refine FW.seq ?_
    refine FW.region ?_
    refine FL.val rfl rfl rfl (E.fieldAddr tf31_1 rfl) ?_
    refine FL.val rfl rfl rfl (E.load rfl (run_load1 Tryz.isAgg22 ((at28.mono i35).now S34.sl) rfl)) ?_
    refine FL.val rfl rfl rfl (E.fieldAddr tf31_1 rfl) ?_
    refine FL.val rfl rfl rfl (E.load rfl (run_load1 Tryz.isAgg22 (at36.now S34.sl) rfl)) ?_
    obtain ⟨r38, hr39, hp⟩ := bnd hp
    refine FL.call rfl rfl rfl (E.call Tryz.call77 (A2 rfl rfl)) (w_laws_eqIntSS S34.sl v0_1 a0.clauses (p0_1.mono (i27.tr i35)) v1_1 a1.clauses (p1_1.mono (i27.tr i35)) hr39) ?_
    rintro e w40 ⟨rfl, r41⟩
    refine ⟨_, rfl, ?_⟩
    have S42 := S34.call r41
    refine FL.val rfl rfl rfl (E.not rfl) ?_
    refine FL.nil ?_
    rcases ifB hp with ⟨c43, hp⟩ | ⟨c43, hp⟩
    ·
      refine FW.condT rfl c43 ?_
      refine FW.seq ?_
      refine FW.region ?_
      refine FL.val rfl rfl rfl (E.assign (v := Value.bool false) rfl) ?_
      refine FL.nil ?_
      refine FW.ret ?_
      obtain rfl := Option.some.inj hp
      exact ⟨.inr rfl, res1 rfl rfl ⟨rfl, S42.back⟩⟩
    ·
      refine FW.condF rfl c43 ?_
      refine FW.skip ?_
      refine FW.seq ?_
      refine FW.region ?_
      refine FL.val rfl rfl rfl (E.assign (v := Value.bool true) rfl) ?_
      refine FL.nil ?_
      refine FW.ret ?_
      obtain rfl := Option.some.inj hp
      exact ⟨.inr rfl, res1 rfl rfl ⟨rfl, S42.back⟩⟩

theorem w_laws_markIntS {H0 Ha : GH} {w0 wa : World} {l : List MO} (S0 : St H0 w0 Ha wa l) (hs0 : Sl H0 w0) (v0 : Value) (a0 : List Int) (p0 : RSl (up w0.heap.size Ha) eI 1 v0 a0) (a1 : Int) :
    Calls Tryz.prog 30 #[v0, Value.int .i64 a1] wa (M1 H0 w0 Ha l eI 1 v0 (PF.laws_markIntS a0 a1)) := by
  obtain ⟨c0, n0, hc0⟩ := p0.nest eI_flat (by decide)
  have hln := p0.ln
  have hle := p0.le
  refine calls_go (N := 19) (args := [v0, Value.int .i64 a1]) Tryz.func30 rfl rfl rfl ?_
  refine FW.seq ?_
  refine FW.region ?_
  refine FL.val rfl rfl rfl (E.assign (v := Value.int .i64 0) rfl) ?_
  refine FL.nil ?_
  refine FW.seq ?_
  refine FW.seq ?_
  refine FW.region ?_
  refine FL.val rfl rfl rfl (E.assign (v := Value.int .i64 0) rfl) ?_
  refine FL.nil ?_
  refine FW.block ?_
  refine FW.mono (FW.mark (F := fun y m => (m, (wr (m + 1)))) (a0 := a0) (k0 := a1) (fun (i : Nat) (xs : List Int) (k : Int) f w => ∃ (H : GH) (c : List Value), St H0 w0 H w l ∧ Nest (up w0.heap.size H) eI 1 v0 xs c ∧ bl c = bl c0 ∧ (∀ b, b ∉ bl [v0] → b ∉ bl c0 → H b = Ha b) ∧ f 0 = v0 ∧ f 1 = Value.int .i64 k ∧ f 5 = Value.int .i64 ((i : Nat) : Int)) (fun e f w => e = Exit.exit 0 ∧ ∃ (H : GH) (c : List Value), St H0 w0 H w l ∧ Nest (up w0.heap.size H) eI 1 v0 (markFrom (fun y m => (m, (wr (m + 1)))) a0 a1).1 c ∧ bl c = bl c0 ∧ (∀ b, b ∉ bl [v0] → b ∉ bl c0 → H b = Ha b) ∧ f 0 = v0 ∧ f 1 = Value.int .i64 (markFrom (fun y m => (m, (wr (m + 1)))) a0 a1).2) ⟨_, _, S0, n0, rfl, fun _ _ _ => rfl, rfl, rfl, rfl⟩ ?_ ?_) ?_
  ·
    rintro i y xs m f1 w1 ⟨H1, c1, S1, n1, hb, ho, kv, kk, kc⟩ hx hy
    obtain ⟨p, hpt, wr0, hB, hr, nd⟩ := n1.begin hy (by decide)
    have hci := eI_open hr
    have rd := wr0.opens hci
    refine FW.seq ?_
    refine FW.seq ?_
    refine FW.region ?_
    refine FL.val rfl rfl rfl (E.move kc) ?_
    refine FL.val rfl rfl rfl (E.move kv) ?_
    refine FL.val rfl rfl rfl (E.len te39 rfl hln) ?_
    refine FL.val rfl rfl rfl (E.lssT rfl rfl (lss_len hx)) ?_
    refine FL.nil ?_
    refine FW.condT rfl rfl ?_
    refine FW.skip ?_
    refine FW.seq ?_
    refine FW.block ?_
    refine FW.seq ?_
    refine FW.region ?_
    refine FL.val rfl rfl rfl (E.move kv) ?_
    refine FL.val rfl rfl rfl (E.move kc) ?_
    refine FL.val rfl rfl rfl (E.move kk) ?_
    refine FL.val rfl rfl rfl (E.indexAddr te39 rfl rfl hpt) ?_
    obtain ⟨w21, H22, run24, S23, wr25, o26⟩ := rd.poke0 (P := Tryz.prog) (t := 3) (u := Value.int .i64 m) S1 hs0 hB rfl rfl rfl Tryz.sizeOf3 rfl rfl (c2 := [Value.int .i64 m]) rfl
    refine FL.act rfl rfl (E.store rfl rfl run24) ?_
    refine FL.nil ?_
    refine FW.region ?_
    refine FL.val rfl rfl rfl (E.move kk) ?_
    refine FL.val rfl rfl rfl (E.add rfl rfl) ?_
    refine FL.val rfl rfl rfl (E.assign (v := Value.int .i64 (wr (m + 1))) rfl) ?_
    refine FL.nil ?_
    refine FW.region ?_
    refine FL.val rfl rfl rfl (E.move kc) ?_
    refine FL.val rfl rfl rfl (E.add rfl rfl) ?_
    refine FL.val rfl rfl rfl (E.assign (v := Value.int .i64 (wr (((i : Nat) : Int) + 1))) rfl) ?_
    refine FL.nil ?_
    obtain ⟨c2, n2, hb2, ho2⟩ := n1.round eI_flat.loc hy (by decide) hpt wr25 (y' := m) rfl
    exact ⟨rfl, _, _, S23, n2, hb2.trans hb, fun b q1 q2 => (ho2 b q1 (by rw [hb]; exact q2)).trans (ho b q1 q2), kv, rfl, nat_succ rfl (lt_of_get hx) hle⟩
  ·
    rintro f1 w1 ⟨H1, c1, S1, n1, hb, ho, kv, kk, kc⟩
    refine FW.seq ?_
    refine FW.seq ?_
    refine FW.region ?_
    refine FL.val rfl rfl rfl (E.move kc) ?_
    refine FL.val rfl rfl rfl (E.move kv) ?_
    refine FL.val rfl rfl rfl (E.len te39 rfl hln) ?_
    refine FL.val rfl rfl rfl (E.lss rfl rfl) ?_
    refine FL.nil ?_
    refine FW.condF rfl dlt_len ?_
    refine FW.exit ?_
    exact ⟨nofun, rfl, _, _, S1, n1, hb, ho, kv, kk⟩
  ·
    rintro e f2 w2 ⟨rfl, H2, c2, S2, n2, hb, ho, kv, kk⟩
    refine FW.seq ?_
    refine FW.region ?_
    refine FL.val rfl rfl rfl (E.move kk) ?_
    refine FL.val rfl rfl rfl (E.assign (v := Value.int .i64 ((markFrom (fun y m => (m, (wr (m + 1)))) a0 a1).2)) rfl) ?_
    refine FL.nil ?_
    refine FW.ret ?_
    exact ⟨.inr rfl, res1 rfl rfl ⟨_, rfl, S2, n2.rsl, fun b q => ho b q (by rw [hc0]; simp)⟩⟩

theorem w_laws_markIntSS {H0 Ha : GH} {w0 wa : World} {l : List MO} (S0 : St H0 w0 Ha wa l) (hs0 : Sl H0 w0) (v0 : Value) (a0 : List (List Int)) (c0 : List Value) (n0 : Nest (up w0.heap.size Ha) (eL eI 1) 1 v0 a0 c0) (a1 : Int) :
    Calls Tryz.prog 78 #[v0, Value.int .i64 a1] wa (M2 H0 w0 Ha l (eL eI 1) 1 v0 c0 (PF.laws_markIntSS a0 a1)) := by
  have hln := n0.rsl.ln
  have hle := n0.rsl.le
  refine calls_go (N := 19) (args := [v0, Value.int .i64 a1]) Tryz.func78 rfl rfl rfl ?_
  refine FW.seq ?_
  refine FW.region ?_
  refine FL.val rfl rfl rfl (E.assign (v := Value.int .i64 0) rfl) ?_
  refine FL.nil ?_
  refine FW.seq ?_
  refine FW.seq ?_
  refine FW.region ?_
  refine FL.val rfl rfl rfl (E.assign (v := Value.int .i64 0) rfl) ?_
  refine FL.nil ?_
  refine FW.block ?_
  refine FW.mono (FW.mark (F := fun y m => ((PF.laws_markIntS y m).1, (PF.laws_markIntS y m).2)) (a0 := a0) (k0 := a1) (fun (i : Nat) (xs : List (List Int)) (k : Int) f w => ∃ (H : GH) (c : List Value), St H0 w0 H w l ∧ Nest (up w0.heap.size H) (eL eI 1) 1 v0 xs c ∧ bl c = bl c0 ∧ (∀ b, b ∉ bl [v0] → b ∉ bl c0 → H b = Ha b) ∧ f 0 = v0 ∧ f 1 = Value.int .i64 k ∧ f 5 = Value.int .i64 ((i : Nat) : Int)) (fun e f w => e = Exit.exit 0 ∧ ∃ (H : GH) (c : List Value), St H0 w0 H w l ∧ Nest (up w0.heap.size H) (eL eI 1) 1 v0 (markFrom (fun y m => ((PF.laws_markIntS y m).1, (PF.laws_markIntS y m).2)) a0 a1).1 c ∧ bl c = bl c0 ∧ (∀ b, b ∉ bl [v0] → b ∉ bl c0 → H b = Ha b) ∧ f 0 = v0 ∧ f 1 = Value.int .i64 (markFrom (fun y m => ((PF.laws_markIntS y m).1, (PF.laws_markIntS y m).2)) a0 a1).2) ⟨_, _, S0, n0, rfl, fun _ _ _ => rfl, rfl, rfl, rfl⟩ ?_ ?_) ?_
  ·
    rintro i y xs m f1 w1 ⟨H1, c1, S1, n1, hb, ho, kv, kk, kc⟩ hx hy
    obtain ⟨p, hpt, wr0, hB, hr, nd⟩ := n1.begin hy (by decide)
    obtain ⟨u0, hci, hu0⟩ := eL_open hr
    have rd := wr0.opens hci
    refine FW.seq ?_
    refine FW.seq ?_
    refine FW.region ?_
    refine FL.val rfl rfl rfl (E.move kc) ?_
    refine FL.val rfl rfl rfl (E.move kv) ?_
    refine FL.val rfl rfl rfl (E.len te22 rfl hln) ?_
    refine FL.val rfl rfl rfl (E.lssT rfl rfl (lss_len hx)) ?_
    refine FL.nil ?_
    refine FW.condT rfl rfl ?_
    refine FW.skip ?_
    refine FW.seq ?_
    refine FW.block ?_
    refine FW.region ?_
    refine FL.val rfl rfl rfl (E.move kv) ?_
    refine FL.val rfl rfl rfl (E.move kc) ?_
    refine FL.val rfl rfl rfl (E.indexAddr te22 rfl rfl hpt) ?_
    refine FL.val rfl rfl rfl (E.load rfl (run_load0 Tryz.isAgg39 (rd.now S1.sl) rfl)) ?_
    refine FL.val rfl rfl rfl (E.move kk) ?_
    refine FL.call rfl rfl rfl (E.call Tryz.call30 (A2 rfl rfl)) (w_laws_markIntS S1 hs0 u0 y hu0 m) ?_
    rintro e w22 ⟨H21, rfl, S23, h24, o25⟩
    refine ⟨_, rfl, ?_⟩
    have wr26 := rd.inner (j := 0) rfl o25
    refine FL.val rfl rfl rfl (E.assign (v := Value.int .i64 ((PF.laws_markIntS y m).2)) rfl) ?_
    refine FL.nil ?_
    refine FW.region ?_
    refine FL.val rfl rfl rfl (E.move kc) ?_
    refine FL.val rfl rfl rfl (E.add rfl rfl) ?_
    refine FL.val rfl rfl rfl (E.assign (v := Value.int .i64 (wr (((i : Nat) : Int) + 1))) rfl) ?_
    refine FL.nil ?_
    obtain ⟨c2, n2, hb2, ho2⟩ := n1.round (eL_loc eI_flat) hy (by decide) hpt wr26 (y' := (PF.laws_markIntS y m).1) ⟨_, rfl, h24⟩
    exact ⟨rfl, _, _, S23, n2, hb2.trans hb, fun b q1 q2 => (ho2 b q1 (by rw [hb]; exact q2)).trans (ho b q1 q2), kv, rfl, nat_succ rfl (lt_of_get hx) hle⟩
  ·
    rintro f1 w1 ⟨H1, c1, S1, n1, hb, ho, kv, kk, kc⟩
    refine FW.seq ?_
    refine FW.seq ?_
    refine FW.region ?_
    refine FL.val rfl rfl rfl (E.move kc) ?_
    refine FL.val rfl rfl rfl (E.move kv) ?_
    refine FL.val rfl rfl rfl (E.len te22 rfl hln) ?_
    refine FL.val rfl rfl rfl (E.lss rfl rfl) ?_
    refine FL.nil ?_
    refine FW.condF rfl dlt_len ?_
    refine FW.exit ?_
    exact ⟨nofun, rfl, _, _, S1, n1, hb, ho, kv, kk⟩
  ·
    rintro e f2 w2 ⟨rfl, H2, c2, S2, n2, hb, ho, kv, kk⟩
    refine FW.seq ?_
    refine FW.region ?_
    refine FL.val rfl rfl rfl (E.move kk) ?_
    refine FL.val rfl rfl rfl (E.assign (v := Value.int .i64 ((markFrom (fun y m => ((PF.laws_markIntS y m).1, (PF.laws_markIntS y m).2)) a0 a1).2)) rfl) ?_
    refine FL.nil ?_
    refine FW.ret ?_
    exact ⟨.inr rfl, res1 rfl rfl ⟨_, _, rfl, S2, n2, hb, fun b q1 q2 => weak (F := fun b => b ∉ bl [v0] ∧ b ∉ bl c0) (fun b q => ho b q.1 q.2) b ⟨q1, q2⟩⟩⟩

@[reducible] def p_laws_markCnf (H0 : GH) (w0 : World) (Ha : GH) (l : List MO) (v0 : Value) (c0 : List Value) (r : Cnf × Int) : Ending → World → Prop := fun e w' =>
  ∃ (H' : GH) (c' : List Value), e = .returned (.int .i64 r.2) ∧ St H0 w0 H' w' l ∧ Nest (up w0.heap.size H') (eL eI 1) 1 v0 r.1.clauses c' ∧ bl c' = bl c0 ∧ ∀ b, b ∉ bl [v0] → b ∉ bl c0 → ∀ o, Ha b = some o → H' b = some o
theorem w_laws_markCnf {H0 Ha : GH} {w0 wa : World} {l : List MO} (S0 : St H0 w0 Ha wa l) (hs0 : Sl H0 w0) (a0 : Cnf) (v0 : Value) (c0 : List Value) (n0 : Nest (up w0.heap.size Ha) (eL eI 1) 1 v0 a0.clauses c0) (a1 : Int) :
    Calls Tryz.prog 23 #[.agg #[Value.int .i64 a0.vars, v0], Value.int .i64 a1] wa (p_laws_markCnf H0 w0 Ha l v0 c0 (PF.laws_markCnf a0 a1)) := by
  refine calls_go (N := 10) (args := [.agg #[Value.int .i64 a0.vars, v0], Value.int .i64 a1]) Tryz.func23 rfl rfl rfl ?_
  refine FW.seq ?_
  refine FW.region ?_
  obtain ⟨b21, w22, run23, S24⟩ := S0.box (P := Tryz.prog) 31 [Value.int .i64 a0.vars, v0] (v := Value.agg #[Value.int .i64 a0.vars, v0]) rfl (ones_cons rfl (ones_cons n0.rsl.one ones_nil))
  refine FL.val rfl rfl rfl (E.box rfl run23) ?_
  obtain ⟨H25, S26, i27, at28⟩ := S24.sealBox (i := 0) (l' := l) rfl rfl
  refine FL.val rfl rfl rfl (E.assign (v := Value.int .i64 0) rfl) ?_
  refine FL.nil ?_
  refine FW.seq ?_
  refine FW.region ?_
  refine FL.val rfl rfl rfl (E.fieldAddr tf31_1 rfl) ?_
  refine FL.val rfl rfl rfl (E.load rfl (run_load1 Tryz.isAgg22 (at28.now S26.sl) rfl)) ?_
  refine FL.val rfl rfl rfl (E.move (v := Value.int .i64 a1) rfl) ?_
  refine FL.call rfl rfl rfl (E.call Tryz.call78 (A2 rfl rfl)) (w_laws_markIntSS S26 hs0 v0 a0.clauses c0 (n0.mono (up_mono i27)) a1) ?_
  rintro e w30 ⟨H29, c34, rfl, S31, h32, hb35, o33⟩
  refine ⟨_, rfl, ?_⟩
  refine FL.val rfl rfl rfl (E.assign (v := Value.int .i64 ((PF.laws_markIntSS a0.clauses a1).2)) rfl) ?_
  refine FL.nil ?_
  refine FW.seq ?_
  refine FW.region ?_
  refine FL.val rfl rfl rfl (E.move (v := Value.int .i64 ((PF.laws_markIntSS a0.clauses a1).2)) rfl) ?_
  refine FL.val rfl rfl rfl (E.assign (v := Value.int .i64 ((PF.laws_markIntSS a0.clauses a1).2)) rfl) ?_
  refine FL.nil ?_
  refine FW.ret ?_
  exact ⟨.inr rfl, res1 rfl rfl ⟨_, _, rfl, S31, h32, hb35, fun b q1 q2 o ho => o33 b q1 q2 o (i27 b o ho)⟩⟩

theorem w_laws_markResStepS {H0 Ha : GH} {w0 wa : World} {l : List MO} (S0 : St H0 w0 Ha wa l) (hs0 : Sl H0 w0) (v0 : Value) (a0 : List ResStep) (c0 : List Value) (n0 : Nest (up w0.heap.size Ha) eResStep 4 v0 a0 c0) (a1 : Int) :
    Calls Tryz.prog 24 #[v0, Value.int .i64 a1] wa (M2 H0 w0 Ha l eResStep 4 v0 c0 (PF.laws_markResStepS a0 a1)) := by
  have hln := n0.rsl.ln
  have hle := n0.rsl.le
  refine calls_go (N := 41) (args := [v0, Value.int .i64 a1]) Tryz.func24 rfl rfl rfl ?_
  refine FW.seq ?_
  refine FW.region ?_
  refine FL.val rfl rfl rfl (E.assign (v := Value.int .i64 0) rfl) ?_
  refine FL.nil ?_
  refine FW.seq ?_
  refine FW.seq ?_
  refine FW.region ?_
  refine FL.val rfl rfl rfl (E.assign (v := Value.int .i64 0) rfl) ?_
  refine FL.nil ?_
  refine FW.block ?_
  refine FW.mono (FW.mark (F := fun y m => ((ResStep.mk ((PF.laws_markIntS y.clause m).1) ((PF.laws_markIntS y.clause m).2) (wr ((PF.laws_markIntS y.clause m).2 + 1)) (wr ((wr ((PF.laws_markIntS y.clause m).2 + 1)) + 1))), (wr ((wr ((wr ((PF.laws_markIntS y.clause m).2 + 1)) + 1)) + 1)))) (a0 := a0) (k0 := a1) (fun (i : Nat) (xs : List ResStep) (k : Int) f w => ∃ (H : GH) (c : List Value), St H0 w0 H w l ∧ Nest (up w0.heap.size H) eResStep 4 v0 xs c ∧ bl c = bl c0 ∧ (∀ b, b ∉ bl [v0] → b ∉ bl c0 → H b = Ha b) ∧ f 0 = v0 ∧ f 1 = Value.int .i64 k ∧ f 5 = Value.int .i64 ((i : Nat) : Int)) (fun e f w => e = Exit.exit 0 ∧ ∃ (H : GH) (c : List Value), St H0 w0 H w l ∧ Nest (up w0.heap.size H) eResStep 4 v0 (markFrom (fun y m => ((ResStep.mk ((PF.laws_markIntS y.clause m).1) ((PF.laws_markIntS y.clause m).2) (wr ((PF.laws_markIntS y.clause m).2 + 1)) (wr ((wr ((PF.laws_markIntS y.clause m).2 + 1)) + 1))), (wr ((wr ((wr ((PF.laws_markIntS y.clause m).2 + 1)) + 1)) + 1)))) a0 a1).1 c ∧ bl c = bl c0 ∧ (∀ b, b ∉ bl [v0] → b ∉ bl c0 → H b = Ha b) ∧ f 0 = v0 ∧ f 1 = Value.int .i64 (markFrom (fun y m => ((ResStep.mk ((PF.laws_markIntS y.clause m).1) ((PF.laws_markIntS y.clause m).2) (wr ((PF.laws_markIntS y.clause m).2 + 1)) (wr ((wr ((PF.laws_markIntS y.clause m).2 + 1)) + 1))), (wr ((wr ((wr ((PF.laws_markIntS y.clause m).2 + 1)) + 1)) + 1)))) a0 a1).2) ⟨_, _, S0, n0, rfl, fun _ _ _ => rfl, rfl, rfl, rfl⟩ ?_ ?_) ?_
  ·
    rintro i y xs m f1 w1 ⟨H1, c1, S1, n1, hb, ho, kv, kk, kc⟩ hx hy
    obtain ⟨p, hpt, wr0, hB, hr, nd⟩ := n1.begin hy (by decide)
    obtain ⟨u0, hci, hu0⟩ := eResStep_open hr
    have rd := wr0.opens hci
    refine FW.seq ?_
    refine FW.seq ?_
    refine FW.region ?_
    refine FL.val rfl rfl rfl (E.move kc) ?_
    refine FL.val rfl rfl rfl (E.move kv) ?_
    refine FL.val rfl rfl rfl (E.len te28 rfl hln) ?_
    refine FL.val rfl rfl rfl (E.lssT rfl rfl (lss_len hx)) ?_
    refine FL.nil ?_
    refine FW.condT rfl rfl ?_
    refine FW.skip ?_
    refine FW.seq ?_
    refine FW.block ?_
    refine FW.seq ?_
    refine FW.region ?_
    refine FL.val rfl rfl rfl (E.move kv) ?_
    refine FL.val rfl rfl rfl (E.move kc) ?_
    refine FL.val rfl rfl rfl (E.indexAddr te28 rfl rfl hpt) ?_
    refine FL.val rfl rfl rfl (E.fieldAddr tf89_0 rfl) ?_
    refine FL.val rfl rfl rfl (E.load rfl (run_load1 Tryz.isAgg39 (rd.now S1.sl) rfl)) ?_
    refine FL.val rfl rfl rfl (E.move kk) ?_
    refine FL.call rfl rfl rfl (E.call Tryz.call30 (A2 rfl rfl)) (w_laws_markIntS S1 hs0 u0 y.clause hu0 m) ?_
    rintro e w22 ⟨H21, rfl, S23, h24, o25⟩
    refine ⟨_, rfl, ?_⟩
    have wr26 := rd.inner (j := 0) rfl o25
    refine FL.val rfl rfl rfl (E.assign (v := Value.int .i64 ((PF.laws_markIntS y.clause m).2)) rfl) ?_
    refine FL.nil ?_
    refine FW.seq ?_
    refine FW.region ?_
    refine FL.val rfl rfl rfl (E.move kv) ?_
    refine FL.val rfl rfl rfl (E.move kc) ?_
    refine FL.val rfl rfl rfl (E.move (v := Value.int .i64 ((PF.laws_markIntS y.clause m).2)) rfl) ?_
    refine FL.val rfl rfl rfl (E.indexAddr te28 rfl rfl hpt) ?_
    refine FL.val rfl rfl rfl (E.fieldAddr tf89_1 rfl) ?_
    obtain ⟨w27, H28, run30, S29, wr31, o32⟩ := wr26.poke (P := Tryz.prog) (t := 3) (u := Value.int .i64 ((PF.laws_markIntS y.clause m).2)) S23 hs0 hB (j := 1) rfl rfl rfl Tryz.sizeOf3 rfl rfl (c2 := [u0, Value.int .i64 ((PF.laws_markIntS y.clause m).2), Value.int .i64 y.right, Value.int .i64 y.pivot]) rfl
    have h33 := wr26.kept (j := 0) rfl h24 eI_flat o32
    refine FL.act rfl rfl (E.store rfl rfl run30) ?_
    refine FL.nil ?_
    refine FW.seq ?_
    refine FW.region ?_
    refine FL.val rfl rfl rfl (E.move (v := Value.int .i64 ((PF.laws_markIntS y.clause m).2)) rfl) ?_
    refine FL.val rfl rfl rfl (E.add rfl rfl) ?_
    refine FL.val rfl rfl rfl (E.assign (v := Value.int .i64 (wr ((PF.laws_markIntS y.clause m).2 + 1))) rfl) ?_
    refine FL.nil ?_
    refine FW.seq ?_
    refine FW.region ?_
    refine FL.val rfl rfl rfl (E.move kv) ?_
    refine FL.val rfl rfl rfl (E.move kc) ?_
    refine FL.val rfl rfl rfl (E.move (v := Value.int .i64 (wr ((PF.laws_markIntS y.clause m).2 + 1))) rfl) ?_
    refine FL.val rfl rfl rfl (E.indexAddr te28 rfl rfl hpt) ?_
    refine FL.val rfl rfl rfl (E.fieldAddr tf89_2 rfl) ?_
    obtain ⟨w34, H35, run37, S36, wr38, o39⟩ := wr31.poke (P := Tryz.prog) (t := 3) (u := Value.int .i64 (wr ((PF.laws_markIntS y.clause m).2 + 1))) S29 hs0 hB (j := 2) rfl rfl rfl Tryz.sizeOf3 rfl rfl (c2 := [u0, Value.int .i64 ((PF.laws_markIntS y.clause m).2), Value.int .i64 (wr ((PF.laws_markIntS y.clause m).2 + 1)), Value.int .i64 y.pivot]) rfl
    have h40 := wr31.kept (j := 0) rfl h33 eI_flat o39
    refine FL.act rfl rfl (E.store rfl rfl run37) ?_
    refine FL.nil ?_
    refine FW.seq ?_
    refine FW.region ?_
    refine FL.val rfl rfl rfl (E.move (v := Value.int .i64 (wr ((PF.laws_markIntS y.clause m).2 + 1))) rfl) ?_
    refine FL.val rfl rfl rfl (E.add rfl rfl) ?_
    refine FL.val rfl rfl rfl (E.assign (v := Value.int .i64 (wr ((wr ((PF.laws_markIntS y.clause m).2 + 1)) + 1))) rfl) ?_
    refine FL.nil ?_
    refine FW.seq ?_
    refine FW.region ?_
    refine FL.val rfl rfl rfl (E.move kv) ?_
    refine FL.val rfl rfl rfl (E.move kc) ?_
    refine FL.val rfl rfl rfl (E.move (v := Value.int .i64 (wr ((wr ((PF.laws_markIntS y.clause m).2 + 1)) + 1))) rfl) ?_
    refine FL.val rfl rfl rfl (E.indexAddr te28 rfl rfl hpt) ?_
    refine FL.val rfl rfl rfl (E.fieldAddr tf89_3 rfl) ?_
    obtain ⟨w41, H42, run44, S43, wr45, o46⟩ := wr38.poke (P := Tryz.prog) (t := 3) (u := Value.int .i64 (wr ((wr ((PF.laws_markIntS y.clause m).2 + 1)) + 1))) S36 hs0 hB (j := 3) rfl rfl rfl Tryz.sizeOf3 rfl rfl (c2 := [u0, Value.int .i64 ((PF.laws_markIntS y.clause m).2), Value.int .i64 (wr ((PF.laws_markIntS y.clause m).2 + 1)), Value.int .i64 (wr ((wr ((PF.laws_markIntS y.clause m).2 + 1)) + 1))]) rfl
    have h47 := wr38.kept (j := 0) rfl h40 eI_flat o46
    refine FL.act rfl rfl (E.store rfl rfl run44) ?_
    refine FL.nil ?_
    refine FW.region ?_
    refine FL.val rfl rfl rfl (E.move (v := Value.int .i64 (wr ((wr ((PF.laws_markIntS y.clause m).2 + 1)) + 1))) rfl) ?_
    refine FL.val rfl rfl rfl (E.add rfl rfl) ?_
    refine FL.val rfl rfl rfl (E.assign (v := Value.int .i64 (wr ((wr ((wr ((PF.laws_markIntS y.clause m).2 + 1)) + 1)) + 1))) rfl) ?_
    refine FL.nil ?_
    refine FW.region ?_
    refine FL.val rfl rfl rfl (E.move kc) ?_
    refine FL.val rfl rfl rfl (E.add rfl rfl) ?_
    refine FL.val rfl rfl rfl (E.assign (v := Value.int .i64 (wr (((i : Nat) : Int) + 1))) rfl) ?_
    refine FL.nil ?_
    obtain ⟨c2, n2, hb2, ho2⟩ := n1.round eResStep_loc hy (by decide) hpt wr45 (y' := (ResStep.mk ((PF.laws_markIntS y.clause m).1) ((PF.laws_markIntS y.clause m).2) (wr ((PF.laws_markIntS y.clause m).2 + 1)) (wr ((wr ((PF.laws_markIntS y.clause m).2 + 1)) + 1)))) ⟨_, rfl, h47⟩
    exact ⟨rfl, _, _, S43, n2, hb2.trans hb, fun b q1 q2 => (ho2 b q1 (by rw [hb]; exact q2)).trans (ho b q1 q2), kv, rfl, nat_succ rfl (lt_of_get hx) hle⟩
  ·
    rintro f1 w1 ⟨H1, c1, S1, n1, hb, ho, kv, kk, kc⟩
    refine FW.seq ?_
    refine FW.seq ?_
    refine FW.region ?_
    refine FL.val rfl rfl rfl (E.move kc) ?_
    refine FL.val rfl rfl rfl (E.move kv) ?_
    refine FL.val rfl rfl rfl (E.len te28 rfl hln) ?_
    refine FL.val rfl rfl rfl (E.lss rfl rfl) ?_
    refine FL.nil ?_
    refine FW.condF rfl dlt_len ?_
    refine FW.exit ?_
    exact ⟨nofun, rfl, _, _, S1, n1, hb, ho, kv, kk⟩
  ·
    rintro e f2 w2 ⟨rfl, H2, c2, S2, n2, hb, ho, kv, kk⟩
    refine FW.seq ?_
    refine FW.region ?_
    refine FL.val rfl rfl rfl (E.move kk) ?_
    refine FL.val rfl rfl rfl (E.assign (v := Value.int .i64 ((markFrom (fun y m => ((ResStep.mk ((PF.laws_markIntS y.clause m).1) ((PF.laws_markIntS y.clause m).2) (wr ((PF.laws_markIntS y.clause m).2 + 1)) (wr ((wr ((PF.laws_markIntS y.clause m).2 + 1)) + 1))), (wr ((wr ((wr ((PF.laws_markIntS y.clause m).2 + 1)) + 1)) + 1)))) a0 a1).2)) rfl) ?_
    refine FL.nil ?_
    refine FW.ret ?_
    exact ⟨.inr rfl, res1 rfl rfl ⟨_, _, rfl, S2, n2, hb, fun b q1 q2 => weak (F := fun b => b ∉ bl [v0] ∧ b ∉ bl c0) (fun b q => ho b q.1 q.2) b ⟨q1, q2⟩⟩⟩

theorem w_laws_heldIntS {Ha : GH} {wa : World} (hs : Sl Ha wa) (v0 : Value) (a0 : List Int) (p0 : RSl Ha eI 1 v0 a0) (a1 : Int) {r : Int} (hp : (PF.laws_heldIntS a0 a1) = some r) :
    Calls Tryz.prog 42 #[v0, Value.int .i64 a1] wa (Sc Ha wa (Value.int .i64 r)) := by
  unfold PF.laws_heldIntS at hp
  have S0 := St.init hs
  refine calls_go (N := 21) (args := [v0, Value.int .i64 a1]) Tryz.func42 rfl rfl rfl ?_
  refine FW.seq ?_
  refine FW.region ?_
  refine FL.val rfl rfl rfl (E.assign (v := Value.int .i64 0) rfl) ?_
  refine FL.nil ?_
  refine FW.seq ?_
  refine FW.seq ?_
  refine FW.region ?_
  refine FL.val rfl rfl rfl (E.assign (v := Value.int .i64 0) rfl) ?_
  refine FL.nil ?_
  obtain ⟨q22, hq, hp⟩ := bndR hp
  refine FW.block ?_
  refine FW.mono (FW.forL (S := Int) (X := Int) (fun (i22 : Nat) (s22 : Int) f w => ∃ H : GH, St Ha wa H w [] ∧ Inc Ha H ∧ f 5 = Value.int .i64 ((i22 : Nat) : Int) ∧ f 0 = v0 ∧ f 1 = Value.int .i64 s22) (fun q e f w => match q with | .go s22 => e = Exit.exit 0 ∧ (∃ H : GH, St Ha wa H w [] ∧ Inc Ha H ∧ f 1 = Value.int .i64 s22) | .rt x => ((e = Exit.ret) ∧ (fun e f w => (e = Exit.normal ∨ e = Exit.ret) ∧ ∀ a, Fr (δ := []) 21 a f → ∃ v, (results Tryz.f42 a.tmps).run Tryz.prog w = .ok v w ∧ (Sc Ha wa (Value.int .i64 x)) (.returned v) w) e f w)) hq ⟨_, S0, (Inc.rfl _), rfl, rfl, rfl⟩ ?_ ?_) ?_
  ·
    clear hp hq
    rintro i22 y21 s22 f42 w41 ⟨H38, S39, i40, k43, k44, k45⟩ hx22 o53 hp
    refine FW.seq ?_
    refine FW.seq ?_
    refine FW.region ?_
    refine FL.val rfl rfl rfl (E.move k43) ?_
    refine FL.val rfl rfl rfl (E.move k44) ?_
    refine FL.val rfl rfl rfl (E.lenP te39 rfl p0) ?_
    refine FL.val rfl rfl rfl (E.lssT rfl rfl (lss_len hx22)) ?_
    refine FL.nil ?_
    refine FW.condT rfl rfl ?_
    refine FW.skip ?_
    refine FW.seq ?_
    refine FW.block ?_
    refine FW.seq ?_
    refine FW.seq ?_
    refine FW.region ?_
    refine FL.val rfl rfl rfl (E.move k44) ?_
    refine FL.val rfl rfl rfl (E.move k43) ?_
    obtain ⟨p46, cs47, pt48, l49, at50, rel51⟩ := p0.at (ix_nat hx22)
    obtain rfl := eI_open rel51
    refine FL.val rfl rfl rfl (E.indexAddr te39 rfl rfl pt48) ?_
    refine FL.val rfl rfl rfl (E.load rfl (run_load0 Tryz.isAgg3 ((at50.mono i40).now S39.sl) rfl)) ?_
    refine FL.val rfl rfl rfl (E.move k45) ?_
    refine FL.val rfl rfl rfl (E.neq rfl rfl) ?_
    refine FL.nil ?_
    rcases ifB hp with ⟨c52, hp⟩ | ⟨c52, hp⟩
    ·
      refine FW.condT rfl c52 ?_
      refine FW.seq ?_
      refine FW.region ?_
      refine FL.val rfl rfl rfl (E.assign (v := Value.int .i64 (-1)) rfl) ?_
      refine FL.nil ?_
      refine FW.ret ?_
      obtain rfl := Option.some.inj hp
      exact ⟨nofun, rfl, ⟨.inr rfl, res1 rfl rfl ⟨rfl, S39.back⟩⟩⟩
    ·
      refine FW.condF rfl c52 ?_
      refine FW.skip ?_
      refine FW.region ?_
      refine FL.val rfl rfl rfl (E.move k45) ?_
      refine FL.val rfl rfl rfl (E.add rfl rfl) ?_
      refine FL.val rfl rfl rfl (E.assign (v := Value.int .i64 (wr (s22 + 1))) rfl) ?_
      refine FL.nil ?_
      refine FW.region ?_
      refine FL.val rfl rfl rfl (E.move k43) ?_
      refine FL.val rfl rfl rfl (E.add rfl rfl) ?_
      refine FL.val rfl rfl rfl (E.assign (v := Value.int .i64 (wr (((i22 : Nat) : Int) + 1))) rfl) ?_
      refine FL.nil ?_
      obtain rfl := Option.some.inj hp
      exact ⟨rfl, ⟨_, S39, i40, (nat_succ rfl (lt_of_get hx22) (p0.mono i40).le), k44, rfl⟩⟩
  ·
    clear hp hq
    rintro s22 f64 w63 ⟨H60, S61, i62, k65, k66, k67⟩
    refine FW.seq ?_
    refine FW.seq ?_
    refine FW.region ?_
    refine FL.val rfl rfl rfl (E.move k65) ?_
    refine FL.val rfl rfl rfl (E.move k66) ?_
    refine FL.val rfl rfl rfl (E.lenP te39 rfl p0) ?_
    refine FL.val rfl rfl rfl (E.lss rfl rfl) ?_
    refine FL.nil ?_
    refine FW.condF rfl dlt_len ?_
    refine FW.exit ?_
    exact ⟨nofun, rfl, ⟨_, S61, i62, k67⟩⟩
  ·
    clear hq
    intro e f58 w57 hD
    rcases q22 with s22 | x22
    ·
      obtain ⟨rfl, hD⟩ := hD
      obtain ⟨H54, S55, i56, k59⟩ := hD
      replace hp := el_go hp
      refine FW.seq ?_
      refine FW.region ?_
      refine FL.val rfl rfl rfl (E.move k59) ?_
      refine FL.val rfl rfl rfl (E.assign (v := Value.int .i64 s22) rfl) ?_
      refine FL.nil ?_
      refine FW.ret ?_
      obtain rfl := Option.some.inj hp
      exact ⟨.inr rfl, res1 rfl rfl ⟨rfl, S55.back⟩⟩
    ·
      obtain ⟨he, hL⟩ := hD
      replace hp := el_rt hp
      obtain rfl := Option.some.inj hp
      subst he
      exact hL

theorem w_laws_heldResStepS {Ha : GH} {wa : World} (hs : Sl Ha wa) (v0 : Value) (a0 : List ResStep) (p0 : RSl Ha eResStep 4 v0 a0) (a1 : Int) {r : Int} (hp : (PF.laws_heldResStepS a0 a1) = some r) :
    Calls Tryz.prog 25 #[v0, Value.int .i64 a1] wa (Sc Ha wa (Value.int .i64 r)) := by
  unfold PF.laws_heldResStepS at hp
  have S0 := St.init hs
  refine calls_go (N := 49) (args := [v0, Value.int .i64 a1]) Tryz.func25 rfl rfl rfl ?_
  refine FW.seq ?_
  refine FW.region ?_
  refine FL.val rfl rfl rfl (E.assign (v := Value.int .i64 0) rfl) ?_
  refine FL.nil ?_
  refine FW.seq ?_
  refine FW.seq ?_
  refine FW.region ?_
  refine FL.val rfl rfl rfl (E.assign (v := Value.int .i64 0) rfl) ?_
  refine FL.nil ?_
  obtain ⟨q22, hq, hp⟩ := bndR hp
  refine FW.block ?_
  refine FW.mono (FW.forL (S := Int) (X := Int) (fun (i22 : Nat) (s22 : Int) f w => ∃ H : GH, St Ha wa H w [] ∧ Inc Ha H ∧ f 5 = Value.int .i64 ((i22 : Nat) : Int) ∧ f 0 = v0 ∧ f 1 = Value.int .i64 s22) (fun q e f w => match q with | .go s22 => e = Exit.exit 0 ∧ (∃ H : GH, St Ha wa H w [] ∧ Inc Ha H ∧ f 1 = Value.int .i64 s22) | .rt x => ((e = Exit.ret) ∧ (fun e f w => (e = Exit.normal ∨ e = Exit.ret) ∧ ∀ a, Fr (δ := []) 49 a f → ∃ v, (results Tryz.f25 a.tmps).run Tryz.prog w = .ok v w ∧ (Sc Ha wa (Value.int .i64 x)) (.returned v) w) e f w)) hq ⟨_, S0, (Inc.rfl _), rfl, rfl, rfl⟩ ?_ ?_) ?_
  ·
    clear hp hq
    rintro i22 y21 s22 f76 w75 ⟨H72, S73, i74, k77, k78, k79⟩ hx22 o121 hp
    refine FW.seq ?_
    refine FW.seq ?_
    refine FW.region ?_
    refine FL.val rfl rfl rfl (E.move k77) ?_
    refine FL.val rfl rfl rfl (E.move k78) ?_
    refine FL.val rfl rfl rfl (E.lenP te28 rfl p0) ?_
    refine FL.val rfl rfl rfl (E.lssT rfl rfl (lss_len hx22)) ?_
    refine FL.nil ?_
    refine FW.condT rfl rfl ?_
    refine FW.skip ?_
    refine FW.seq ?_
    refine FW.block ?_
    refine FW.seq ?_
    refine FW.region ?_
    refine FL.val rfl rfl rfl (E.move k78) ?_
    refine FL.val rfl rfl rfl (E.move k77) ?_
    obtain ⟨p80, cs81, pt82, l83, at84, rel85⟩ := p0.at (ix_nat hx22)
    obtain ⟨v86, rfl, h87⟩ := eResStep_open rel85
    refine FL.val rfl rfl rfl (E.indexAddr te28 rfl rfl pt82) ?_
    refine FL.val rfl rfl rfl (E.fieldAddr tf89_0 rfl) ?_
    refine FL.val rfl rfl rfl (E.load rfl (run_load1 Tryz.isAgg39 ((at84.mono i74).now S73.sl) rfl)) ?_
    refine FL.val rfl rfl rfl (E.move k79) ?_
    obtain ⟨r88, hr89, hp⟩ := bnd hp
    refine FL.call rfl rfl rfl (E.call Tryz.call42 (A2 rfl rfl)) (w_laws_heldIntS S73.sl v86 y21.clause (h87.mono i74) s22 hr89) ?_
    rintro e w90 ⟨rfl, r91⟩
    refine ⟨_, rfl, ?_⟩
    have S92 := S73.call r91
    refine FL.val rfl rfl rfl (E.assign (v := Value.int .i64 r88) rfl) ?_
    refine FL.nil ?_
    refine FW.seq ?_
    refine FW.seq ?_
    refine FW.region ?_
    refine FL.val rfl rfl rfl (E.move (v := Value.int .i64 r88) rfl) ?_
    refine FL.val rfl rfl rfl (E.lss rfl rfl) ?_
    refine FL.nil ?_
    rcases ifB hp with ⟨c93, hp⟩ | ⟨c93, hp⟩
    ·
      refine FW.condT rfl c93 ?_
      refine FW.seq ?_
      refine FW.region ?_
      refine FL.val rfl rfl rfl (E.assign (v := Value.int .i64 (-1)) rfl) ?_
      refine FL.nil ?_
      refine FW.ret ?_
      obtain rfl := Option.some.inj hp
      exact ⟨nofun, rfl, ⟨.inr rfl, res1 rfl rfl ⟨rfl, S92.back⟩⟩⟩
    ·
      refine FW.condF rfl c93 ?_
      refine FW.skip ?_
      refine FW.seq ?_
      refine FW.seq ?_
      refine FW.region ?_
      refine FL.val rfl rfl rfl (E.move k78) ?_
      refine FL.val rfl rfl rfl (E.move k77) ?_
      obtain ⟨p94, cs95, pt96, l97, at98, rel99⟩ := p0.at (ix_nat hx22)
      obtain ⟨v100, rfl, h101⟩ := eResStep_open rel99
      refine FL.val rfl rfl rfl (E.indexAddr te28 rfl rfl pt96) ?_
      refine FL.val rfl rfl rfl (E.fieldAddr tf89_1 rfl) ?_
      refine FL.val rfl rfl rfl (E.load rfl (run_load1 Tryz.isAgg3 ((at98.mono i74).now S92.sl) rfl)) ?_
      refine FL.val rfl rfl rfl (E.move (v := Value.int .i64 r88) rfl) ?_
      refine FL.val rfl rfl rfl (E.neq rfl rfl) ?_
      refine FL.nil ?_
      rcases ifB hp with ⟨c102, hp⟩ | ⟨c102, hp⟩
      ·
        refine FW.condT rfl c102 ?_
        refine FW.seq ?_
        refine FW.region ?_
        refine FL.val rfl rfl rfl (E.assign (v := Value.int .i64 (-1)) rfl) ?_
        refine FL.nil ?_
        refine FW.ret ?_
        obtain rfl := Option.some.inj hp
        exact ⟨nofun, rfl, ⟨.inr rfl, res1 rfl rfl ⟨rfl, S92.back⟩⟩⟩
      ·
        refine FW.condF rfl c102 ?_
        refine FW.skip ?_
        refine FW.seq ?_
        refine FW.region ?_
        refine FL.val rfl rfl rfl (E.move (v := Value.int .i64 r88) rfl) ?_
        refine FL.val rfl rfl rfl (E.add rfl rfl) ?_
        refine FL.val rfl rfl rfl (E.assign (v := Value.int .i64 (wr (r88 + 1))) rfl) ?_
        refine FL.nil ?_
        refine FW.seq ?_
        refine FW.seq ?_
        refine FW.region ?_
        refine FL.val rfl rfl rfl (E.move k78) ?_
        refine FL.val rfl rfl rfl (E.move k77) ?_
        obtain ⟨p103, cs104, pt105, l106, at107, rel108⟩ := p0.at (ix_nat hx22)
        obtain ⟨v109, rfl, h110⟩ := eResStep_open rel108
        refine FL.val rfl rfl rfl (E.indexAddr te28 rfl rfl pt105) ?_
        refine FL.val rfl rfl rfl (E.fieldAddr tf89_2 rfl) ?_
        refine FL.val rfl rfl rfl (E.load rfl (run_load1 Tryz.isAgg3 ((at107.mono i74).now S92.sl) rfl)) ?_
        refine FL.val rfl rfl rfl (E.move (v := Value.int .i64 (wr (r88 + 1))) rfl) ?_
        refine FL.val rfl rfl rfl (E.neq rfl rfl) ?_
        refine FL.nil ?_
        rcases ifB hp with ⟨c111, hp⟩ | ⟨c111, hp⟩
        ·
          refine FW.condT rfl c111 ?_
          refine FW.seq ?_
          refine FW.region ?_
          refine FL.val rfl rfl rfl (E.assign (v := Value.int .i64 (-1)) rfl) ?_
          refine FL.nil ?_
          refine FW.ret ?_
          obtain rfl := Option.some.inj hp
          exact ⟨nofun, rfl, ⟨.inr rfl, res1 rfl rfl ⟨rfl, S92.back⟩⟩⟩
        ·
          refine FW.condF rfl c111 ?_
          refine FW.skip ?_
          refine FW.seq ?_
          refine FW.region ?_
          refine FL.val rfl rfl rfl (E.move (v := Value.int .i64 (wr (r88 + 1))) rfl) ?_
          refine FL.val rfl rfl rfl (E.add rfl rfl) ?_
          refine FL.val rfl rfl rfl (E.assign (v := Value.int .i64 (wr ((wr (r88 + 1)) + 1))) rfl) ?_
          refine FL.nil ?_
          refine FW.seq ?_
          refine FW.seq ?_
          refine FW.region ?_
          refine FL.val rfl rfl rfl (E.move k78) ?_
          refine FL.val rfl rfl rfl (E.move k77) ?_
          obtain ⟨p112, cs113, pt114, l115, at116, rel117⟩ := p0.at (ix_nat hx22)
          obtain ⟨v118, rfl, h119⟩ := eResStep_open rel117
          refine FL.val rfl rfl rfl (E.indexAddr te28 rfl rfl pt114) ?_
          refine FL.val rfl rfl rfl (E.fieldAddr tf89_3 rfl) ?_
          refine FL.val rfl rfl rfl (E.load rfl (run_load1 Tryz.isAgg3 ((at116.mono i74).now S92.sl) rfl)) ?_
          refine FL.val rfl rfl rfl (E.move (v := Value.int .i64 (wr ((wr (r88 + 1)) + 1))) rfl) ?_
          refine FL.val rfl rfl rfl (E.neq rfl rfl) ?_
          refine FL.nil ?_
          rcases ifB hp with ⟨c120, hp⟩ | ⟨c120, hp⟩
          ·
            refine FW.condT rfl c120 ?_
            refine FW.seq ?_
            refine FW.region ?_
            refine FL.val rfl rfl rfl (E.assign (v := Value.int .i64 (-1)) rfl) ?_
            refine FL.nil ?_
            refine FW.ret ?_
            obtain rfl := Option.some.inj hp
            exact ⟨nofun, rfl, ⟨.inr rfl, res1 rfl rfl ⟨rfl, S92.back⟩⟩⟩
          ·
            refine FW.condF rfl c120 ?_
            refine FW.skip ?_
            refine FW.region ?_
            refine FL.val rfl rfl rfl (E.move (v := Value.int .i64 (wr ((wr (r88 + 1)) + 1))) rfl) ?_
            refine FL.val rfl rfl rfl (E.add rfl rfl) ?_
            refine FL.val rfl rfl rfl (E.assign (v := Value.int .i64 (wr ((wr ((wr (r88 + 1)) + 1)) + 1))) rfl) ?_
            refine FL.nil ?_
            refine FW.region ?_
            refine FL.val rfl rfl rfl (E.move k77) ?_
            refine FL.val rfl rfl rfl (E.add rfl rfl) ?_
            refine FL.val rfl rfl rfl (E.assign (v := Value.int .i64 (wr (((i22 : Nat) : Int) + 1))) rfl) ?_
            refine FL.nil ?_
            obtain rfl := Option.some.inj hp
            exact ⟨rfl, ⟨_, S92, i74, (nat_succ rfl (lt_of_get hx22) (p0.mono i74).le), k78, rfl⟩⟩
  ·
    clear hp hq
    rintro s22 f132 w131 ⟨H128, S129, i130, k133, k134, k135⟩
    refine FW.seq ?_
    refine FW.seq ?_
    refine FW.region ?_
    refine FL.val rfl rfl rfl (E.move k133) ?_
    refine FL.val rfl rfl rfl (E.move k134) ?_
    refine FL.val rfl rfl rfl (E.lenP te28 rfl p0) ?_
    refine FL.val rfl rfl rfl (E.lss rfl rfl) ?_
    refine FL.nil ?_
    refine FW.condF rfl dlt_len ?_
    refine FW.exit ?_
    exact ⟨nofun, rfl, ⟨_, S129, i130, k135⟩⟩
  ·
    clear hq
    intro e f126 w125 hD
    rcases q22 with s22 | x22
    ·
      obtain ⟨rfl, hD⟩ := hD
      obtain ⟨H122, S123, i124, k127⟩ := hD
      replace hp := el_go hp
      refine FW.seq ?_
      refine FW.region ?_
      refine FL.val rfl rfl rfl (E.move k127) ?_
      refine FL.val rfl rfl rfl (E.assign (v := Value.int .i64 s22) rfl) ?_
      refine FL.nil ?_
      refine FW.ret ?_
      obtain rfl := Option.some.inj hp
      exact ⟨.inr rfl, res1 rfl rfl ⟨rfl, S123.back⟩⟩
    ·
      obtain ⟨he, hL⟩ := hD
      replace hp := el_rt hp
      obtain rfl := Option.some.inj hp
      subst he
      exact hL

set_option maxHeartbeats 4000000 in
theorem w_laws_FnExactDropWeakenings {Ha : GH} {wa : World} (hs : Sl Ha wa) (a0 : Cnf) (v0_1 : Value) (p0_1 : RSl Ha (eL eI 1) 1 v0_1 a0.clauses) (v1 : Value) (a1 : List ResStep) (p1 : RSl Ha eResStep 4 v1 a1) {r : Bool} (hp : (PF.laws_FnExactDropWeakenings a0 a1) = some r) :
    Calls Tryz.prog 3 #[Value.agg #[Value.int .i64 a0.vars, v0_1], v1] wa (Sc Ha wa (Value.bool r)) := by
  unfold PF.laws_FnExactDropWeakenings at hp
  have S0 := St.init hs
  refine calls_go (N := 119) (args := [Value.agg #[Value.int .i64 a0.vars, v0_1], v1]) Tryz.func3 rfl rfl rfl ?_
  refine FW.seq ?_
  refine FW.region ?_
  obtain ⟨w21, run22, S23, z24⟩ := S0.boxB (P := Tryz.prog) 24 [Value.int .i64 a0.vars, v0_1] (v := Value.agg #[Value.int .i64 a0.vars, v0_1]) rfl (ones_cons rfl (ones_cons p0_1.one ones_nil))
  refine FL.val rfl rfl rfl (E.box rfl run22) ?_
  obtain ⟨H25, S26, i27, at28⟩ := S23.sealBoxB (i := 0) (l' := []) rfl rfl
  refine FL.val rfl rfl rfl (E.assign (v := Value.bool false) rfl) ?_
  refine FL.nil ?_
  refine FW.seq ?_
  refine FW.region ?_
  refine FL.val rfl rfl rfl (E.assign (v := Value.int .i64 1048576) rfl) ?_
  refine FL.nil ?_
  refine FW.seq ?_
  refine FW.region ?_
  refine FL.val rfl rfl rfl (E.load rfl (run_loadA Tryz.isAgg24 Tryz.sizeOf24 ((at28.mono sgI).now S26.sl) rfl)) ?_
  refine FL.val rfl rfl rfl (E.move (v := Value.int .i64 1048576) rfl) ?_
  obtain ⟨r29, hr30, hp⟩ := bnd hp
  refine FL.call rfl rfl rfl (E.call Tryz.call15 (A2 rfl rfl)) (w_laws_szCnf S26.sl a0 v0_1 (p0_1.mono i27) 1048576 hr30) ?_
  rintro e w31 ⟨rfl, r32⟩
  refine ⟨_, rfl, ?_⟩
  have S33 := S26.call r32
  have z34 := r32.bel.size
  refine FL.val rfl rfl rfl (E.assign (v := Value.int .i64 r29) rfl) ?_
  refine FL.nil ?_
  refine FW.seq ?_
  refine FW.seq ?_
  refine FW.region ?_
  refine FL.val rfl rfl rfl (E.move (v := Value.int .i64 r29) rfl) ?_
  refine FL.val rfl rfl rfl (E.lss rfl rfl) ?_
  refine FL.nil ?_
  rcases ifB hp with ⟨c35, hp⟩ | ⟨c35, hp⟩
  ·
    refine FW.condT rfl c35 ?_
    refine FW.seq ?_
    refine FW.region ?_
    refine FL.val rfl rfl rfl (E.assign (v := Value.bool true) rfl) ?_
    refine FL.nil ?_
    refine FW.ret ?_
    obtain rfl := Option.some.inj hp
    exact ⟨.inr rfl, res1 rfl rfl ⟨rfl, S33.back⟩⟩
  ·
    refine FW.condF rfl c35 ?_
    refine FW.skip ?_
    refine FW.seq ?_
    refine FW.region ?_
    refine FL.val rfl rfl rfl (E.move (v := v1) rfl) ?_
    refine FL.val rfl rfl rfl (E.move (v := Value.int .i64 r29) rfl) ?_
    obtain ⟨r36, hr37, hp⟩ := bnd hp
    refine FL.call rfl rfl rfl (E.call Tryz.call16 (A2 rfl rfl)) (w_laws_szResStepS S33.sl v1 a1 (p1.mono i27) r29 hr37) ?_
    rintro e w38 ⟨rfl, r39⟩
    refine ⟨_, rfl, ?_⟩
    have S40 := S33.call r39
    have z41 := r39.bel.size
    refine FL.val rfl rfl rfl (E.assign (v := Value.int .i64 r36) rfl) ?_
    refine FL.nil ?_
    refine FW.seq ?_
    refine FW.seq ?_
    refine FW.region ?_
    refine FL.val rfl rfl rfl (E.move (v := Value.int .i64 r36) rfl) ?_
    refine FL.val rfl rfl rfl (E.lss rfl rfl) ?_
    refine FL.nil ?_
    rcases ifB hp with ⟨c42, hp⟩ | ⟨c42, hp⟩
    ·
      refine FW.condT rfl c42 ?_
      refine FW.seq ?_
      refine FW.region ?_
      refine FL.val rfl rfl rfl (E.assign (v := Value.bool true) rfl) ?_
      refine FL.nil ?_
      refine FW.ret ?_
      obtain rfl := Option.some.inj hp
      exact ⟨.inr rfl, res1 rfl rfl ⟨rfl, S40.back⟩⟩
    ·
      refine FW.condF rfl c42 ?_
      refine FW.skip ?_
      refine FW.seq ?_
      refine FW.region ?_
      refine FL.val rfl rfl rfl (E.load rfl (run_loadA Tryz.isAgg24 Tryz.sizeOf24 ((at28.mono sgI).now S40.sl) rfl)) ?_
      obtain ⟨r43, hr44, hp⟩ := bnd hp
      refine FL.call rfl rfl rfl (E.call Tryz.call18 (A1 rfl)) (w_laws_toCnf S40.sl a0 v0_1 (p0_1.mono i27) hr44) ?_
      rintro e w46 ⟨H45, v49, rfl, r48, ⟨c52, ns51⟩⟩
      refine ⟨_, rfl, ?_⟩
      have h50 := ns51.rsl
      have nv53 : New H25 [v49] := New.of_up S40.sl h50.dom
      have S47 := S40.call r48
      have z54 := r48.bel.size
      have h50 := h50.mono (sg_of S47.sl)
      have ns51 := ns51.mono (sg_of S47.sl)
      refine FL.val rfl rfl rfl (E.move (v := v1) rfl) ?_
      obtain ⟨r55, hr56, hp⟩ := bnd hp
      refine FL.call rfl rfl rfl (E.call Tryz.call19 (A1 rfl)) (w_laws_toResStepS S47.sl v1 a1 (p1.mono (i27.tr r48.inc)) hr56) ?_
      rintro e w58 ⟨H57, v61, n62, cs63, rfl, r60, els64, nd65⟩
      refine ⟨_, rfl, ?_⟩
      have nv66 : New H45 cs63 := New.of_up S47.sl els64.dom
      obtain ⟨H67, r68, i69, ns72, nv71⟩ := r60.sealRowN (i := 0) (l' := []) rfl els64 nd65 (by decide) rfl
      have h70 := ns72.rsl
      have S59 := S47.call r68.run
      have z73 := r68.run.bel.size
      have h70 := h70.mono (sg_of S59.sl)
      have ns72 := ns72.mono (sg_of S59.sl)
      obtain ⟨r74, hr75, hp⟩ := bnd hp
      refine FL.call rfl rfl rfl (E.call Tryz.call17 (A2 rfl rfl)) (w_spec_DropWeakenings S59.sl r43 v49 (h50.mono (sgI.tr r68.run.inc)) v61 r55 (h70.mono sgI) hr75) ?_
      rintro e w77 ⟨H76, v80, rfl, r79, h81⟩
      refine ⟨_, rfl, ?_⟩
      have S78 := S59.call r79
      have z82 := r79.bel.size
      have h81 := h81.mono (bw_of S78.sl)
      refine FL.val rfl rfl rfl (E.move (v := Value.tuple #[v80, Value.bool r74.2]) rfl) ?_
      refine FL.val rfl rfl rfl (E.extract (i := 0) rfl rfl) ?_
      refine FL.val rfl rfl rfl (E.extract (i := 1) rfl rfl) ?_
      refine FL.val rfl rfl rfl (E.assign (v := v80) rfl) ?_
      refine FL.val rfl rfl rfl (E.assign (v := Value.bool r74.2) rfl) ?_
      refine FL.nil ?_
      refine FW.seq ?_
      refine FW.region ?_
      refine FL.val rfl rfl rfl (E.load rfl (run_loadA Tryz.isAgg24 Tryz.sizeOf24 ((at28.mono (sgI.tr ((r48.inc.tr r68.run.inc).tr r79.inc))).now S78.sl) rfl)) ?_
      obtain ⟨r83, hr84, hp⟩ := bnd hp
      refine FL.call rfl rfl rfl (E.call Tryz.call18 (A1 rfl)) (w_laws_toCnf S78.sl a0 v0_1 (p0_1.mono (((i27.tr r48.inc).tr r68.run.inc).tr r79.inc)) hr84) ?_
      rintro e w86 ⟨H85, v89, rfl, r88, ⟨c92, ns91⟩⟩
      refine ⟨_, rfl, ?_⟩
      have h90 := ns91.rsl
      have nv93 : New H76 [v89] := New.of_up S78.sl h90.dom
      have S87 := S78.call r88
      have z94 := r88.bel.size
      have h90 := h90.mono (sg_of S87.sl)
      have ns91 := ns91.mono (sg_of S87.sl)
      obtain ⟨w95, run96, S97, z98⟩ := S87.allocB (P := Tryz.prog) 31 [Value.int .i64 0, Value.slice none 0 0] Tryz.zeroValue31 rfl (ones_cons rfl (ones_cons rfl ones_nil))
      refine FL.val rfl rfl rfl (E.alloc run96) ?_
      obtain ⟨w99, run100, S101, z102⟩ := S97.store0B (P := Tryz.prog) (t := 31) (i := 0) (cs' := [Value.int .i64 r83.vars, v89]) (l' := [.box w86.heap.size 31 [Value.int .i64 r83.vars, v89]]) (v := Value.agg #[Value.int .i64 r83.vars, v89]) (c := [Value.int .i64 r83.vars, v89]) rfl Tryz.sizeOf31 rfl rfl (ones_cons rfl (ones_cons h90.one ones_nil)) (Nat.le_of_ble_eq_true rfl) rfl rfl
      refine FL.act rfl rfl (E.store rfl rfl run100) ?_
      obtain ⟨H103, S104, i105, at106⟩ := S101.sealBoxB (i := 0) (l' := []) rfl rfl
      refine FL.nil ?_
      refine FW.seq ?_
      refine FW.region ?_
      refine FL.val rfl rfl rfl (E.move (v := v1) rfl) ?_
      obtain ⟨r107, hr108, hp⟩ := bnd hp
      refine FL.call rfl rfl rfl (E.call Tryz.call19 (A1 rfl)) (w_laws_toResStepS S104.sl v1 a1 (p1.mono (((((i27.tr r48.inc).tr r68.run.inc).tr r79.inc).tr r88.inc).tr i105)) hr108) ?_
      rintro e w110 ⟨H109, v113, n114, cs115, rfl, r112, els116, nd117⟩
      refine ⟨_, rfl, ?_⟩
      have nv118 : New H103 cs115 := New.of_up S104.sl els116.dom
      obtain ⟨H119, r120, i121, ns124, nv123⟩ := r112.sealRowN (i := 0) (l' := []) rfl els116 nd117 (by decide) rfl
      have h122 := ns124.rsl
      have S111 := S104.call r120.run
      have z125 := r120.run.bel.size
      have h122 := h122.mono (sg_of S111.sl)
      have ns124 := ns124.mono (sg_of S111.sl)
      refine FL.val rfl rfl rfl (E.assign (v := v113) rfl) ?_
      refine FL.nil ?_
      refine FW.seq ?_
      refine FW.region ?_
      refine FL.val rfl rfl rfl (E.load rfl (run_loadA Tryz.isAgg31 Tryz.sizeOf31 ((at106.mono (sgI.tr r120.run.inc)).now S111.sl) rfl)) ?_
      refine FL.val rfl rfl rfl (E.move (v := v113) rfl) ?_
      obtain ⟨r126, hr127, hp⟩ := bnd hp
      refine FL.call rfl rfl rfl (E.call Tryz.call20 (A2 rfl rfl)) (w_impl_DropWeakenings S111.sl r83 v89 (h90.mono (sgI.tr (i105.tr r120.run.inc))) v113 r107 (h122.mono sgI) hr127) ?_
      rintro e w129 ⟨H128, v132, n133, cs134, rfl, r131, els135, nd136⟩
      refine ⟨_, rfl, ?_⟩
      have nv137 : New H119 cs134 := New.of_up S111.sl els135.dom
      obtain ⟨H138, r139, i140, ns143, nv142⟩ := r131.sealRowN (i := 0) (l' := []) rfl els135 nd136 (by decide) rfl
      have h141 := ns143.rsl
      have S130 := S111.call r139.run
      have z144 := r139.run.bel.size
      have h141 := h141.mono (sg_of S130.sl)
      have ns143 := ns143.mono (sg_of S130.sl)
      refine FL.val rfl rfl rfl (E.move (v := Value.tuple #[v132, Value.bool r126.2]) rfl) ?_
      refine FL.val rfl rfl rfl (E.extract (i := 0) rfl rfl) ?_
      refine FL.val rfl rfl rfl (E.extract (i := 1) rfl rfl) ?_
      refine FL.val rfl rfl rfl (E.assign (v := v132) rfl) ?_
      refine FL.val rfl rfl rfl (E.assign (v := Value.bool r126.2) rfl) ?_
      refine FL.nil ?_
      refine FW.seq ?_
      refine FW.seq ?_
      refine FW.region ?_
      refine FL.val rfl rfl rfl (E.move (v := v132) rfl) ?_
      refine FL.val rfl rfl rfl (E.move (v := v80) rfl) ?_
      obtain ⟨r145, hr146, hp⟩ := bnd hp
      refine FL.call rfl rfl rfl (E.call Tryz.call21 (A2 rfl rfl)) (w_laws_eqResStepS S130.sl v132 r126.1 (h141.mono sgI) v80 r74.1 (h81.mono (bwI.tr (((r88.inc.tr i105).tr r120.run.inc).tr r139.run.inc))) hr146) ?_
      rintro e w147 ⟨rfl, r148⟩
      refine ⟨_, rfl, ?_⟩
      have S149 := S130.call r148
      have z150 := r148.bel.size
      refine FL.val rfl rfl rfl (E.not rfl) ?_
      refine FL.val rfl rfl rfl (E.move (v := Value.bool (!r145)) rfl) ?_
      refine FL.cut 4 (fun f w => ∃ H : GH, St Ha wa H w [] ∧ Inc H138 H ∧ f 1 = v1 ∧ f 2 = Value.pointer (some ⟨wa.heap.size, 0, none⟩) ∧ f 6 = v80 ∧ f 7 = Value.bool r74.2 ∧ f 8 = Value.pointer (some ⟨w86.heap.size, 0, none⟩) ∧ f 9 = v113 ∧ f 10 = v132 ∧ f 11 = Value.bool r126.2 ∧ f 53 = Value.bool (bif (!r145) then true else (!(r126.2 == r74.2)))) ?_ ?_
      ·
        rcases bcase (!r145) with c157 | c157
        ·
          refine FL.skip (wF_no rfl rfl rfl c157) rfl ?_
          refine FL.skip (wF_no rfl rfl rfl c157) rfl ?_
          refine FL.skip (wF_no rfl rfl rfl c157) rfl ?_
          refine FL.val rfl rfl rfl (E.pickT rfl c157 rfl) ?_
          exact FL.nil ⟨rfl, _, S149, (Inc.rfl _), rfl, rfl, rfl, rfl, rfl, rfl, rfl, rfl, (congrArg Value.bool (bifT c157).symm)⟩
        ·
          refine FL.val (wF_yes rfl rfl rfl c157) rfl rfl (E.move (v := Value.bool r126.2) rfl) ?_
          refine FL.val (wF_yes rfl rfl rfl c157) rfl rfl (E.move (v := Value.bool r74.2) rfl) ?_
          refine FL.val (wF_yes rfl rfl rfl c157) rfl rfl (E.neqB Tryz.runUnderlying4 rfl rfl) ?_
          refine FL.val rfl rfl rfl (E.pickF rfl c157 rfl) ?_
          exact FL.nil ⟨rfl, _, S149, (Inc.rfl _), rfl, rfl, rfl, rfl, rfl, rfl, rfl, rfl, (congrArg Value.bool (bifF c157).symm)⟩
      rintro f156 w155 ⟨H152, S153, i154, k158, k159, k160, k161, k162, k163, k164, k165, k166⟩
      refine FL.nil ?_
      rcases ifB hp with ⟨c167, hp⟩ | ⟨c167, hp⟩
      ·
        refine FW.condT k166 c167 ?_
        refine FW.seq ?_
        refine FW.region ?_
        refine FL.val rfl rfl rfl (E.assign (v := Value.bool false) rfl) ?_
        refine FL.nil ?_
        refine FW.ret ?_
        obtain rfl := Option.some.inj hp
        exact ⟨.inr rfl, res1 rfl rfl ⟨rfl, S153.back⟩⟩
      ·
        refine FW.condF k166 c167 ?_
        refine FW.skip ?_
        refine FW.seq ?_
        refine FW.seq ?_
        obtain ⟨r9168, hr9169, hp⟩ := bnd hp
        obtain ⟨r12168, hr12169, hp⟩ := bnd hp
        refine FW.drawB (Sl H152) (fun f w => ∃ H : GH, St Ha wa H w [] ∧ Inc H152 H ∧ f 1 = v1 ∧ f 2 = Value.pointer (some ⟨wa.heap.size, 0, none⟩) ∧ f 6 = v80 ∧ f 7 = Value.bool r74.2 ∧ f 8 = Value.pointer (some ⟨w86.heap.size, 0, none⟩) ∧ f 9 = v113 ∧ f 10 = v132 ∧ f 11 = Value.bool r126.2 ∧ f 58 = Value.bool (!r12168)) (by kernel_rfl) S153.sl ?_ ?_
        ·
          intro w168 r169
          have S170 := S153.call r169
          refine FB.take (i := 0) (l' := #[true, false, false, false, false]) rfl (by kernel_rfl) (by kernel_rfl) (by kernel_rfl) (by kernel_rfl) (by kernel_rfl) (SP.nil S170.sl) rfl rfl rfl (fun w' hw' => (E.load k162 (run_loadA Tryz.isAgg31 Tryz.sizeOf31 ((at106.mono (sgI.tr ((r120.run.inc.tr r139.run.inc).tr i154))).now hw') rfl))) ?_
          refine FB.take (i := 1) (l' := #[true, true, false, false, false]) rfl (by kernel_rfl) (by kernel_rfl) (by kernel_rfl) (by kernel_rfl) (by kernel_rfl) (SP.nil S170.sl) rfl rfl rfl (fun w' hw' => (E.load k159 (run_loadA Tryz.isAgg24 Tryz.sizeOf24 ((at28.mono (sgI.tr (((((((r48.inc.tr r68.run.inc).tr r79.inc).tr r88.inc).tr i105).tr r120.run.inc).tr r139.run.inc).tr i154))).now hw') rfl))) ?_
          refine FB.all1 (i := 2) (by kernel_rfl) ?_
          ·
            refine FC.call (l' := #[true, true, true, false, false]) rfl (by kernel_rfl) rfl rfl rfl (E.call Tryz.call18 (A1 rfl)) (w_laws_toCnf S170.sl a0 v0_1 (p0_1.mono ((((((((i27.tr r48.inc).tr r68.run.inc).tr r79.inc).tr r88.inc).tr i105).tr r120.run.inc).tr r139.run.inc).tr i154)) hr9169) ?_
            rintro e w9171 ⟨H9170, v9174, rfl, r9173, ⟨c9177, ns9176⟩⟩
            refine ⟨_, rfl, ?_⟩
            have h9175 := ns9176.rsl
            have nv9178 : New H152 [v9174] := New.of_up S170.sl h9175.dom
            have S9172 := S170.call r9173
            have z9179 := r9173.bel.size
            have h9175 := h9175.mono (sg_of S9172.sl)
            have ns9176 := ns9176.mono (sg_of S9172.sl)
            refine ⟨(SP.nil (Sl.of_inc r9173.inc S9172.sl)), ?_⟩
            refine FB.all1 (i := 3) (by kernel_rfl) ?_
            ·
              refine FC.call (l' := #[true, true, true, true, false]) rfl (by kernel_rfl) rfl rfl rfl (E.call Tryz.call22 (A2 rfl rfl)) (w_laws_eqCnf S9172.sl r83 v89 (h90.mono (sgI.tr ((((i105.tr r120.run.inc).tr r139.run.inc).tr i154).tr r9173.inc))) r9168 v9174 (h9175.mono sgI) hr12169) ?_
              rintro e w12170 ⟨rfl, r12171⟩
              refine ⟨_, rfl, ?_⟩
              have S12172 := S9172.call r12171
              have z12173 := r12171.bel.size
              refine ⟨(SP.nil (Sl.of_inc r9173.inc S12172.sl)), ?_⟩
              refine FB.take (i := 4) (l' := #[true, true, true, true, true]) rfl (by kernel_rfl) (by kernel_rfl) (by kernel_rfl) (by kernel_rfl) (by kernel_rfl) (SP.nil (Sl.of_inc r9173.inc S12172.sl)) rfl rfl rfl (fun w' hw' => (E.not rfl)) ?_
              exact FB.done (by kernel_rfl) ⟨_, S12172, r9173.inc, k158, k159, k160, k161, k162, k163, k164, k165, rfl⟩
        ·
          rintro f21173 w21172 ⟨H21169, S21170, i21171, k21174, k21175, k21176, k21177, k21178, k21179, k21180, k21181, k21182⟩
          rcases ifB hp with ⟨c21183, hp⟩ | ⟨c21183, hp⟩
          ·
            refine FW.condT k21182 c21183 ?_
            refine FW.seq ?_
            refine FW.region ?_
            refine FL.val rfl rfl rfl (E.assign (v := Value.bool false) rfl) ?_
            refine FL.nil ?_
            refine FW.ret ?_
            obtain rfl := Option.some.inj hp
            exact ⟨.inr rfl, res1 rfl rfl ⟨rfl, S21170.back⟩⟩
          ·
            refine FW.condF k21182 c21183 ?_
            refine FW.skip ?_
            refine FW.seq ?_
            refine FW.seq ?_
            refine FW.region ?_
            refine FL.val rfl rfl rfl (E.move k21179) ?_
            refine FL.val rfl rfl rfl (E.move k21174) ?_
            obtain ⟨r21184, hr21185, hp⟩ := bnd hp
            refine FL.call rfl rfl rfl (E.call Tryz.call19 (A1 rfl)) (w_laws_toResStepS S21170.sl v1 a1 (p1.mono (((((((((i27.tr r48.inc).tr r68.run.inc).tr r79.inc).tr r88.inc).tr i105).tr r120.run.inc).tr r139.run.inc).tr i154).tr i21171)) hr21185) ?_
            rintro e w21187 ⟨H21186, v21190, n21191, cs21192, rfl, r21189, els21193, nd21194⟩
            refine ⟨_, rfl, ?_⟩
            have nv21195 : New H21169 cs21192 := New.of_up S21170.sl els21193.dom
            obtain ⟨H21196, r21197, i21198, ns21201, nv21200⟩ := r21189.sealRowN (i := 0) (l' := []) rfl els21193 nd21194 (by decide) rfl
            have h21199 := ns21201.rsl
            have S21188 := S21170.call r21197.run
            have z21202 := r21197.run.bel.size
            have h21199 := h21199.mono (sg_of S21188.sl)
            have ns21201 := ns21201.mono (sg_of S21188.sl)
            obtain ⟨r21203, hr21204, hp⟩ := bnd hp
            refine FL.call rfl rfl rfl (E.call Tryz.call21 (A2 rfl rfl)) (w_laws_eqResStepS S21188.sl v113 r107 (h122.mono (sgI.tr (((r139.run.inc.tr i154).tr i21171).tr r21197.run.inc))) v21190 r21184 (h21199.mono sgI) hr21204) ?_
            rintro e w21205 ⟨rfl, r21206⟩
            refine ⟨_, rfl, ?_⟩
            have S21207 := S21188.call r21206
            have z21208 := r21206.bel.size
            refine FL.val rfl rfl rfl (E.not rfl) ?_
            refine FL.nil ?_
            rcases ifB hp with ⟨c21209, hp⟩ | ⟨c21209, hp⟩
            ·
              refine FW.condT rfl c21209 ?_
              refine FW.seq ?_
              refine FW.region ?_
              refine FL.val rfl rfl rfl (E.assign (v := Value.bool false) rfl) ?_
              refine FL.nil ?_
              refine FW.ret ?_
              obtain rfl := Option.some.inj hp
              exact ⟨.inr rfl, res1 rfl rfl ⟨rfl, S21207.back⟩⟩
            ·
              refine FW.condF rfl c21209 ?_
              refine FW.skip ?_
              refine FW.seq ?_
              refine FW.region ?_
              refine FL.val rfl rfl rfl (E.assign (v := Value.int .i64 1) rfl) ?_
              refine FL.nil ?_
              refine FW.seq ?_
              refine FW.region ?_
              refine FL.val rfl rfl rfl (E.load k21178 (run_loadA Tryz.isAgg31 Tryz.sizeOf31 ((at106.mono (sgI.tr ((((r120.run.inc.tr r139.run.inc).tr i154).tr i21171).tr r21197.run.inc))).now S21207.sl) rfl)) ?_
              refine FL.val rfl rfl rfl (E.move (v := Value.int .i64 1) rfl) ?_
              refine FL.call rfl rfl rfl (E.call Tryz.call23 (A2 rfl rfl)) (w_laws_markCnf S21207 hs r83 v89 c92 (ns91.mono (sg_up (by omega) (((((i105.tr r120.run.inc).tr r139.run.inc).tr i154).tr i21171).tr r21197.run.inc))) 1) ?_
              rintro e w21211 ⟨H21210, c21216, rfl, S21212, ns21218, hb21217, o21214⟩
              refine ⟨_, rfl, ?_⟩
              have o21215 := (ns91.mono (sg_mono (hi := w86.heap.size) (((((i105.tr r120.run.inc).tr r139.run.inc).tr i154).tr i21171).tr r21197.run.inc))).outside o21214
              have ns21218 := ns91.span (eL_loc eI_flat) (by omega) ns21218 hb21217
              have h21213 := ns21218.rsl
              have f21219 := at28.mono ((sg_mono (lo := wa.heap.size) (hi := wa.heap.size + 1) (((((((((r48.inc.tr r68.run.inc).tr r79.inc).tr r88.inc).tr i105).tr r120.run.inc).tr r139.run.inc).tr i154).tr i21171).tr r21197.run.inc)).tr (sg_keep o21215 (by omega)))
              have f21220 := h81.mono ((bw_mono (hi := w77.heap.size) ((((((r88.inc.tr i105).tr r120.run.inc).tr r139.run.inc).tr i154).tr i21171).tr r21197.run.inc)).tr (bw_keep o21215 (by omega)))
              have f21221 := at106.mono ((sg_mono (lo := w86.heap.size) (hi := w86.heap.size + 1) ((((r120.run.inc.tr r139.run.inc).tr i154).tr i21171).tr r21197.run.inc)).tr (sg_keep o21215 (by omega)))
              have f21222 := h122.mono ((sg_mono (lo := w99.heap.size) (hi := w110.heap.size) (((r139.run.inc.tr i154).tr i21171).tr r21197.run.inc)).tr (sg_keep o21215 (by omega)))
              have f21223 := ns124.mono ((sg_mono (lo := w99.heap.size) (hi := w110.heap.size) (((r139.run.inc.tr i154).tr i21171).tr r21197.run.inc)).tr (sg_keep o21215 (by omega)))
              have f21224 := h141.mono ((sg_mono (lo := w110.heap.size) (hi := w129.heap.size) ((i154.tr i21171).tr r21197.run.inc)).tr (sg_keep o21215 (by omega)))
              have f21225 := ns143.mono ((sg_mono (lo := w110.heap.size) (hi := w129.heap.size) ((i154.tr i21171).tr r21197.run.inc)).tr (sg_keep o21215 (by omega)))
              refine FL.val rfl rfl rfl (E.assign (v := Value.int .i64 ((PF.laws_markCnf r83 1).2)) rfl) ?_
              refine FL.nil ?_
              refine FW.seq ?_
              refine FW.region ?_
              refine FL.val rfl rfl rfl (E.move k21179) ?_
              refine FL.val rfl rfl rfl (E.move (v := Value.int .i64 ((PF.laws_markCnf r83 1).2)) rfl) ?_
              refine FL.call rfl rfl rfl (E.call Tryz.call24 (A2 rfl rfl)) (w_laws_markResStepS S21212 hs v113 r107 cs115 (f21223.mono (sg_up (by omega) (Inc.rfl _))) ((PF.laws_markCnf r83 1).2)) ?_
              rintro e w21227 ⟨H21226, c21232, rfl, S21228, ns21234, hb21233, o21230⟩
              refine ⟨_, rfl, ?_⟩
              have o21231 := (f21223.mono (sg_mono (hi := w110.heap.size) (Inc.rfl _))).outside o21230
              have ns21234 := f21223.span eResStep_loc (by omega) ns21234 hb21233
              have h21229 := ns21234.rsl
              have f21235 := f21219.mono ((sg_mono (lo := wa.heap.size) (hi := wa.heap.size + 1) (Inc.rfl _)).tr (sg_keep o21231 (by omega)))
              have f21236 := f21220.mono ((bw_mono (hi := w77.heap.size) (Inc.rfl _)).tr (bw_keep o21231 (by omega)))
              have f21237 := f21221.mono ((sg_mono (lo := w86.heap.size) (hi := w86.heap.size + 1) (Inc.rfl _)).tr (sg_keep o21231 (by omega)))
              have f21238 := h21213.mono ((sg_mono (lo := w77.heap.size) (hi := w86.heap.size) (Inc.rfl _)).tr (sg_keep o21231 (by omega)))
              have f21239 := ns21218.mono ((sg_mono (lo := w77.heap.size) (hi := w86.heap.size) (Inc.rfl _)).tr (sg_keep o21231 (by omega)))
              have f21240 := f21224.mono ((sg_mono (lo := w110.heap.size) (hi := w129.heap.size) (Inc.rfl _)).tr (sg_keep o21231 (by omega)))
              have f21241 := f21225.mono ((sg_mono (lo := w110.heap.size) (hi := w129.heap.size) (Inc.rfl _)).tr (sg_keep o21231 (by omega)))
              refine FL.val rfl rfl rfl (E.assign (v := Value.int .i64 ((PF.laws_markResStepS r107 ((PF.laws_markCnf r83 1).2)).2)) rfl) ?_
              refine FL.nil ?_
              refine FW.seq ?_
              refine FW.seq ?_
              refine FW.region ?_
              refine FL.val rfl rfl rfl (E.move (v := Value.int .i64 ((PF.laws_markResStepS r107 ((PF.laws_markCnf r83 1).2)).2)) rfl) ?_
              refine FL.val rfl rfl rfl (E.lss rfl rfl) ?_
              refine FL.val rfl rfl rfl (E.move (v := Value.bool (decide ((PF.laws_markResStepS r107 ((PF.laws_markCnf r83 1).2)).2 < 0))) rfl) ?_
              obtain ⟨t21248, hqt21248, hp⟩ := bnd hp
              refine FL.cut 5 (fun f w => ∃ H : GH, St Ha wa H w [] ∧ Inc H21226 H ∧ f 1 = v1 ∧ f 2 = Value.pointer (some ⟨wa.heap.size, 0, none⟩) ∧ f 6 = v80 ∧ f 7 = Value.bool r74.2 ∧ f 10 = v132 ∧ f 11 = Value.bool r126.2 ∧ f 77 = Value.bool t21248) ?_ ?_
              ·
                clear hp; have hp := hqt21248; clear hqt21248
                rcases ifB hp with ⟨c21254, hp⟩ | ⟨c21254, hp⟩
                ·
                  refine FL.skip (wF_no rfl rfl rfl c21254) rfl ?_
                  refine FL.skip (wF_no rfl rfl rfl c21254) rfl ?_
                  refine FL.skip (wF_no rfl rfl rfl c21254) rfl ?_
                  refine FL.skip (wF_no rfl rfl rfl c21254) rfl ?_
                  obtain rfl := Option.some.inj hp
                  refine FL.val rfl rfl rfl (E.pickT rfl c21254 rfl) ?_
                  exact FL.nil ⟨rfl, _, S21228, (Inc.rfl _), k21174, k21175, k21176, k21177, k21180, k21181, rfl⟩
                ·
                  refine FL.val (wF_yes rfl rfl rfl c21254) rfl rfl (E.move k21180) ?_
                  refine FL.val (wF_yes rfl rfl rfl c21254) rfl rfl (E.move k21176) ?_
                  obtain ⟨r21255, hr21256, hp⟩ := bnd hp
                  refine FL.call (wF_yes rfl rfl rfl c21254) rfl rfl (E.call Tryz.call21 (A2 rfl rfl)) (w_laws_eqResStepS S21228.sl v132 r126.1 (f21240.mono sgI) v80 r74.1 (f21236.mono bwI) hr21256) ?_
                  rintro e w21257 ⟨rfl, r21258⟩
                  refine ⟨_, rfl, ?_⟩
                  have S21259 := S21228.call r21258
                  have z21260 := r21258.bel.size
                  refine FL.val (wF_yes rfl rfl rfl c21254) rfl rfl (E.not rfl) ?_
                  obtain rfl := Option.some.inj hp
                  refine FL.val rfl rfl rfl (E.pickF rfl c21254 rfl) ?_
                  exact FL.nil ⟨rfl, _, S21259, (Inc.rfl _), k21174, k21175, k21176, k21177, k21180, k21181, rfl⟩
              rintro f21253 w21252 ⟨H21249, S21250, i21251, k21261, k21262, k21263, k21264, k21265, k21266, k21267⟩
              refine FL.val rfl rfl rfl (E.move k21267) ?_
              refine FL.cut 4 (fun f w => ∃ H : GH, St Ha wa H w [] ∧ Inc H21249 H ∧ f 1 = v1 ∧ f 2 = Value.pointer (some ⟨wa.heap.size, 0, none⟩) ∧ f 6 = v80 ∧ f 7 = Value.bool r74.2 ∧ f 10 = v132 ∧ f 82 = Value.bool (bif t21248 then true else (!(r126.2 == r74.2)))) ?_ ?_
              ·
                rcases bcase t21248 with c21274 | c21274
                ·
                  refine FL.skip (wF_no rfl rfl rfl c21274) rfl ?_
                  refine FL.skip (wF_no rfl rfl rfl c21274) rfl ?_
                  refine FL.skip (wF_no rfl rfl rfl c21274) rfl ?_
                  refine FL.val rfl rfl rfl (E.pickT rfl c21274 rfl) ?_
                  exact FL.nil ⟨rfl, _, S21250, (Inc.rfl _), k21261, k21262, k21263, k21264, k21265, (congrArg Value.bool (bifT c21274).symm)⟩
                ·
                  refine FL.val (wF_yes rfl rfl rfl c21274) rfl rfl (E.move k21266) ?_
                  refine FL.val (wF_yes rfl rfl rfl c21274) rfl rfl (E.move k21264) ?_
                  refine FL.val (wF_yes rfl rfl rfl c21274) rfl rfl (E.neqB Tryz.runUnderlying4 rfl rfl) ?_
                  refine FL.val rfl rfl rfl (E.pickF rfl c21274 rfl) ?_
                  exact FL.nil ⟨rfl, _, S21250, (Inc.rfl _), k21261, k21262, k21263, k21264, k21265, (congrArg Value.bool (bifF c21274).symm)⟩
              rintro f21273 w21272 ⟨H21269, S21270, i21271, k21275, k21276, k21277, k21278, k21279, k21280⟩
              refine FL.nil ?_
              rcases ifB hp with ⟨c21281, hp⟩ | ⟨c21281, hp⟩
              ·
                refine FW.condT k21280 c21281 ?_
                refine FW.seq ?_
                refine FW.region ?_
                refine FL.val rfl rfl rfl (E.assign (v := Value.bool false) rfl) ?_
                refine FL.nil ?_
                refine FW.ret ?_
                obtain rfl := Option.some.inj hp
                exact ⟨.inr rfl, res1 rfl rfl ⟨rfl, S21270.back⟩⟩
              ·
                refine FW.condF k21280 c21281 ?_
                refine FW.skip ?_
                refine FW.seq ?_
                refine FW.region ?_
                refine FL.val rfl rfl rfl (E.assign (v := Value.int .i64 1) rfl) ?_
                refine FL.nil ?_
                refine FW.seq ?_
                refine FW.region ?_
                refine FL.val rfl rfl rfl (E.move k21279) ?_
                refine FL.val rfl rfl rfl (E.move (v := Value.int .i64 1) rfl) ?_
                refine FL.call rfl rfl rfl (E.call Tryz.call24 (A2 rfl rfl)) (w_laws_markResStepS S21270 hs v132 r126.1 cs134 (f21241.mono (sg_up (by omega) (i21251.tr i21271))) 1) ?_
                rintro e w21283 ⟨H21282, c21288, rfl, S21284, ns21290, hb21289, o21286⟩
                refine ⟨_, rfl, ?_⟩
                have o21287 := (f21241.mono (sg_mono (hi := w129.heap.size) (i21251.tr i21271))).outside o21286
                have ns21290 := f21241.span eResStep_loc (by omega) ns21290 hb21289
                have h21285 := ns21290.rsl
                have f21291 := f21235.mono ((sg_mono (lo := wa.heap.size) (hi := wa.heap.size + 1) (i21251.tr i21271)).tr (sg_keep o21287 (by omega)))
                have f21292 := f21236.mono ((bw_mono (hi := w77.heap.size) (i21251.tr i21271)).tr (bw_keep o21287 (by omega)))
                refine FL.val rfl rfl rfl (E.assign (v := Value.int .i64 ((PF.laws_markResStepS r126.1 1).2)) rfl) ?_
                refine FL.nil ?_
                refine FW.seq ?_
                refine FW.region ?_
                refine FL.val rfl rfl rfl (E.assign (v := Value.int .i64 1) rfl) ?_
                refine FL.nil ?_
                refine FW.seq ?_
                refine FW.region ?_
                refine FL.val rfl rfl rfl (E.move k21279) ?_
                refine FL.val rfl rfl rfl (E.move (v := Value.int .i64 1) rfl) ?_
                obtain ⟨r21293, hr21294, hp⟩ := bnd hp
                refine FL.call rfl rfl rfl (E.call Tryz.call25 (A2 rfl rfl)) (w_laws_heldResStepS S21284.sl v132 ((PF.laws_markResStepS r126.1 1).1) (h21285.mono sgI) 1 hr21294) ?_
                rintro e w21295 ⟨rfl, r21296⟩
                refine ⟨_, rfl, ?_⟩
                have S21297 := S21284.call r21296
                have z21298 := r21296.bel.size
                refine FL.val rfl rfl rfl (E.assign (v := Value.int .i64 r21293) rfl) ?_
                refine FL.nil ?_
                refine FW.seq ?_
                refine FW.seq ?_
                refine FW.region ?_
                refine FL.val rfl rfl rfl (E.move (v := Value.int .i64 r21293) rfl) ?_
                refine FL.val rfl rfl rfl (E.lss rfl rfl) ?_
                refine FL.nil ?_
                rcases ifB hp with ⟨c21299, hp⟩ | ⟨c21299, hp⟩
                ·
                  refine FW.condT rfl c21299 ?_
                  refine FW.seq ?_
                  refine FW.region ?_
                  refine FL.val rfl rfl rfl (E.assign (v := Value.bool false) rfl) ?_
                  refine FL.nil ?_
                  refine FW.ret ?_
                  obtain rfl := Option.some.inj hp
                  exact ⟨.inr rfl, res1 rfl rfl ⟨rfl, S21297.back⟩⟩
                ·
                  refine FW.condF rfl c21299 ?_
                  refine FW.skip ?_
                  refine FW.seq ?_
                  refine FW.seq ?_
                  refine FW.region ?_
                  refine FL.val rfl rfl rfl (E.move (v := Value.int .i64 r21293) rfl) ?_
                  refine FL.val rfl rfl rfl (E.move (v := Value.int .i64 ((PF.laws_markResStepS r126.1 1).2)) rfl) ?_
                  refine FL.val rfl rfl rfl (E.neq rfl rfl) ?_
                  refine FL.nil ?_
                  rcases ifB hp with ⟨c21300, hp⟩ | ⟨c21300, hp⟩
                  ·
                    refine FW.condT rfl c21300 ?_
                    refine FW.seq ?_
                    refine FW.region ?_
                    refine FL.val rfl rfl rfl (E.assign (v := Value.bool false) rfl) ?_
                    refine FL.nil ?_
                    refine FW.ret ?_
                    obtain rfl := Option.some.inj hp
                    exact ⟨.inr rfl, res1 rfl rfl ⟨rfl, S21297.back⟩⟩
                  ·
                    refine FW.condF rfl c21300 ?_
                    refine FW.skip ?_
                    refine FW.seq ?_
                    refine FW.region ?_
                    refine FL.val rfl rfl rfl (E.load k21276 (run_loadA Tryz.isAgg24 Tryz.sizeOf24 ((f21291.mono sgI).now S21297.sl) rfl)) ?_
                    obtain ⟨r21301, hr21302, hp⟩ := bnd hp
                    refine FL.call rfl rfl rfl (E.call Tryz.call18 (A1 rfl)) (w_laws_toCnf S21297.sl a0 v0_1 (p0_1.mono S21284.inc) hr21302) ?_
                    rintro e w21304 ⟨H21303, v21307, rfl, r21306, ⟨c21310, ns21309⟩⟩
                    refine ⟨_, rfl, ?_⟩
                    have h21308 := ns21309.rsl
                    have nv21311 : New H21282 [v21307] := New.of_up S21297.sl h21308.dom
                    have S21305 := S21297.call r21306
                    have z21312 := r21306.bel.size
                    have h21308 := h21308.mono (sg_of S21305.sl)
                    have ns21309 := ns21309.mono (sg_of S21305.sl)
                    refine FL.val rfl rfl rfl (E.move k21275) ?_
                    obtain ⟨r21313, hr21314, hp⟩ := bnd hp
                    refine FL.call rfl rfl rfl (E.call Tryz.call19 (A1 rfl)) (w_laws_toResStepS S21305.sl v1 a1 (p1.mono (S21284.inc.tr r21306.inc)) hr21314) ?_
                    rintro e w21316 ⟨H21315, v21319, n21320, cs21321, rfl, r21318, els21322, nd21323⟩
                    refine ⟨_, rfl, ?_⟩
                    have nv21324 : New H21303 cs21321 := New.of_up S21305.sl els21322.dom
                    obtain ⟨H21325, r21326, i21327, ns21330, nv21329⟩ := r21318.sealRowN (i := 0) (l' := []) rfl els21322 nd21323 (by decide) rfl
                    have h21328 := ns21330.rsl
                    have S21317 := S21305.call r21326.run
                    have z21331 := r21326.run.bel.size
                    have h21328 := h21328.mono (sg_of S21317.sl)
                    have ns21330 := ns21330.mono (sg_of S21317.sl)
                    obtain ⟨r21332, hr21333, hp⟩ := bnd hp
                    refine FL.call rfl rfl rfl (E.call Tryz.call20 (A2 rfl rfl)) (w_impl_DropWeakenings S21317.sl r21301 v21307 (h21308.mono (sgI.tr r21326.run.inc)) v21319 r21313 (h21328.mono sgI) hr21333) ?_
                    rintro e w21335 ⟨H21334, v21338, n21339, cs21340, rfl, r21337, els21341, nd21342⟩
                    refine ⟨_, rfl, ?_⟩
                    have nv21343 : New H21325 cs21340 := New.of_up S21317.sl els21341.dom
                    obtain ⟨H21344, r21345, i21346, ns21349, nv21348⟩ := r21337.sealRowN (i := 0) (l' := []) rfl els21341 nd21342 (by decide) rfl
                    have h21347 := ns21349.rsl
                    have S21336 := S21317.call r21345.run
                    have z21350 := r21345.run.bel.size
                    have h21347 := h21347.mono (sg_of S21336.sl)
                    have ns21349 := ns21349.mono (sg_of S21336.sl)
                    refine FL.val rfl rfl rfl (E.move (v := Value.tuple #[v21338, Value.bool r21332.2]) rfl) ?_
                    refine FL.val rfl rfl rfl (E.extract (i := 0) rfl rfl) ?_
                    refine FL.val rfl rfl rfl (E.extract (i := 1) rfl rfl) ?_
                    refine FL.val rfl rfl rfl (E.assign (v := v21338) rfl) ?_
                    refine FL.val rfl rfl rfl (E.assign (v := Value.bool r21332.2) rfl) ?_
                    refine FL.nil ?_
                    refine FW.seq ?_
                    refine FW.seq ?_
                    refine FW.region ?_
                    refine FL.val rfl rfl rfl (E.move (v := v21338) rfl) ?_
                    refine FL.val rfl rfl rfl (E.move k21277) ?_
                    obtain ⟨r21351, hr21352, hp⟩ := bnd hp
                    refine FL.call rfl rfl rfl (E.call Tryz.call21 (A2 rfl rfl)) (w_laws_eqResStepS S21336.sl v21338 r21332.1 (h21347.mono sgI) v80 r74.1 (f21292.mono (bwI.tr ((r21306.inc.tr r21326.run.inc).tr r21345.run.inc))) hr21352) ?_
                    rintro e w21353 ⟨rfl, r21354⟩
                    refine ⟨_, rfl, ?_⟩
                    have S21355 := S21336.call r21354
                    have z21356 := r21354.bel.size
                    refine FL.val rfl rfl rfl (E.not rfl) ?_
                    refine FL.val rfl rfl rfl (E.move (v := Value.bool (!r21351)) rfl) ?_
                    refine FL.cut 4 (fun f w => ∃ H : GH, St Ha wa H w [] ∧ Inc H21344 H ∧ f 10 = v132 ∧ f 13 = Value.int .i64 ((PF.laws_markResStepS r126.1 1).2) ∧ f 110 = Value.bool (bif (!r21351) then true else (!(r21332.2 == r74.2)))) ?_ ?_
                    ·
                      rcases bcase (!r21351) with c21363 | c21363
                      ·
                        refine FL.skip (wF_no rfl rfl rfl c21363) rfl ?_
                        refine FL.skip (wF_no rfl rfl rfl c21363) rfl ?_
                        refine FL.skip (wF_no rfl rfl rfl c21363) rfl ?_
                        refine FL.val rfl rfl rfl (E.pickT rfl c21363 rfl) ?_
                        exact FL.nil ⟨rfl, _, S21355, (Inc.rfl _), k21279, rfl, (congrArg Value.bool (bifT c21363).symm)⟩
                      ·
                        refine FL.val (wF_yes rfl rfl rfl c21363) rfl rfl (E.move (v := Value.bool r21332.2) rfl) ?_
                        refine FL.val (wF_yes rfl rfl rfl c21363) rfl rfl (E.move k21278) ?_
                        refine FL.val (wF_yes rfl rfl rfl c21363) rfl rfl (E.neqB Tryz.runUnderlying4 rfl rfl) ?_
                        refine FL.val rfl rfl rfl (E.pickF rfl c21363 rfl) ?_
                        exact FL.nil ⟨rfl, _, S21355, (Inc.rfl _), k21279, rfl, (congrArg Value.bool (bifF c21363).symm)⟩
                    rintro f21362 w21361 ⟨H21358, S21359, i21360, k21364, k21365, k21366⟩
                    refine FL.nil ?_
                    rcases ifB hp with ⟨c21367, hp⟩ | ⟨c21367, hp⟩
                    ·
                      refine FW.condT k21366 c21367 ?_
                      refine FW.seq ?_
                      refine FW.region ?_
                      refine FL.val rfl rfl rfl (E.assign (v := Value.bool false) rfl) ?_
                      refine FL.nil ?_
                      refine FW.ret ?_
                      obtain rfl := Option.some.inj hp
                      exact ⟨.inr rfl, res1 rfl rfl ⟨rfl, S21359.back⟩⟩
                    ·
                      refine FW.condF k21366 c21367 ?_
                      refine FW.skip ?_
                      refine FW.seq ?_
                      refine FW.region ?_
                      refine FL.val rfl rfl rfl (E.assign (v := Value.int .i64 1) rfl) ?_
                      refine FL.nil ?_
                      refine FW.seq ?_
                      refine FW.region ?_
                      refine FL.val rfl rfl rfl (E.move k21364) ?_
                      refine FL.val rfl rfl rfl (E.move (v := Value.int .i64 1) rfl) ?_
                      obtain ⟨r21368, hr21369, hp⟩ := bnd hp
                      refine FL.call rfl rfl rfl (E.call Tryz.call25 (A2 rfl rfl)) (w_laws_heldResStepS S21359.sl v132 ((PF.laws_markResStepS r126.1 1).1) (h21285.mono (sgI.tr (((r21306.inc.tr r21326.run.inc).tr r21345.run.inc).tr i21360))) 1 hr21369) ?_
                      rintro e w21370 ⟨rfl, r21371⟩
                      refine ⟨_, rfl, ?_⟩
                      have S21372 := S21359.call r21371
                      have z21373 := r21371.bel.size
                      refine FL.val rfl rfl rfl (E.assign (v := Value.int .i64 r21368) rfl) ?_
                      refine FL.nil ?_
                      refine FW.seq ?_
                      refine FW.seq ?_
                      refine FW.region ?_
                      refine FL.val rfl rfl rfl (E.move (v := Value.int .i64 r21368) rfl) ?_
                      refine FL.val rfl rfl rfl (E.lss rfl rfl) ?_
                      refine FL.nil ?_
                      rcases ifB hp with ⟨c21374, hp⟩ | ⟨c21374, hp⟩
                      ·
                        refine FW.condT rfl c21374 ?_
                        refine FW.seq ?_
                        refine FW.region ?_
                        refine FL.val rfl rfl rfl (E.assign (v := Value.bool false) rfl) ?_
                        refine FL.nil ?_
                        refine FW.ret ?_
                        obtain rfl := Option.some.inj hp
                        exact ⟨.inr rfl, res1 rfl rfl ⟨rfl, S21372.back⟩⟩
                      ·
                        refine FW.condF rfl c21374 ?_
                        refine FW.skip ?_
                        refine FW.seq ?_
                        refine FW.seq ?_
                        refine FW.region ?_
                        refine FL.val rfl rfl rfl (E.move (v := Value.int .i64 r21368) rfl) ?_
                        refine FL.val rfl rfl rfl (E.move k21365) ?_
                        refine FL.val rfl rfl rfl (E.neq rfl rfl) ?_
                        refine FL.nil ?_
                        rcases ifB hp with ⟨c21375, hp⟩ | ⟨c21375, hp⟩
                        ·
                          refine FW.condT rfl c21375 ?_
                          refine FW.seq ?_
                          refine FW.region ?_
                          refine FL.val rfl rfl rfl (E.assign (v := Value.bool false) rfl) ?_
                          refine FL.nil ?_
                          refine FW.ret ?_
                          obtain rfl := Option.some.inj hp
                          exact ⟨.inr rfl, res1 rfl rfl ⟨rfl, S21372.back⟩⟩
                        ·
                          refine FW.condF rfl c21375 ?_
                          refine FW.skip ?_
                          refine FW.seq ?_
                          refine FW.region ?_
                          refine FL.val rfl rfl rfl (E.assign (v := Value.bool true) rfl) ?_
                          refine FL.nil ?_
                          refine FW.ret ?_
                          obtain rfl := Option.some.inj hp
                          exact ⟨.inr rfl, res1 rfl rfl ⟨rfl, S21372.back⟩⟩

end Go.Proofs
