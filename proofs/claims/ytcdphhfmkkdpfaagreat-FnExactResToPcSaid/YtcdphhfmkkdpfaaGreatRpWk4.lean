/- Part of the walks and plain laws behind the claim: it proves helpers, under no condition beyond their own. -/
import Derived.Test.YtcdphhfmkkdpfaaGreatRpWk3
set_option linter.unusedVariables false
set_option maxRecDepth 100000
namespace Go.Proofs
open Go.Mr Go.Pu Go.PF Go.RowKit

@[reducible] def p_impl_translator_step (H0 : GH) (w0 : World) (Ha : GH) (L : List MO) (b0 : Nat) (q0_0 : Addr) (v0_3 : Value) (n0_3 : Nat) (k0_3 : List Value) (r : (Int × translator)) : Ending → World → Prop :=
 fun e w' => ∃ H' : GH, ∃ v0_1r : Value, ∃ n0_1r : Nat, ∃ c0_1r : List Value, ∃ v0_2r : Value, ∃ n0_2r : Nat, ∃ c0_2r : List Value, e = .returned (Value.int .i64 r.1) ∧ (St H0 w0 H' w' (.box b0 126 [Value.pointer (some q0_0), v0_1r, v0_2r, v0_3] :: .row 129 6 v0_1r n0_1r c0_1r :: .row 139 1 v0_2r n0_2r c0_2r :: .row 3 1 v0_3 n0_3 k0_3 :: L) ∧ Inc Ha H') ∧ Els (up w0.heap.size H') ePcStep 6 c0_1r r.2.steps ∧ (bl c0_1r).Nodup ∧ Els H' (eL eI 1) 1 c0_2r r.2.polys
set_option maxHeartbeats 4000000 in
theorem w_impl_translator_step {H0 Ha : GH} {w0 wa : World} {L : List MO} {b0 : Nat} {q0_0 : Addr} {v0_0_3 : Value} {v0_0_4 : Value} {v0_1 : Value} {n0_1 : Nat} {k0_1 : List Value} {v0_2 : Value} {n0_2 : Nat} {k0_2 : List Value} {v0_3 : Value} {n0_3 : Nat} {k0_3 : List Value} (S0 : St H0 w0 Ha wa (.box b0 126 [Value.pointer (some q0_0), v0_1, v0_2, v0_3] :: .row 129 6 v0_1 n0_1 k0_1 :: .row 139 1 v0_2 n0_2 k0_2 :: .row 3 1 v0_3 n0_3 k0_3 :: L)) (a0 : translator) (p0_0_3 : RSl Ha (eL eI 1) 1 v0_0_3 a0.algebra.f.clauses) (p0_0_4 : RSl Ha (eL eI 1) 1 v0_0_4 a0.algebra.q) (c0_0 : CAt Ha q0_0 [Value.int .i64 a0.algebra.ring.p, Value.int .i64 a0.algebra.ring.vars, Value.int .i64 a0.algebra.f.vars, v0_0_3, v0_0_4]) (p0_1 : Els (up w0.heap.size Ha) ePcStep 6 k0_1 a0.steps) (d0_1 : (bl k0_1).Nodup) (p0_2 : Els Ha (eL eI 1) 1 k0_2 a0.polys) (p0_3 : Els (up w0.heap.size Ha) eI 1 k0_3 a0.at_) (v1 : Value) (a1 : List ResStep) (p1 : RSl Ha eResStep 4 v1 a1) (a2 : ResStep) (v2_0 : Value) (p2_0 : RSl Ha eI 1 v2_0 a2.clause) {r : (Int × translator)} (hp : (PF.impl_translator_step a0 a1 a2) = some r) :
  Calls Tryz.prog 169 #[Value.pointer (some (⟨b0, 0, none⟩ : Addr)), v1, Value.agg #[v2_0, Value.int .i64 a2.left, Value.int .i64 a2.right, Value.int .i64 a2.pivot]] wa (p_impl_translator_step H0 w0 Ha L b0 q0_0 v0_3 n0_3 k0_3 r) := by
 unfold PF.impl_translator_step at hp
 refine calls_go (N := 123) (args := [Value.pointer (some (⟨b0, 0, none⟩ : Addr)), v1, Value.agg #[v2_0, Value.int .i64 a2.left, Value.int .i64 a2.right, Value.int .i64 a2.pivot]]) Tryz.func169 rfl rfl rfl ?_
 refine FW.seq (FW.region ?_)
 obtain ⟨b21, w22, run23, S24⟩ := S0.box (P := Tryz.prog) 89 [v2_0, Value.int .i64 a2.left, Value.int .i64 a2.right, Value.int .i64 a2.pivot] (v := Value.agg #[v2_0, Value.int .i64 a2.left, Value.int .i64 a2.right, Value.int .i64 a2.pivot]) rfl (ones_cons p2_0.one (ones_cons rfl (ones_cons rfl (ones_cons rfl ones_nil))))
 refine FL.v (E.box rfl run23) ?_
 obtain ⟨H25, S26, i27, at28⟩ := S24.sealBox (i := 0) (l' := (.box b0 126 [Value.pointer (some q0_0), v0_1, v0_2, v0_3] :: .row 129 6 v0_1 n0_1 k0_1 :: .row 139 1 v0_2 n0_2 k0_2 :: .row 3 1 v0_3 n0_3 k0_3 :: L)) rfl rfl
 refine FL.v (E.assign (v := Value.int .i64 0) rfl) ?_
 refine FL.nil (FW.seq (FW.block (FW.seq (FW.region ?_))))
 refine FL.v (E.load rfl (run_loadA Tryz.isAgg89 Tryz.sizeOf89 (at28.now S26.sl) rfl)) ?_
 refine FL.call rfl rfl rfl (E.call Tryz.call87 (A1 rfl)) (w_impl_ResStep_isAxiom S26.sl a2 v2_0 (p2_0.mono i27)) ?_
 rintro e w29 ⟨rfl, r30⟩
 refine ⟨_, rfl, ?_⟩
 have S31 := S26.call r30
 refine FL.v (E.assign (v := Value.bool (PF.impl_ResStep_isAxiom a2)) rfl) ?_
 refine FL.nil ?_
 rcases ifB hp with ⟨c32, hp⟩ | ⟨c32, hp⟩
 ·
  refine FW.condT rfl c32 ?_
  refine FW.seq ?_
  obtain ⟨x43, hx44, hp⟩ := bnd hp
  obtain ⟨s91, hq91, hp⟩ := bnd hp
  refine FW.drawB (Sl H25) (fun f w => ∃ H : GH, ∃ v47 : Value, ∃ n48 : Nat, ∃ cs49 : List Value, ∃ v52 : Value, ∃ n53 : Nat, ∃ cs54 : List Value, St H0 w0 H w (.box b0 126 [Value.pointer (some q0_0), v47, v52, v0_3] :: .row 129 6 v47 n48 cs49 :: .row 139 1 v52 n53 cs54 :: .row 3 1 v0_3 n0_3 k0_3 :: L) ∧ Inc H25 H ∧ Els (up w0.heap.size H) ePcStep 6 cs49 s91.1 ∧ Els H (eL eI 1) 1 cs54 s91.2.1 ∧ (bl cs49).Nodup ∧ f 6 = Value.int .i64 s91.2.2) (by kernel_rfl) S31.sl ?_ ?_
  ·
   intro w33 r34
   have S35 := S31.call r34
   refine FB.phase [] (fun w => WAt w (Addr.add ⟨b0, 0, none⟩ 0) [Value.pointer (some q0_0)]) ?_
   refine FB.t (i := 0) (bs 17 1) rfl (SP.on ((S35.box_now (i := 0) rfl).sub (j := 0) (n := 1) (c := [Value.pointer (some q0_0)]) rfl) (SP.nil S35.sl)) rfl (fun w' hw' => (E.move (v := Value.pointer (some (⟨b0, 0, none⟩ : Addr))) rfl)) ?_
   refine FB.t (i := 1) (bs 17 3) rfl (SP.on ((S35.box_now (i := 0) rfl).sub (j := 0) (n := 1) (c := [Value.pointer (some q0_0)]) rfl) (SP.nil S35.sl)) rfl (fun w' hw' => (E.fieldAddr tf89_2 rfl)) ?_
   refine FB.t (i := 2) (bs 17 7) rfl (SP.on ((S35.box_now (i := 0) rfl).sub (j := 0) (n := 1) (c := [Value.pointer (some q0_0)]) rfl) (SP.nil S35.sl)) rfl (fun w' hw' => (E.load rfl (run_load1 Tryz.isAgg3 (at28.now hw') rfl))) ?_
   refine FB.t (i := 3) (bs 17 15) rfl (SP.on ((S35.box_now (i := 0) rfl).sub (j := 0) (n := 1) (c := [Value.pointer (some q0_0)]) rfl) (SP.nil S35.sl)) rfl (fun w' hw' => (E.build (B2 rfl rfl) (run_build _ 129 #[(0, Value.int .i64 1), (2, Value.int .i64 a2.right)] #[Value.int .i64 1, Value.slice none 0 0, Value.int .i64 a2.right, Value.int .i64 0, Value.int .i64 0, Value.int .i64 0] (by rfl)))) ?_
   refine FB.t (i := 4) (bs 17 31) rfl (SP.on ((S35.box_now (i := 0) rfl).sub (j := 0) (n := 1) (c := [Value.pointer (some q0_0)]) rfl) (SP.nil S35.sl)) rfl (fun w' hw' => (E.move (v := Value.pointer (some (⟨b0, 0, none⟩ : Addr))) rfl)) ?_
   refine FB.t (i := 5) (bs 17 63) rfl (SP.on ((S35.box_now (i := 0) rfl).sub (j := 0) (n := 1) (c := [Value.pointer (some q0_0)]) rfl) (SP.nil S35.sl)) rfl (fun w' hw' => (E.nilCheck rfl)) ?_
   refine FB.t (i := 6) (bs 17 127) rfl (SP.on ((S35.box_now (i := 0) rfl).sub (j := 0) (n := 1) (c := [Value.pointer (some q0_0)]) rfl) (SP.nil S35.sl)) rfl (fun w' hw' => (E.fieldAddr tf126_0 rfl)) ?_
   refine FB.p (i := 7) (bs 17 255) 0 [8, 9, 10, 13, 14, 15, 16] rfl (SP.on ((S35.box_now (i := 0) rfl).sub (j := 0) (n := 1) (c := [Value.pointer (some q0_0)]) rfl) (SP.nil S35.sl)) rfl rfl (fun w' hw' => (E.load rfl (run_load0 Tryz.isAgg123 hw' rfl))) ?_
   refine FB.t (i := 8) (bs 17 511) rfl (SP.on ((S35.box_now (i := 0) rfl).sub (j := 0) (n := 1) (c := [Value.pointer (some q0_0)]) rfl) (SP.nil S35.sl)) rfl (fun w' hw' => (E.nilCheck rfl)) ?_
   refine FB.t (i := 9) (bs 17 1023) rfl (SP.on ((S35.box_now (i := 0) rfl).sub (j := 0) (n := 1) (c := [Value.pointer (some q0_0)]) rfl) (SP.nil S35.sl)) rfl (fun w' hw' => (E.fieldAddr tf144_2 rfl)) ?_
   refine FB.t (i := 10) (bs 17 2047) rfl (SP.on ((S35.box_now (i := 0) rfl).sub (j := 0) (n := 1) (c := [Value.pointer (some q0_0)]) rfl) (SP.nil S35.sl)) rfl (fun w' hw' => (E.load rfl (run_load1 Tryz.isAgg124 ((c0_0.mono i27).now hw') rfl))) ?_
   refine FB.t (i := 11) (bs 17 4095) rfl (SP.on ((S35.box_now (i := 0) rfl).sub (j := 0) (n := 1) (c := [Value.pointer (some q0_0)]) rfl) (SP.nil S35.sl)) rfl (fun w' hw' => (E.fieldAddr tf89_2 rfl)) ?_
   refine FB.t (i := 12) (bs 17 8191) rfl (SP.on ((S35.box_now (i := 0) rfl).sub (j := 0) (n := 1) (c := [Value.pointer (some q0_0)]) rfl) (SP.nil S35.sl)) rfl (fun w' hw' => (E.load rfl (run_load1 Tryz.isAgg3 (at28.now hw') rfl))) ?_
   obtain ⟨p36, cs37, pt38, l40, at41, rel42⟩ := p0_0_4.at hx44
   obtain ⟨v45, rfl, h46⟩ := eL_open rel42
   refine FB.t (i := 13) (bs 17 16383) rfl (SP.on ((S35.box_now (i := 0) rfl).sub (j := 0) (n := 1) (c := [Value.pointer (some q0_0)]) rfl) (SP.nil S35.sl)) rfl (fun w' hw' => (E.indexAddr te124 rfl rfl pt38)) ?_
   refine FB.t (i := 14) (bs 17 32767) rfl (SP.on ((S35.box_now (i := 0) rfl).sub (j := 0) (n := 1) (c := [Value.pointer (some q0_0)]) rfl) (SP.nil S35.sl)) rfl (fun w' hw' => (E.load rfl (run_load0 Tryz.isAgg139 ((at41.mono i27).now hw') rfl))) ?_
   refine FB.all1 (i := 15) (by kernel_rfl) ?_
   ·
    obtain ⟨R91, hR91⟩ : ∃ R91 : ((List PcStep) × (List (List Int)) × Int) → Ending → World → Prop, R91 = (fun s91 e w => ∃ H : GH, ∃ v92 : Value, ∃ n93 : Nat, ∃ cs94 : List Value, ∃ v97 : Value, ∃ n98 : Nat, ∃ cs99 : List Value, e = Ending.returned (Value.int .i64 s91.2.2) ∧ St H0 w0 H w (.box b0 126 [Value.pointer (some q0_0), v92, v97, v0_3] :: .row 129 6 v92 n93 cs94 :: .row 139 1 v97 n98 cs99 :: .row 3 1 v0_3 n0_3 k0_3 :: L) ∧ Inc H25 H ∧ Els (up w0.heap.size H) ePcStep 6 cs94 s91.1 ∧ Els H (eL eI 1) 1 cs99 s91.2.1 ∧ (bl cs94).Nodup) := ⟨_, rfl⟩
    have hc91 : Calls Tryz.prog 219 #[Value.pointer (some (⟨b0, 0, none⟩ : Addr)), Value.agg #[Value.int .i64 1, Value.slice none 0 0, Value.int .i64 a2.right, Value.int .i64 0, Value.int .i64 0, Value.int .i64 0], v45] w33 (R91 s91) := by
     clear hp; have hp := hq91; clear hq91
     refine calls_go (N := 36) (args := [Value.pointer (some (⟨b0, 0, none⟩ : Addr)), Value.agg #[Value.int .i64 1, Value.slice none 0 0, Value.int .i64 a2.right, Value.int .i64 0, Value.int .i64 0, Value.int .i64 0], v45]) Tryz.func219 rfl rfl rfl ?_
     refine FW.seq (FW.region ?_)
     obtain ⟨b101, w102, run103, S104⟩ := S35.box (P := Tryz.prog) 129 [Value.int .i64 1, Value.slice none 0 0, Value.int .i64 a2.right, Value.int .i64 0, Value.int .i64 0, Value.int .i64 0] (v := Value.agg #[Value.int .i64 1, Value.slice none 0 0, Value.int .i64 a2.right, Value.int .i64 0, Value.int .i64 0, Value.int .i64 0]) rfl (ones_cons rfl (ones_cons rfl (ones_cons rfl (ones_cons rfl (ones_cons rfl (ones_cons rfl ones_nil))))))
     refine FL.v (E.box rfl run103) ?_
     refine FL.v (E.assign (v := Value.int .i64 0) rfl) ?_
     refine FL.nil (FW.seq (FW.region ?_))
     refine FL.v (E.move (v := v45) rfl) ?_
     obtain ⟨r105, hr106, hp⟩ := bnd hp
     refine FL.call rfl rfl rfl (E.call Tryz.call110 (A1 rfl)) (w_impl_dense_terms S104.sl v45 x43 (h46.mono i27) hr106) ?_
     rintro e w108 ⟨H107, v111, n112, cs113, rfl, r110, els114⟩
     refine ⟨_, rfl, ?_⟩
     have els114 := els114.mono (up_le S104.size)
     have S109 := S104.join (l' := (.row 147 2 v111 n112 cs113 :: .box b101 129 [Value.int .i64 1, Value.slice none 0 0, Value.int .i64 a2.right, Value.int .i64 0, Value.int .i64 0, Value.int .i64 0] :: .box b0 126 [Value.pointer (some q0_0), v0_1, v0_2, v0_3] :: .row 129 6 v0_1 n0_1 k0_1 :: .row 139 1 v0_2 n0_2 k0_2 :: .row 3 1 v0_3 n0_3 k0_3 :: L)) r110 rfl
     refine FL.v (E.fieldAddr tf129_1 rfl) ?_
     obtain ⟨w115, run116, S117⟩ := S109.store (P := Tryz.prog) (t := 68) (i := 1) (j := 1) (cs' := [Value.int .i64 1, v111, Value.int .i64 a2.right, Value.int .i64 0, Value.int .i64 0, Value.int .i64 0]) (l' := (.row 147 2 v111 n112 cs113 :: .box b101 129 [Value.int .i64 1, v111, Value.int .i64 a2.right, Value.int .i64 0, Value.int .i64 0, Value.int .i64 0] :: .box b0 126 [Value.pointer (some q0_0), v0_1, v0_2, v0_3] :: .row 129 6 v0_1 n0_1 k0_1 :: .row 139 1 v0_2 n0_2 k0_2 :: .row 3 1 v0_3 n0_3 k0_3 :: L)) (v := v111) (c := [v111]) rfl Tryz.sizeOf68 (Ln.cells (S109.row_ln (i := 0) rfl)) rfl (ones_cons (Ln.one (S109.row_ln (i := 0) rfl)) ones_nil) (Nat.le_of_ble_eq_true rfl) rfl rfl
     refine FL.act rfl rfl (E.store rfl rfl run116) ?_
     refine FL.nil (FW.seq ?_)
     obtain ⟨xs152, hz153, hp⟩ := bnd hp
     refine FW.drawB (Sl H107) (fun f w => ∃ H : GH, ∃ v176 : Value, ∃ n177 : Nat, ∃ cs178 : List Value, St H0 w0 H w (.box b0 126 [Value.pointer (some q0_0), v176, v0_2, v0_3] :: .row 129 6 v176 n177 cs178 :: .row 139 1 v0_2 n0_2 k0_2 :: .row 3 1 v0_3 n0_3 k0_3 :: L) ∧ Inc H107 H ∧ Els (up w0.heap.size H) ePcStep 6 cs178 xs152 ∧ (bl cs178).Nodup ∧ f 0 = Value.pointer (some (⟨b0, 0, none⟩ : Addr)) ∧ f 2 = v45) (by kernel_rfl) S117.sl ?_ ?_
     ·
      intro w118 r119
      have S120 := S117.call r119
      refine FB.phase [6] (fun w => WAt w (⟨b101, 0, none⟩ : Addr) [Value.int .i64 1, v111, Value.int .i64 a2.right, Value.int .i64 0, Value.int .i64 0, Value.int .i64 0]) ?_
      refine FB.phase [10] (fun w => WAt w (Addr.add ⟨b0, 0, none⟩ 1) [v0_1]) ?_
      refine FB.t (i := 0) (bs 11 1) rfl (SP.on ((S120.box_now (i := 2) rfl).sub (j := 1) (n := 1) (c := [v0_1]) rfl) (SP.on (S120.box_now (i := 1) rfl) (SP.nil S120.sl))) rfl (fun w' hw' => (E.move (v := Value.pointer (some (⟨b0, 0, none⟩ : Addr))) rfl)) ?_
      refine FB.t (i := 1) (bs 11 3) rfl (SP.on ((S120.box_now (i := 2) rfl).sub (j := 1) (n := 1) (c := [v0_1]) rfl) (SP.on (S120.box_now (i := 1) rfl) (SP.nil S120.sl))) rfl (fun w' hw' => (E.move (v := Value.pointer (some (⟨b0, 0, none⟩ : Addr))) rfl)) ?_
      refine FB.t (i := 2) (bs 11 7) rfl (SP.on ((S120.box_now (i := 2) rfl).sub (j := 1) (n := 1) (c := [v0_1]) rfl) (SP.on (S120.box_now (i := 1) rfl) (SP.nil S120.sl))) rfl (fun w' hw' => (E.nilCheck rfl)) ?_
      refine FB.t (i := 3) (bs 11 15) rfl (SP.on ((S120.box_now (i := 2) rfl).sub (j := 1) (n := 1) (c := [v0_1]) rfl) (SP.on (S120.box_now (i := 1) rfl) (SP.nil S120.sl))) rfl (fun w' hw' => (E.fieldAddr tf126_1 rfl)) ?_
      refine FB.p (i := 4) (bs 11 31) 0 [7, 8, 9, 10] rfl (SP.on ((S120.box_now (i := 2) rfl).sub (j := 1) (n := 1) (c := [v0_1]) rfl) (SP.on (S120.box_now (i := 1) rfl) (SP.nil S120.sl))) rfl rfl (fun w' hw' => (E.load rfl (run_load0 Tryz.isAgg55 hw' rfl))) ?_
      refine FB.p (i := 5) (bs 11 63) 1 [6, 7, 8, 9, 10] rfl (SP.on ((S120.box_now (i := 2) rfl).sub (j := 1) (n := 1) (c := [v0_1]) rfl) (SP.on (S120.box_now (i := 1) rfl) (SP.nil S120.sl))) rfl rfl (fun w' hw' => (E.load rfl (run_loadA Tryz.isAgg129 Tryz.sizeOf129 hw' rfl))) ?_
      refine FB.all1 (i := 6) (by kernel_rfl) ?_
      ·
       obtain ⟨H140, S141, i142, h143, nv145⟩ := S120.sealRowU (i := 0) (l' := (.box b101 129 [Value.int .i64 1, v111, Value.int .i64 a2.right, Value.int .i64 0, Value.int .i64 0, Value.int .i64 0] :: .box b0 126 [Value.pointer (some q0_0), v0_1, v0_2, v0_3] :: .row 129 6 v0_1 n0_1 k0_1 :: .row 139 1 v0_2 n0_2 k0_2 :: .row 3 1 v0_3 n0_3 k0_3 :: L)) rfl els114 (by decide) rfl
       obtain ⟨v146, w147, run148, S149⟩ := S141.buildSlice (P := Tryz.prog) te55 [Value.agg #[Value.int .i64 1, v111, Value.int .i64 a2.right, Value.int .i64 0, Value.int .i64 0, Value.int .i64 0]] (parts := #[(0, Value.agg #[Value.int .i64 1, v111, Value.int .i64 a2.right, Value.int .i64 0, Value.int .i64 0, Value.int .i64 0])]) (cells := [Value.int .i64 1, v111, Value.int .i64 a2.right, Value.int .i64 0, Value.int .i64 0, Value.int .i64 0]) rfl (szs_cons rfl szs_nil) (fc_cons rfl fc_nil) (ones_cons rfl (ones_cons h143.one (ones_cons rfl (ones_cons rfl (ones_cons rfl (ones_cons rfl ones_nil)))))) (Nat.le_of_ble_eq_true rfl)
       have els150 : Els (up w0.heap.size H140) ePcStep 6 [Value.int .i64 1, v111, Value.int .i64 a2.right, Value.int .i64 0, Value.int .i64 0, Value.int .i64 0] [(PcStep.mk 1 r105 a2.right 0 0 0)] := (Els.snoc (H := (up w0.heap.size H140)) (E := ePcStep) (k := 6) (c := [Value.int .i64 1, v111, Value.int .i64 a2.right, Value.int .i64 0, Value.int .i64 0, Value.int .i64 0]) (x := (PcStep.mk 1 r105 a2.right 0 0 0)) Els.nil rfl ⟨_, rfl, h143⟩)
       have nd151 : (bl [Value.int .i64 1, v111, Value.int .i64 a2.right, Value.int .i64 0, Value.int .i64 0, Value.int .i64 0]).Nodup := by exact nd_one v111
       refine FC.val (l' := (bs 11 127)) rfl (by kernel_rfl) rfl rfl rfl (E.buildSlice (B1 rfl) run148) ?_
       refine ⟨(SP.on ((S149.box_now (i := 2) rfl).sub (j := 1) (n := 1) (c := [v0_1]) rfl) (SP.o (SP.nil (Sl.of_inc i142 S149.sl)))), ?_⟩
       refine FB.all1 (i := 7) (by kernel_rfl) ?_
       ·
        obtain ⟨v154, w157, n155, cs156, run158, S159, els160, ce161⟩ := S149.appendO (P := Tryz.prog) te55 (i := 3) (j := 0) rfl (p0_1.mono (up_mono ((i27.tr r110.run.inc).tr i142))) rfl els150 hz153
        have S159 : St H0 w0 H140 w157 (.row 129 6 v146 1 [Value.int .i64 1, v111, Value.int .i64 a2.right, Value.int .i64 0, Value.int .i64 0, Value.int .i64 0] :: .box b101 129 [Value.int .i64 1, v111, Value.int .i64 a2.right, Value.int .i64 0, Value.int .i64 0, Value.int .i64 0] :: .box b0 126 [Value.pointer (some q0_0), v0_1, v0_2, v0_3] :: .row 129 6 v154 n155 cs156 :: .row 139 1 v0_2 n0_2 k0_2 :: .row 3 1 v0_3 n0_3 k0_3 :: L) := S159
        have nd162 : (bl cs156).Nodup := by rw [ce161]; exact nd_app d0_1 nd151 (Els.dom (p0_1.mono (upI.tr (i27.tr r110.run.inc)))) (by exact nv145)
        have S163 : St H0 w0 H140 w157 (.box b101 129 [Value.int .i64 1, v111, Value.int .i64 a2.right, Value.int .i64 0, Value.int .i64 0, Value.int .i64 0] :: .box b0 126 [Value.pointer (some q0_0), v0_1, v0_2, v0_3] :: .row 129 6 v154 n155 cs156 :: .row 139 1 v0_2 n0_2 k0_2 :: .row 3 1 v0_3 n0_3 k0_3 :: L) := S159.drop 0
        refine FC.val (l' := (bs 11 255)) rfl (by kernel_rfl) rfl rfl rfl (E.append rfl rfl run158) ?_
        refine ⟨(SP.on ((S163.box_now (i := 1) rfl).sub (j := 1) (n := 1) (c := [v0_1]) rfl) (SP.o (SP.nil (Sl.of_inc i142 S163.sl)))), ?_⟩
        refine FB.t (i := 8) (bs 11 511) rfl (SP.on ((S163.box_now (i := 1) rfl).sub (j := 1) (n := 1) (c := [v0_1]) rfl) (SP.o (SP.nil (Sl.of_inc i142 S163.sl)))) rfl (fun w' hw' => (E.nilCheck rfl)) ?_
        refine FB.t (i := 9) (bs 11 1023) rfl (SP.on ((S163.box_now (i := 1) rfl).sub (j := 1) (n := 1) (c := [v0_1]) rfl) (SP.o (SP.nil (Sl.of_inc i142 S163.sl)))) rfl (fun w' hw' => (E.fieldAddr tf126_1 rfl)) ?_
        refine FB.all1 (i := 10) (by kernel_rfl) ?_
        ·
         obtain ⟨w173, run174, S175⟩ := S163.store (P := Tryz.prog) (t := 55) (i := 1) (j := 1) (cs' := [Value.pointer (some q0_0), v154, v0_2, v0_3]) (l' := (.box b101 129 [Value.int .i64 1, v111, Value.int .i64 a2.right, Value.int .i64 0, Value.int .i64 0, Value.int .i64 0] :: .box b0 126 [Value.pointer (some q0_0), v154, v0_2, v0_3] :: .row 129 6 v154 n155 cs156 :: .row 139 1 v0_2 n0_2 k0_2 :: .row 3 1 v0_3 n0_3 k0_3 :: L)) (v := v154) (c := [v154]) rfl Tryz.sizeOf55 (Ln.cells (S163.row_ln (i := 2) rfl)) rfl (ones_cons (Ln.one (S163.row_ln (i := 2) rfl)) ones_nil) (Nat.le_of_ble_eq_true rfl) rfl rfl
         refine FC.act (l' := (bs 11 2047)) rfl (by kernel_rfl) rfl rfl (E.store rfl rfl run174) ?_
         refine ⟨(SP.o (SP.o (SP.nil (Sl.of_inc i142 S175.sl)))), ?_⟩
         exact FB.done (by kernel_rfl) ⟨_, _, _, _, (S175.selT (a := [.box b101 129 [Value.int .i64 1, v111, Value.int .i64 a2.right, Value.int .i64 0, Value.int .i64 0, Value.int .i64 0], .box b0 126 [Value.pointer (some q0_0), v154, v0_2, v0_3], .row 129 6 v154 n155 cs156, .row 139 1 v0_2 n0_2 k0_2, .row 3 1 v0_3 n0_3 k0_3]) (l' := [.box b0 126 [Value.pointer (some q0_0), v154, v0_2, v0_3], .row 129 6 v154 n155 cs156, .row 139 1 v0_2 n0_2 k0_2, .row 3 1 v0_3 n0_3 k0_3]) [1, 2, 3, 4] (by decide) rfl), i142, els160, nd162, rfl, rfl⟩
     ·
      rintro f185 w184 ⟨H181, v176, n177, cs178, S182, i183, els179, nd180, k186, k187⟩
      refine FW.seq (FW.region ?_)
      refine FL.v (E.move k186) ?_
      refine FL.v (E.move k186) ?_
      refine FL.v (E.nilCheck rfl) ?_
      refine FL.v (E.fieldAddr tf126_2 rfl) ?_
      refine FL.v (E.load rfl (run_load1 Tryz.isAgg124 (S182.box_now (i := 0) rfl) rfl)) ?_
      refine FL.v (E.move k187) ?_
      obtain ⟨v188, w189, run190, S191⟩ := S182.buildSlice (P := Tryz.prog) te124 [v45] (parts := #[(0, v45)]) (cells := [v45]) rfl (szs_cons (cells_size h46.cells) szs_nil) (fc_cons h46.cells fc_nil) (ones_cons h46.one ones_nil) (Nat.le_of_ble_eq_true rfl)
      have els192 : Els H181 (eL eI 1) 1 [v45] [x43] := (Els.snoc (H := H181) (E := (eL eI 1)) (k := 1) (c := [v45]) (x := x43) Els.nil rfl ⟨_, rfl, (h46.mono ((i27.tr r110.run.inc).tr i183))⟩)
      refine FL.v (E.buildSlice (B1 rfl) run190) ?_
      obtain ⟨xs193, hz194, hp⟩ := bnd hp
      obtain ⟨v195, w198, n196, cs197, run199, S200, els201, ce202⟩ := S191.appendO (P := Tryz.prog) te124 (i := 3) (j := 0) rfl (p0_2.mono ((i27.tr r110.run.inc).tr i183)) rfl els192 hz194
      have S200 : St H0 w0 H181 w198 (.row 139 1 v188 1 [v45] :: .box b0 126 [Value.pointer (some q0_0), v176, v0_2, v0_3] :: .row 129 6 v176 n177 cs178 :: .row 139 1 v195 n196 cs197 :: .row 3 1 v0_3 n0_3 k0_3 :: L) := S200
      have S203 : St H0 w0 H181 w198 (.box b0 126 [Value.pointer (some q0_0), v176, v0_2, v0_3] :: .row 129 6 v176 n177 cs178 :: .row 139 1 v195 n196 cs197 :: .row 3 1 v0_3 n0_3 k0_3 :: L) := S200.drop 0
      refine FL.v (E.append rfl rfl run199) ?_
      refine FL.v (E.nilCheck rfl) ?_
      refine FL.v (E.fieldAddr tf126_2 rfl) ?_
      obtain ⟨w204, run205, S206⟩ := S203.store (P := Tryz.prog) (t := 124) (i := 0) (j := 2) (cs' := [Value.pointer (some q0_0), v176, v195, v0_3]) (l' := (.box b0 126 [Value.pointer (some q0_0), v176, v195, v0_3] :: .row 129 6 v176 n177 cs178 :: .row 139 1 v195 n196 cs197 :: .row 3 1 v0_3 n0_3 k0_3 :: L)) (v := v195) (c := [v195]) rfl Tryz.sizeOf124 (Ln.cells (S203.row_ln (i := 2) rfl)) rfl (ones_cons (Ln.one (S203.row_ln (i := 2) rfl)) ones_nil) (Nat.le_of_ble_eq_true rfl) rfl rfl
      refine FL.act rfl rfl (E.store rfl rfl run205) ?_
      refine FL.nil (FW.seq (FW.region ?_))
      refine FL.v (E.move k186) ?_
      refine FL.v (E.nilCheck rfl) ?_
      refine FL.v (E.fieldAddr tf126_1 rfl) ?_
      refine FL.v (E.load rfl (run_load1 Tryz.isAgg55 (S206.box_now (i := 0) rfl) rfl)) ?_
      refine FL.v (E.lenO te55 rfl S206 (i := 1) rfl els179 (by decide)) ?_
      refine FL.v (E.sub rfl rfl) ?_
      refine FL.v (E.assign (v := Value.int .i64 (wr ((len xs152) - 1))) rfl) ?_
      refine FL.nil ?_
      refine FW.ret ?_
      obtain rfl := Option.some.inj hp
      exact ⟨.inr rfl, res1 rfl rfl (by rw [hR91]; exact ⟨_, _, _, _, _, _, _, rfl, S206, (r110.run.inc.tr i183), els179, els201, nd180⟩)⟩
    clear hq91
    refine FC.call (l' := (bs 17 65535)) rfl (by kernel_rfl) rfl rfl rfl (E.call Tryz.call219 (A3 rfl rfl rfl)) hc91 ?_
    intro e w210 hQ91
    rw [hR91] at hQ91
    obtain ⟨H207, v92, n93, cs94, v97, n98, cs99, rfl, S208, i209, els95, els100, nd96⟩ := hQ91
    refine ⟨_, rfl, ?_⟩
    refine ⟨(SP.on ((S208.box_now (i := 0) rfl).sub (j := 0) (n := 1) (c := [Value.pointer (some q0_0)]) rfl) (SP.nil (Sl.of_inc i209 S208.sl))), ?_⟩
    refine FB.t (i := 16) (bs 17 131071) rfl (SP.on ((S208.box_now (i := 0) rfl).sub (j := 0) (n := 1) (c := [Value.pointer (some q0_0)]) rfl) (SP.nil (Sl.of_inc i209 S208.sl))) rfl (fun w' hw' => (E.assign (v := Value.int .i64 s91.2.2) rfl)) ?_
    exact FB.done (by kernel_rfl) ⟨_, _, _, _, _, _, _, S208, i209, els95, els100, nd96, rfl⟩
  ·
   rintro f61 w60 ⟨H57, v47, n48, cs49, v52, n53, cs54, S58, i59, els50, els56, nd51, k62⟩
   refine FW.ret ?_
   obtain rfl := Option.some.inj hp
   exact ⟨.inr rfl, res1 rfl k62 ⟨_, _, _, _, _, _, _, rfl, ⟨S58, (i27.tr i59)⟩, els50, nd51, els56⟩⟩
 ·
  refine FW.condF rfl c32 ?_
  refine FW.seq (FW.region ?_)
  refine FL.v (E.load rfl (run_loadA Tryz.isAgg89 Tryz.sizeOf89 (at28.now S31.sl) rfl)) ?_
  refine FL.call rfl rfl rfl (E.call Tryz.call89 (A1 rfl)) (w_impl_ResStep_isWeakening S31.sl a2 v2_0 (p2_0.mono i27)) ?_
  rintro e w63 ⟨rfl, r64⟩
  refine ⟨_, rfl, ?_⟩
  have S65 := S31.call r64
  refine FL.v (E.assign (v := Value.bool (PF.impl_ResStep_isWeakening a2)) rfl) ?_
  refine FL.nil ?_
  rcases ifB hp with ⟨c66, hp⟩ | ⟨c66, hp⟩
  ·
   refine FW.condT rfl c66 ?_
   refine FW.seq ?_
   obtain ⟨x76, hx77, hp⟩ := bnd hp
   obtain ⟨r80, hr81, hp⟩ := bnd hp
   refine FW.drawB (Sl H25) (fun f w => ∃ H : GH, ∃ v121 : Value, ∃ n122 : Nat, ∃ cs123 : List Value, St H0 w0 H w (.box b0 126 [Value.pointer (some q0_0), v0_1, v0_2, v0_3] :: .row 129 6 v0_1 n0_1 k0_1 :: .row 139 1 v0_2 n0_2 k0_2 :: .row 3 1 v0_3 n0_3 k0_3 :: .row 3 1 v121 n122 cs123 :: L) ∧ Inc H25 H ∧ Els (up w0.heap.size H) eI 1 cs123 r80 ∧ f 0 = Value.pointer (some (⟨b0, 0, none⟩ : Addr)) ∧ f 5 = Value.pointer (some ⟨b21, 0, none⟩) ∧ f 7 = v121) (by kernel_rfl) S65.sl ?_ ?_
   ·
    intro w67 r68
    have S69 := S65.call r68
    refine FB.t (i := 0) (bs 10 1) rfl (SP.nil S69.sl) rfl (fun w' hw' => (E.fieldAddr tf89_0 rfl)) ?_
    refine FB.t (i := 1) (bs 10 3) rfl (SP.nil S69.sl) rfl (fun w' hw' => (E.load rfl (run_load1 Tryz.isAgg39 (at28.now hw') rfl))) ?_
    refine FB.t (i := 2) (bs 10 7) rfl (SP.nil S69.sl) rfl (fun w' hw' => (E.move (v := v1) rfl)) ?_
    refine FB.t (i := 3) (bs 10 15) rfl (SP.nil S69.sl) rfl (fun w' hw' => (E.fieldAddr tf89_1 rfl)) ?_
    refine FB.t (i := 4) (bs 10 31) rfl (SP.nil S69.sl) rfl (fun w' hw' => (E.load rfl (run_load1 Tryz.isAgg3 (at28.now hw') rfl))) ?_
    obtain ⟨p70, cs71, pt72, l73, at74, rel75⟩ := p1.at hx77
    obtain ⟨v78, rfl, h79⟩ := eResStep_open rel75
    refine FB.t (i := 5) (bs 10 63) rfl (SP.nil S69.sl) rfl (fun w' hw' => (E.indexAddr te28 rfl rfl pt72)) ?_
    refine FB.t (i := 6) (bs 10 127) rfl (SP.nil S69.sl) rfl (fun w' hw' => (E.fieldAddr tf89_0 rfl)) ?_
    refine FB.t (i := 7) (bs 10 255) rfl (SP.nil S69.sl) rfl (fun w' hw' => (E.load rfl (run_load1 Tryz.isAgg39 ((at74.mono i27).now hw') rfl))) ?_
    refine FB.all1 (i := 8) (by kernel_rfl) ?_
    ·
     refine FC.call (l' := (bs 10 511)) rfl (by kernel_rfl) rfl rfl rfl (E.call Tryz.call91 (A2 rfl rfl)) (w_impl_further S69.sl v2_0 a2.clause (p2_0.mono i27) v78 x76.clause (h79.mono i27) hr81) ?_
     rintro e w83 ⟨H82, v86, n87, cs88, rfl, r85, els90⟩
     refine ⟨_, rfl, ?_⟩
     have els90 := els90.mono (up_le S69.size)
     have S84 := S69.join (l' := (.row 3 1 v86 n87 cs88 :: .box b0 126 [Value.pointer (some q0_0), v0_1, v0_2, v0_3] :: .row 129 6 v0_1 n0_1 k0_1 :: .row 139 1 v0_2 n0_2 k0_2 :: .row 3 1 v0_3 n0_3 k0_3 :: L)) r85 rfl
     refine ⟨(SP.nil (Sl.of_inc r85.run.inc S84.sl)), ?_⟩
     refine FB.t (i := 9) (bs 10 1023) rfl (SP.nil (Sl.of_inc r85.run.inc S84.sl)) rfl (fun w' hw' => (E.assign (v := v86) rfl)) ?_
     exact FB.done (by kernel_rfl) ⟨_, _, _, _, (S84.selT (a := [.row 3 1 v86 n87 cs88, .box b0 126 [Value.pointer (some q0_0), v0_1, v0_2, v0_3], .row 129 6 v0_1 n0_1 k0_1, .row 139 1 v0_2 n0_2 k0_2, .row 3 1 v0_3 n0_3 k0_3]) (l' := [.box b0 126 [Value.pointer (some q0_0), v0_1, v0_2, v0_3], .row 129 6 v0_1 n0_1 k0_1, .row 139 1 v0_2 n0_2 k0_2, .row 3 1 v0_3 n0_3 k0_3, .row 3 1 v86 n87 cs88]) [1, 2, 3, 4, 0] (by decide) rfl), r85.run.inc, els90, rfl, rfl, rfl⟩
   ·
    rintro f132 w131 ⟨H127, v121, n122, cs123, S128, i130, els125, k133, k134, k135⟩
    refine FW.seq (FW.seq (FW.region ?_))
    refine FL.v (E.move k135) ?_
    refine FL.v (E.lenO te39 rfl S128 (i := 4) rfl els125 (by decide)) ?_
    refine FL.v (E.eql rfl rfl) ?_
    refine FL.nil ?_
    rcases ifB hp with ⟨c136, hp⟩ | ⟨c136, hp⟩
    ·
     refine FW.condT rfl c136 ?_
     refine FW.seq ?_
     obtain ⟨x170, hx171, hp⟩ := bnd hp
     obtain ⟨x217, hx218, hp⟩ := bnd hp
     obtain ⟨r220, hr221, hp⟩ := bnd hp
     refine FW.drawB (SX H0 w0 H127 (.row 3 1 v0_3 n0_3 k0_3 :: L)) (fun f w => ∃ H : GH, ∃ v239 : Value, ∃ n240 : Nat, ∃ cs241 : List Value, ∃ v244 : Value, ∃ n245 : Nat, ∃ cs246 : List Value, St H0 w0 H w (.box b0 126 [Value.pointer (some q0_0), v239, v244, v0_3] :: .row 129 6 v239 n240 cs241 :: .row 139 1 v244 n245 cs246 :: .row 3 1 v0_3 n0_3 k0_3 :: L) ∧ Inc H127 H ∧ Els (up w0.heap.size H) ePcStep 6 cs241 r220.2.steps ∧ Els H (eL eI 1) 1 cs246 r220.2.polys ∧ (bl cs241).Nodup ∧ f 6 = Value.int .i64 r220.1) (by kernel_rfl) S128.sl ?_ ?_
     ·
      intro w137 r138
      have S139 := S128.call r138
      refine FB.phase [] (fun w => WAt w (Addr.add ⟨b0, 0, none⟩ 3) [v0_3]) ?_
      refine FB.t (i := 0) (bs 19 1) rfl (SP.on ((S139.box_now (i := 0) rfl).sub (j := 3) (n := 1) (c := [v0_3]) rfl) (SP.nil ⟨_, (S139.selT (a := [.box b0 126 [Value.pointer (some q0_0), v0_1, v0_2, v0_3], .row 129 6 v0_1 n0_1 k0_1, .row 139 1 v0_2 n0_2 k0_2, .row 3 1 v0_3 n0_3 k0_3, .row 3 1 v121 n122 cs123]) (l' := [.row 3 1 v0_3 n0_3 k0_3]) [3] (by decide) rfl), (Inc.rfl _)⟩)) rfl (fun w' hw' => (E.move k133)) ?_
      refine FB.t (i := 1) (bs 19 3) rfl (SP.on ((S139.box_now (i := 0) rfl).sub (j := 3) (n := 1) (c := [v0_3]) rfl) (SP.nil ⟨_, (S139.selT (a := [.box b0 126 [Value.pointer (some q0_0), v0_1, v0_2, v0_3], .row 129 6 v0_1 n0_1 k0_1, .row 139 1 v0_2 n0_2 k0_2, .row 3 1 v0_3 n0_3 k0_3, .row 3 1 v121 n122 cs123]) (l' := [.row 3 1 v0_3 n0_3 k0_3]) [3] (by decide) rfl), (Inc.rfl _)⟩)) rfl (fun w' hw' => (E.move k133)) ?_
      refine FB.t (i := 2) (bs 19 7) rfl (SP.on ((S139.box_now (i := 0) rfl).sub (j := 3) (n := 1) (c := [v0_3]) rfl) (SP.nil ⟨_, (S139.selT (a := [.box b0 126 [Value.pointer (some q0_0), v0_1, v0_2, v0_3], .row 129 6 v0_1 n0_1 k0_1, .row 139 1 v0_2 n0_2 k0_2, .row 3 1 v0_3 n0_3 k0_3, .row 3 1 v121 n122 cs123]) (l' := [.row 3 1 v0_3 n0_3 k0_3]) [3] (by decide) rfl), (Inc.rfl _)⟩)) rfl (fun w' hw' => (E.nilCheck rfl)) ?_
      refine FB.t (i := 3) (bs 19 15) rfl (SP.on ((S139.box_now (i := 0) rfl).sub (j := 3) (n := 1) (c := [v0_3]) rfl) (SP.nil ⟨_, (S139.selT (a := [.box b0 126 [Value.pointer (some q0_0), v0_1, v0_2, v0_3], .row 129 6 v0_1 n0_1 k0_1, .row 139 1 v0_2 n0_2 k0_2, .row 3 1 v0_3 n0_3 k0_3, .row 3 1 v121 n122 cs123]) (l' := [.row 3 1 v0_3 n0_3 k0_3]) [3] (by decide) rfl), (Inc.rfl _)⟩)) rfl (fun w' hw' => (E.fieldAddr tf126_3 rfl)) ?_
      refine FB.p (i := 4) (bs 19 31) 0 [7, 8, 17, 18] rfl (SP.on ((S139.box_now (i := 0) rfl).sub (j := 3) (n := 1) (c := [v0_3]) rfl) (SP.nil ⟨_, (S139.selT (a := [.box b0 126 [Value.pointer (some q0_0), v0_1, v0_2, v0_3], .row 129 6 v0_1 n0_1 k0_1, .row 139 1 v0_2 n0_2 k0_2, .row 3 1 v0_3 n0_3 k0_3, .row 3 1 v121 n122 cs123]) (l' := [.row 3 1 v0_3 n0_3 k0_3]) [3] (by decide) rfl), (Inc.rfl _)⟩)) rfl rfl (fun w' hw' => (E.load rfl (run_load0 Tryz.isAgg39 hw' rfl))) ?_
      refine FB.t (i := 5) (bs 19 63) rfl (SP.on ((S139.box_now (i := 0) rfl).sub (j := 3) (n := 1) (c := [v0_3]) rfl) (SP.nil ⟨_, (S139.selT (a := [.box b0 126 [Value.pointer (some q0_0), v0_1, v0_2, v0_3], .row 129 6 v0_1 n0_1 k0_1, .row 139 1 v0_2 n0_2 k0_2, .row 3 1 v0_3 n0_3 k0_3, .row 3 1 v121 n122 cs123]) (l' := [.row 3 1 v0_3 n0_3 k0_3]) [3] (by decide) rfl), (Inc.rfl _)⟩)) rfl (fun w' hw' => (E.fieldAddr tf89_1 k134)) ?_
      refine FB.t (i := 6) (bs 19 127) rfl (SP.on ((S139.box_now (i := 0) rfl).sub (j := 3) (n := 1) (c := [v0_3]) rfl) (SP.nil ⟨_, (S139.selT (a := [.box b0 126 [Value.pointer (some q0_0), v0_1, v0_2, v0_3], .row 129 6 v0_1 n0_1 k0_1, .row 139 1 v0_2 n0_2 k0_2, .row 3 1 v0_3 n0_3 k0_3, .row 3 1 v121 n122 cs123]) (l' := [.row 3 1 v0_3 n0_3 k0_3]) [3] (by decide) rfl), (Inc.rfl _)⟩)) rfl (fun w' hw' => (E.load rfl (run_load1 Tryz.isAgg3 ((at28.mono i130).now hw'.sl) rfl))) ?_
      obtain ⟨p164, cs165, pt166, l167, at168, rel169, hall172⟩ := S139.row_atA (i := 3) rfl p0_3 (by decide) hx171
      obtain rfl := eI_open rel169
      refine FB.t (i := 7) (bs 19 255) rfl (SP.on ((S139.box_now (i := 0) rfl).sub (j := 3) (n := 1) (c := [v0_3]) rfl) (SP.nil ⟨_, (S139.selT (a := [.box b0 126 [Value.pointer (some q0_0), v0_1, v0_2, v0_3], .row 129 6 v0_1 n0_1 k0_1, .row 139 1 v0_2 n0_2 k0_2, .row 3 1 v0_3 n0_3 k0_3, .row 3 1 v121 n122 cs123]) (l' := [.row 3 1 v0_3 n0_3 k0_3]) [3] (by decide) rfl), (Inc.rfl _)⟩)) rfl (fun w' hw' => (E.indexAddr te39 rfl rfl pt166)) ?_
      refine FB.t (i := 8) (bs 19 511) rfl (SP.on ((S139.box_now (i := 0) rfl).sub (j := 3) (n := 1) (c := [v0_3]) rfl) (SP.nil ⟨_, (S139.selT (a := [.box b0 126 [Value.pointer (some q0_0), v0_1, v0_2, v0_3], .row 129 6 v0_1 n0_1 k0_1, .row 139 1 v0_2 n0_2 k0_2, .row 3 1 v0_3 n0_3 k0_3, .row 3 1 v121 n122 cs123]) (l' := [.row 3 1 v0_3 n0_3 k0_3]) [3] (by decide) rfl), (Inc.rfl _)⟩)) rfl (fun w' hw' => (E.load rfl (run_load0 Tryz.isAgg3 (hw'.use fun _ st => hall172 _ _ _ 0 st rfl) rfl))) ?_
      refine FB.t (i := 9) (bs 19 1023) rfl (SP.on ((S139.box_now (i := 0) rfl).sub (j := 3) (n := 1) (c := [v0_3]) rfl) (SP.nil ⟨_, (S139.selT (a := [.box b0 126 [Value.pointer (some q0_0), v0_1, v0_2, v0_3], .row 129 6 v0_1 n0_1 k0_1, .row 139 1 v0_2 n0_2 k0_2, .row 3 1 v0_3 n0_3 k0_3, .row 3 1 v121 n122 cs123]) (l' := [.row 3 1 v0_3 n0_3 k0_3]) [3] (by decide) rfl), (Inc.rfl _)⟩)) rfl (fun w' hw' => (E.move k133)) ?_
      refine FB.t (i := 10) (bs 19 2047) rfl (SP.on ((S139.box_now (i := 0) rfl).sub (j := 3) (n := 1) (c := [v0_3]) rfl) (SP.nil ⟨_, (S139.selT (a := [.box b0 126 [Value.pointer (some q0_0), v0_1, v0_2, v0_3], .row 129 6 v0_1 n0_1 k0_1, .row 139 1 v0_2 n0_2 k0_2, .row 3 1 v0_3 n0_3 k0_3, .row 3 1 v121 n122 cs123]) (l' := [.row 3 1 v0_3 n0_3 k0_3]) [3] (by decide) rfl), (Inc.rfl _)⟩)) rfl (fun w' hw' => (E.nilCheck rfl)) ?_
      refine FB.t (i := 11) (bs 19 4095) rfl (SP.on ((S139.box_now (i := 0) rfl).sub (j := 3) (n := 1) (c := [v0_3]) rfl) (SP.nil ⟨_, (S139.selT (a := [.box b0 126 [Value.pointer (some q0_0), v0_1, v0_2, v0_3], .row 129 6 v0_1 n0_1 k0_1, .row 139 1 v0_2 n0_2 k0_2, .row 3 1 v0_3 n0_3 k0_3, .row 3 1 v121 n122 cs123]) (l' := [.row 3 1 v0_3 n0_3 k0_3]) [3] (by decide) rfl), (Inc.rfl _)⟩)) rfl (fun w' hw' => (E.fieldAddr tf126_3 rfl)) ?_
      refine FB.p (i := 12) (bs 19 8191) 0 [15, 16, 17, 18] rfl (SP.on ((S139.box_now (i := 0) rfl).sub (j := 3) (n := 1) (c := [v0_3]) rfl) (SP.nil ⟨_, (S139.selT (a := [.box b0 126 [Value.pointer (some q0_0), v0_1, v0_2, v0_3], .row 129 6 v0_1 n0_1 k0_1, .row 139 1 v0_2 n0_2 k0_2, .row 3 1 v0_3 n0_3 k0_3, .row 3 1 v121 n122 cs123]) (l' := [.row 3 1 v0_3 n0_3 k0_3]) [3] (by decide) rfl), (Inc.rfl _)⟩)) rfl rfl (fun w' hw' => (E.load rfl (run_load0 Tryz.isAgg39 hw' rfl))) ?_
      refine FB.t (i := 13) (bs 19 16383) rfl (SP.on ((S139.box_now (i := 0) rfl).sub (j := 3) (n := 1) (c := [v0_3]) rfl) (SP.nil ⟨_, (S139.selT (a := [.box b0 126 [Value.pointer (some q0_0), v0_1, v0_2, v0_3], .row 129 6 v0_1 n0_1 k0_1, .row 139 1 v0_2 n0_2 k0_2, .row 3 1 v0_3 n0_3 k0_3, .row 3 1 v121 n122 cs123]) (l' := [.row 3 1 v0_3 n0_3 k0_3]) [3] (by decide) rfl), (Inc.rfl _)⟩)) rfl (fun w' hw' => (E.fieldAddr tf89_1 k134)) ?_
      refine FB.t (i := 14) (bs 19 32767) rfl (SP.on ((S139.box_now (i := 0) rfl).sub (j := 3) (n := 1) (c := [v0_3]) rfl) (SP.nil ⟨_, (S139.selT (a := [.box b0 126 [Value.pointer (some q0_0), v0_1, v0_2, v0_3], .row 129 6 v0_1 n0_1 k0_1, .row 139 1 v0_2 n0_2 k0_2, .row 3 1 v0_3 n0_3 k0_3, .row 3 1 v121 n122 cs123]) (l' := [.row 3 1 v0_3 n0_3 k0_3]) [3] (by decide) rfl), (Inc.rfl _)⟩)) rfl (fun w' hw' => (E.load rfl (run_load1 Tryz.isAgg3 ((at28.mono i130).now hw'.sl) rfl))) ?_
      obtain ⟨p211, cs212, pt213, l214, at215, rel216, hall219⟩ := S139.row_atA (i := 3) rfl p0_3 (by decide) hx218
      obtain rfl := eI_open rel216
      refine FB.t (i := 15) (bs 19 65535) rfl (SP.on ((S139.box_now (i := 0) rfl).sub (j := 3) (n := 1) (c := [v0_3]) rfl) (SP.nil ⟨_, (S139.selT (a := [.box b0 126 [Value.pointer (some q0_0), v0_1, v0_2, v0_3], .row 129 6 v0_1 n0_1 k0_1, .row 139 1 v0_2 n0_2 k0_2, .row 3 1 v0_3 n0_3 k0_3, .row 3 1 v121 n122 cs123]) (l' := [.row 3 1 v0_3 n0_3 k0_3]) [3] (by decide) rfl), (Inc.rfl _)⟩)) rfl (fun w' hw' => (E.indexAddr te39 rfl rfl pt213)) ?_
      refine FB.t (i := 16) (bs 19 131071) rfl (SP.on ((S139.box_now (i := 0) rfl).sub (j := 3) (n := 1) (c := [v0_3]) rfl) (SP.nil ⟨_, (S139.selT (a := [.box b0 126 [Value.pointer (some q0_0), v0_1, v0_2, v0_3], .row 129 6 v0_1 n0_1 k0_1, .row 139 1 v0_2 n0_2 k0_2, .row 3 1 v0_3 n0_3 k0_3, .row 3 1 v121 n122 cs123]) (l' := [.row 3 1 v0_3 n0_3 k0_3]) [3] (by decide) rfl), (Inc.rfl _)⟩)) rfl (fun w' hw' => (E.load rfl (run_load0 Tryz.isAgg3 (hw'.use fun _ st => hall219 _ _ _ 0 st rfl) rfl))) ?_
      refine FB.all1 (i := 17) (by kernel_rfl) ?_
      ·
       have S222 : St H0 w0 H127 w137 (.row 3 1 v0_3 n0_3 k0_3 :: .box b0 126 [Value.pointer (some q0_0), v0_1, v0_2, v0_3] :: .row 129 6 v0_1 n0_1 k0_1 :: .row 139 1 v0_2 n0_2 k0_2 :: .row 3 1 v121 n122 cs123 :: L) := S139.front 3 rfl rfl
       have S223 : St H0 w0 H127 w137 (.row 139 1 v0_2 n0_2 k0_2 :: .row 3 1 v0_3 n0_3 k0_3 :: .box b0 126 [Value.pointer (some q0_0), v0_1, v0_2, v0_3] :: .row 129 6 v0_1 n0_1 k0_1 :: .row 3 1 v121 n122 cs123 :: L) := S222.front 3 rfl rfl
       have S224 : St H0 w0 H127 w137 (.row 129 6 v0_1 n0_1 k0_1 :: .row 139 1 v0_2 n0_2 k0_2 :: .row 3 1 v0_3 n0_3 k0_3 :: .box b0 126 [Value.pointer (some q0_0), v0_1, v0_2, v0_3] :: .row 3 1 v121 n122 cs123 :: L) := S223.front 3 rfl rfl
       have S225 : St H0 w0 H127 w137 (.box b0 126 [Value.pointer (some q0_0), v0_1, v0_2, v0_3] :: .row 129 6 v0_1 n0_1 k0_1 :: .row 139 1 v0_2 n0_2 k0_2 :: .row 3 1 v0_3 n0_3 k0_3 :: .row 3 1 v121 n122 cs123 :: L) := S224.front 3 rfl rfl
       refine FC.call (l' := (bs 19 262143)) rfl (by kernel_rfl) rfl rfl rfl (E.call Tryz.call220 (A5 rfl rfl rfl rfl rfl)) (w_impl_translator_sum (L := (.row 3 1 v121 n122 cs123 :: L)) S225 a0 (p0_0_3.mono (i27.tr i130)) (p0_0_4.mono (i27.tr i130)) (c0_0.mono (i27.tr i130)) (p0_1.mono (up_mono (i27.tr i130))) d0_1 (p0_2.mono (i27.tr i130)) (p0_3.mono (up_mono (i27.tr i130))) x170 x217 1 0 hr221) ?_
       rintro e w227 ⟨H226, v230, n231, cs232, v235, n236, cs237, rfl, ⟨S228, i229⟩, els233, nd234, els238⟩
       refine ⟨_, rfl, ?_⟩
       have S228 : St H0 w0 H226 w227 (.box b0 126 [Value.pointer (some q0_0), v230, v235, v0_3] :: .row 129 6 v230 n231 cs232 :: .row 139 1 v235 n236 cs237 :: .row 3 1 v0_3 n0_3 k0_3 :: .row 3 1 v121 n122 cs123 :: L) := S228
       refine ⟨(SP.on ((S228.box_now (i := 0) rfl).sub (j := 3) (n := 1) (c := [v0_3]) rfl) (SP.nil ⟨_, (S228.selT (a := [.box b0 126 [Value.pointer (some q0_0), v230, v235, v0_3], .row 129 6 v230 n231 cs232, .row 139 1 v235 n236 cs237, .row 3 1 v0_3 n0_3 k0_3, .row 3 1 v121 n122 cs123]) (l' := [.row 3 1 v0_3 n0_3 k0_3]) [3] (by decide) rfl), i229⟩)), ?_⟩
       refine FB.t (i := 18) (bs 19 524287) rfl (SP.on ((S228.box_now (i := 0) rfl).sub (j := 3) (n := 1) (c := [v0_3]) rfl) (SP.nil ⟨_, (S228.selT (a := [.box b0 126 [Value.pointer (some q0_0), v230, v235, v0_3], .row 129 6 v230 n231 cs232, .row 139 1 v235 n236 cs237, .row 3 1 v0_3 n0_3 k0_3, .row 3 1 v121 n122 cs123]) (l' := [.row 3 1 v0_3 n0_3 k0_3]) [3] (by decide) rfl), i229⟩)) rfl (fun w' hw' => (E.assign (v := Value.int .i64 r220.1) rfl)) ?_
       exact FB.done (by kernel_rfl) ⟨_, _, _, _, _, _, _, (S228.selT (a := [.box b0 126 [Value.pointer (some q0_0), v230, v235, v0_3], .row 129 6 v230 n231 cs232, .row 139 1 v235 n236 cs237, .row 3 1 v0_3 n0_3 k0_3, .row 3 1 v121 n122 cs123]) (l' := [.box b0 126 [Value.pointer (some q0_0), v230, v235, v0_3], .row 129 6 v230 n231 cs232, .row 139 1 v235 n236 cs237, .row 3 1 v0_3 n0_3 k0_3]) [0, 1, 2, 3] (by decide) rfl), i229, els233, els238, nd234, rfl⟩
     ·
      rintro f252 w251 ⟨H248, v239, n240, cs241, v244, n245, cs246, S249, i250, els242, els247, nd243, k253⟩
      refine FW.ret ?_
      obtain rfl := Option.some.inj hp
      exact ⟨.inr rfl, res1 rfl k253 ⟨_, _, _, _, _, _, _, rfl, ⟨S249, ((i27.tr i130).tr i250)⟩, els242, nd243, els247⟩⟩
    ·
     refine FW.condF rfl c136 ?_
     refine FW.skip (FW.seq ?_)
     obtain ⟨x263, hx264, hp⟩ := bnd hp
     obtain ⟨r271, hr272, hp⟩ := bnd hp
     refine FW.drawB (SX H0 w0 H127 (.row 3 1 v0_3 n0_3 k0_3 :: L)) (fun f w => ∃ H : GH, ∃ v290 : Value, ∃ n291 : Nat, ∃ cs292 : List Value, ∃ v295 : Value, ∃ n296 : Nat, ∃ cs297 : List Value, St H0 w0 H w (.box b0 126 [Value.pointer (some q0_0), v290, v295, v0_3] :: .row 129 6 v290 n291 cs292 :: .row 139 1 v295 n296 cs297 :: .row 3 1 v0_3 n0_3 k0_3 :: L) ∧ Inc H127 H ∧ Els (up w0.heap.size H) ePcStep 6 cs292 r271.2.steps ∧ Els H (eL eI 1) 1 cs297 r271.2.polys ∧ (bl cs292).Nodup ∧ f 6 = Value.int .i64 r271.1) (by kernel_rfl) S128.sl ?_ ?_
     ·
      intro w254 r255
      have S256 := S128.call r255
      refine FB.phase [] (fun w => WAt w (Addr.add ⟨b0, 0, none⟩ 3) [v0_3]) ?_
      refine FB.t (i := 0) (bs 12 1) rfl (SP.on ((S256.box_now (i := 0) rfl).sub (j := 3) (n := 1) (c := [v0_3]) rfl) (SP.nil ⟨_, (S256.selT (a := [.box b0 126 [Value.pointer (some q0_0), v0_1, v0_2, v0_3], .row 129 6 v0_1 n0_1 k0_1, .row 139 1 v0_2 n0_2 k0_2, .row 3 1 v0_3 n0_3 k0_3, .row 3 1 v121 n122 cs123]) (l' := [.row 3 1 v0_3 n0_3 k0_3]) [3] (by decide) rfl), (Inc.rfl _)⟩)) rfl (fun w' hw' => (E.move k133)) ?_
      refine FB.t (i := 1) (bs 12 3) rfl (SP.on ((S256.box_now (i := 0) rfl).sub (j := 3) (n := 1) (c := [v0_3]) rfl) (SP.nil ⟨_, (S256.selT (a := [.box b0 126 [Value.pointer (some q0_0), v0_1, v0_2, v0_3], .row 129 6 v0_1 n0_1 k0_1, .row 139 1 v0_2 n0_2 k0_2, .row 3 1 v0_3 n0_3 k0_3, .row 3 1 v121 n122 cs123]) (l' := [.row 3 1 v0_3 n0_3 k0_3]) [3] (by decide) rfl), (Inc.rfl _)⟩)) rfl (fun w' hw' => (E.move k133)) ?_
      refine FB.t (i := 2) (bs 12 7) rfl (SP.on ((S256.box_now (i := 0) rfl).sub (j := 3) (n := 1) (c := [v0_3]) rfl) (SP.nil ⟨_, (S256.selT (a := [.box b0 126 [Value.pointer (some q0_0), v0_1, v0_2, v0_3], .row 129 6 v0_1 n0_1 k0_1, .row 139 1 v0_2 n0_2 k0_2, .row 3 1 v0_3 n0_3 k0_3, .row 3 1 v121 n122 cs123]) (l' := [.row 3 1 v0_3 n0_3 k0_3]) [3] (by decide) rfl), (Inc.rfl _)⟩)) rfl (fun w' hw' => (E.nilCheck rfl)) ?_
      refine FB.t (i := 3) (bs 12 15) rfl (SP.on ((S256.box_now (i := 0) rfl).sub (j := 3) (n := 1) (c := [v0_3]) rfl) (SP.nil ⟨_, (S256.selT (a := [.box b0 126 [Value.pointer (some q0_0), v0_1, v0_2, v0_3], .row 129 6 v0_1 n0_1 k0_1, .row 139 1 v0_2 n0_2 k0_2, .row 3 1 v0_3 n0_3 k0_3, .row 3 1 v121 n122 cs123]) (l' := [.row 3 1 v0_3 n0_3 k0_3]) [3] (by decide) rfl), (Inc.rfl _)⟩)) rfl (fun w' hw' => (E.fieldAddr tf126_3 rfl)) ?_
      refine FB.p (i := 4) (bs 12 31) 0 [7, 8, 10, 11] rfl (SP.on ((S256.box_now (i := 0) rfl).sub (j := 3) (n := 1) (c := [v0_3]) rfl) (SP.nil ⟨_, (S256.selT (a := [.box b0 126 [Value.pointer (some q0_0), v0_1, v0_2, v0_3], .row 129 6 v0_1 n0_1 k0_1, .row 139 1 v0_2 n0_2 k0_2, .row 3 1 v0_3 n0_3 k0_3, .row 3 1 v121 n122 cs123]) (l' := [.row 3 1 v0_3 n0_3 k0_3]) [3] (by decide) rfl), (Inc.rfl _)⟩)) rfl rfl (fun w' hw' => (E.load rfl (run_load0 Tryz.isAgg39 hw' rfl))) ?_
      refine FB.t (i := 5) (bs 12 63) rfl (SP.on ((S256.box_now (i := 0) rfl).sub (j := 3) (n := 1) (c := [v0_3]) rfl) (SP.nil ⟨_, (S256.selT (a := [.box b0 126 [Value.pointer (some q0_0), v0_1, v0_2, v0_3], .row 129 6 v0_1 n0_1 k0_1, .row 139 1 v0_2 n0_2 k0_2, .row 3 1 v0_3 n0_3 k0_3, .row 3 1 v121 n122 cs123]) (l' := [.row 3 1 v0_3 n0_3 k0_3]) [3] (by decide) rfl), (Inc.rfl _)⟩)) rfl (fun w' hw' => (E.fieldAddr tf89_1 k134)) ?_
      refine FB.t (i := 6) (bs 12 127) rfl (SP.on ((S256.box_now (i := 0) rfl).sub (j := 3) (n := 1) (c := [v0_3]) rfl) (SP.nil ⟨_, (S256.selT (a := [.box b0 126 [Value.pointer (some q0_0), v0_1, v0_2, v0_3], .row 129 6 v0_1 n0_1 k0_1, .row 139 1 v0_2 n0_2 k0_2, .row 3 1 v0_3 n0_3 k0_3, .row 3 1 v121 n122 cs123]) (l' := [.row 3 1 v0_3 n0_3 k0_3]) [3] (by decide) rfl), (Inc.rfl _)⟩)) rfl (fun w' hw' => (E.load rfl (run_load1 Tryz.isAgg3 ((at28.mono i130).now hw'.sl) rfl))) ?_
      obtain ⟨p257, cs258, pt259, l260, at261, rel262, hall265⟩ := S256.row_atA (i := 3) rfl p0_3 (by decide) hx264
      obtain rfl := eI_open rel262
      refine FB.t (i := 7) (bs 12 255) rfl (SP.on ((S256.box_now (i := 0) rfl).sub (j := 3) (n := 1) (c := [v0_3]) rfl) (SP.nil ⟨_, (S256.selT (a := [.box b0 126 [Value.pointer (some q0_0), v0_1, v0_2, v0_3], .row 129 6 v0_1 n0_1 k0_1, .row 139 1 v0_2 n0_2 k0_2, .row 3 1 v0_3 n0_3 k0_3, .row 3 1 v121 n122 cs123]) (l' := [.row 3 1 v0_3 n0_3 k0_3]) [3] (by decide) rfl), (Inc.rfl _)⟩)) rfl (fun w' hw' => (E.indexAddr te39 rfl rfl pt259)) ?_
      refine FB.t (i := 8) (bs 12 511) rfl (SP.on ((S256.box_now (i := 0) rfl).sub (j := 3) (n := 1) (c := [v0_3]) rfl) (SP.nil ⟨_, (S256.selT (a := [.box b0 126 [Value.pointer (some q0_0), v0_1, v0_2, v0_3], .row 129 6 v0_1 n0_1 k0_1, .row 139 1 v0_2 n0_2 k0_2, .row 3 1 v0_3 n0_3 k0_3, .row 3 1 v121 n122 cs123]) (l' := [.row 3 1 v0_3 n0_3 k0_3]) [3] (by decide) rfl), (Inc.rfl _)⟩)) rfl (fun w' hw' => (E.load rfl (run_load0 Tryz.isAgg3 (hw'.use fun _ st => hall265 _ _ _ 0 st rfl) rfl))) ?_
      refine FB.t (i := 9) (bs 12 1023) rfl (SP.on ((S256.box_now (i := 0) rfl).sub (j := 3) (n := 1) (c := [v0_3]) rfl) (SP.nil ⟨_, (S256.selT (a := [.box b0 126 [Value.pointer (some q0_0), v0_1, v0_2, v0_3], .row 129 6 v0_1 n0_1 k0_1, .row 139 1 v0_2 n0_2 k0_2, .row 3 1 v0_3 n0_3 k0_3, .row 3 1 v121 n122 cs123]) (l' := [.row 3 1 v0_3 n0_3 k0_3]) [3] (by decide) rfl), (Inc.rfl _)⟩)) rfl (fun w' hw' => (E.move k135)) ?_
      refine FB.all1 (i := 10) (by kernel_rfl) ?_
      ·
       obtain ⟨H266, S267, i268, h269, nv270⟩ := S256.sealRowU (i := 4) (l' := (.box b0 126 [Value.pointer (some q0_0), v0_1, v0_2, v0_3] :: .row 129 6 v0_1 n0_1 k0_1 :: .row 139 1 v0_2 n0_2 k0_2 :: .row 3 1 v0_3 n0_3 k0_3 :: L)) rfl els125 (by decide) rfl
       have S273 : St H0 w0 H266 w254 (.row 3 1 v0_3 n0_3 k0_3 :: .box b0 126 [Value.pointer (some q0_0), v0_1, v0_2, v0_3] :: .row 129 6 v0_1 n0_1 k0_1 :: .row 139 1 v0_2 n0_2 k0_2 :: L) := S267.front 3 rfl rfl
       have S274 : St H0 w0 H266 w254 (.row 139 1 v0_2 n0_2 k0_2 :: .row 3 1 v0_3 n0_3 k0_3 :: .box b0 126 [Value.pointer (some q0_0), v0_1, v0_2, v0_3] :: .row 129 6 v0_1 n0_1 k0_1 :: L) := S273.front 3 rfl rfl
       have S275 : St H0 w0 H266 w254 (.row 129 6 v0_1 n0_1 k0_1 :: .row 139 1 v0_2 n0_2 k0_2 :: .row 3 1 v0_3 n0_3 k0_3 :: .box b0 126 [Value.pointer (some q0_0), v0_1, v0_2, v0_3] :: L) := S274.front 3 rfl rfl
       have S276 : St H0 w0 H266 w254 (.box b0 126 [Value.pointer (some q0_0), v0_1, v0_2, v0_3] :: .row 129 6 v0_1 n0_1 k0_1 :: .row 139 1 v0_2 n0_2 k0_2 :: .row 3 1 v0_3 n0_3 k0_3 :: L) := S275.front 3 rfl rfl
       refine FC.call (l' := (bs 12 2047)) rfl (by kernel_rfl) rfl rfl rfl (E.call Tryz.call221 (A3 rfl rfl rfl)) (w_impl_translator_widen (L := (L)) S276 a0 (p0_0_3.mono ((i27.tr i130).tr i268)) (p0_0_4.mono ((i27.tr i130).tr i268)) (c0_0.mono ((i27.tr i130).tr i268)) (p0_1.mono (up_mono ((i27.tr i130).tr i268))) d0_1 (p0_2.mono ((i27.tr i130).tr i268)) (p0_3.mono (up_mono ((i27.tr i130).tr i268))) x263 v121 r80 (h269.mono upI) hr272) ?_
       rintro e w278 ⟨H277, v281, n282, cs283, v286, n287, cs288, rfl, ⟨S279, i280⟩, els284, nd285, els289⟩
       refine ⟨_, rfl, ?_⟩
       have S279 : St H0 w0 H277 w278 (.box b0 126 [Value.pointer (some q0_0), v281, v286, v0_3] :: .row 129 6 v281 n282 cs283 :: .row 139 1 v286 n287 cs288 :: .row 3 1 v0_3 n0_3 k0_3 :: L) := S279
       refine ⟨(SP.on ((S279.box_now (i := 0) rfl).sub (j := 3) (n := 1) (c := [v0_3]) rfl) (SP.nil ⟨_, (S279.selT (a := [.box b0 126 [Value.pointer (some q0_0), v281, v286, v0_3], .row 129 6 v281 n282 cs283, .row 139 1 v286 n287 cs288, .row 3 1 v0_3 n0_3 k0_3]) (l' := [.row 3 1 v0_3 n0_3 k0_3]) [3] (by decide) rfl), (i268.tr i280)⟩)), ?_⟩
       refine FB.t (i := 11) (bs 12 4095) rfl (SP.on ((S279.box_now (i := 0) rfl).sub (j := 3) (n := 1) (c := [v0_3]) rfl) (SP.nil ⟨_, (S279.selT (a := [.box b0 126 [Value.pointer (some q0_0), v281, v286, v0_3], .row 129 6 v281 n282 cs283, .row 139 1 v286 n287 cs288, .row 3 1 v0_3 n0_3 k0_3]) (l' := [.row 3 1 v0_3 n0_3 k0_3]) [3] (by decide) rfl), (i268.tr i280)⟩)) rfl (fun w' hw' => (E.assign (v := Value.int .i64 r271.1) rfl)) ?_
       exact FB.done (by kernel_rfl) ⟨_, _, _, _, _, _, _, S279, (i268.tr i280), els284, els289, nd285, rfl⟩
     ·
      rintro f303 w302 ⟨H299, v290, n291, cs292, v295, n296, cs297, S300, i301, els293, els298, nd294, k304⟩
      refine FW.ret ?_
      obtain rfl := Option.some.inj hp
      exact ⟨.inr rfl, res1 rfl k304 ⟨_, _, _, _, _, _, _, rfl, ⟨S300, ((i27.tr i130).tr i301)⟩, els293, nd294, els298⟩⟩
  ·
   refine FW.condF rfl c66 ?_
   refine FW.skip (FW.seq ?_)
   refine FW.draw (fun w' => Run w63.heap.size H25 w63 H25 w') (by kernel_rfl) (by kernel_rfl) (run_drew S65.sl) ?_
   refine FD.val rfl rfl rfl (fun w' hw' => (E.move (v := v1) rfl)) ?_
   refine FD.val rfl rfl rfl (fun w' hw' => (E.fieldAddr tf89_1 rfl)) ?_
   refine FD.val rfl rfl rfl (fun w' hw' => (E.load rfl (run_load1 Tryz.isAgg3 (at28.now (S65.call hw').sl) rfl))) ?_
   obtain ⟨x311, hx312, hp⟩ := bnd hp
   obtain ⟨p305, cs306, pt307, l308, at309, rel310⟩ := p1.at hx312
   obtain ⟨v313, rfl, h314⟩ := eResStep_open rel310
   refine FD.val rfl rfl rfl (fun w' hw' => (E.indexAddr te28 rfl rfl pt307)) ?_
   refine FD.val rfl rfl rfl (fun w' hw' => (E.fieldAddr tf89_0 rfl)) ?_
   refine FD.val rfl rfl rfl (fun w' hw' => (E.load rfl (run_load1 Tryz.isAgg39 ((at309.mono i27).now (S65.call hw').sl) rfl))) ?_
   refine FD.val rfl rfl rfl (fun w' hw' => (E.move (v := v1) rfl)) ?_
   refine FD.val rfl rfl rfl (fun w' hw' => (E.fieldAddr tf89_2 rfl)) ?_
   refine FD.val rfl rfl rfl (fun w' hw' => (E.load rfl (run_load1 Tryz.isAgg3 (at28.now (S65.call hw').sl) rfl))) ?_
   obtain ⟨x321, hx322, hp⟩ := bnd hp
   obtain ⟨p315, cs316, pt317, l318, at319, rel320⟩ := p1.at hx322
   obtain ⟨v323, rfl, h324⟩ := eResStep_open rel320
   refine FD.val rfl rfl rfl (fun w' hw' => (E.indexAddr te28 rfl rfl pt317)) ?_
   refine FD.val rfl rfl rfl (fun w' hw' => (E.fieldAddr tf89_0 rfl)) ?_
   refine FD.val rfl rfl rfl (fun w' hw' => (E.load rfl (run_load1 Tryz.isAgg39 ((at319.mono i27).now (S65.call hw').sl) rfl))) ?_
   refine FD.val rfl rfl rfl (fun w' hw' => (E.assign (v := v313) rfl)) ?_
   refine FD.val rfl rfl rfl (fun w' hw' => (E.assign (v := v323) rfl)) ?_
   refine FD.nil ?_
   intro w325 r327
   have S326 := S65.call r327
   refine FW.seq ?_
   obtain ⟨x337, hx338, hp⟩ := bnd hp
   obtain ⟨r340, hr341, hp⟩ := bnd hp
   obtain ⟨r355, hr356, hp⟩ := bnd hp
   obtain ⟨r372, hr373, hp⟩ := bnd hp
   refine FW.drawB (SX H0 w0 H25 (.row 3 1 v0_3 n0_3 k0_3 :: L)) (fun f w => ∃ H : GH, ∃ v391 : Value, ∃ n392 : Nat, ∃ cs393 : List Value, ∃ v396 : Value, ∃ n397 : Nat, ∃ cs398 : List Value, St H0 w0 H w (.box b0 126 [Value.pointer (some q0_0), v391, v396, v0_3] :: .row 129 6 v391 n392 cs393 :: .row 139 1 v396 n397 cs398 :: .row 3 1 v0_3 n0_3 k0_3 :: L) ∧ Inc H25 H ∧ Els (up w0.heap.size H) ePcStep 6 cs393 r372.2.steps ∧ Els H (eL eI 1) 1 cs398 r372.2.polys ∧ (bl cs393).Nodup ∧ f 0 = Value.pointer (some (⟨b0, 0, none⟩ : Addr)) ∧ f 5 = Value.pointer (some ⟨b21, 0, none⟩) ∧ f 8 = v313 ∧ f 9 = v323 ∧ f 10 = Value.int .i64 r372.1) (by kernel_rfl) S326.sl ?_ ?_
   ·
    intro w328 r329
    have S330 := S326.call r329
    refine FB.phase [] (fun w => WAt w (Addr.add ⟨b0, 0, none⟩ 3) [v0_3]) ?_
    refine FB.t (i := 0) (bs 17 1) rfl (SP.on ((S330.box_now (i := 0) rfl).sub (j := 3) (n := 1) (c := [v0_3]) rfl) (SP.nil ⟨_, (S330.selT (a := [.box b0 126 [Value.pointer (some q0_0), v0_1, v0_2, v0_3], .row 129 6 v0_1 n0_1 k0_1, .row 139 1 v0_2 n0_2 k0_2, .row 3 1 v0_3 n0_3 k0_3]) (l' := [.row 3 1 v0_3 n0_3 k0_3]) [3] (by decide) rfl), (Inc.rfl _)⟩)) rfl (fun w' hw' => (E.move (v := Value.pointer (some (⟨b0, 0, none⟩ : Addr))) rfl)) ?_
    refine FB.t (i := 1) (bs 17 3) rfl (SP.on ((S330.box_now (i := 0) rfl).sub (j := 3) (n := 1) (c := [v0_3]) rfl) (SP.nil ⟨_, (S330.selT (a := [.box b0 126 [Value.pointer (some q0_0), v0_1, v0_2, v0_3], .row 129 6 v0_1 n0_1 k0_1, .row 139 1 v0_2 n0_2 k0_2, .row 3 1 v0_3 n0_3 k0_3]) (l' := [.row 3 1 v0_3 n0_3 k0_3]) [3] (by decide) rfl), (Inc.rfl _)⟩)) rfl (fun w' hw' => (E.move (v := Value.pointer (some (⟨b0, 0, none⟩ : Addr))) rfl)) ?_
    refine FB.t (i := 2) (bs 17 7) rfl (SP.on ((S330.box_now (i := 0) rfl).sub (j := 3) (n := 1) (c := [v0_3]) rfl) (SP.nil ⟨_, (S330.selT (a := [.box b0 126 [Value.pointer (some q0_0), v0_1, v0_2, v0_3], .row 129 6 v0_1 n0_1 k0_1, .row 139 1 v0_2 n0_2 k0_2, .row 3 1 v0_3 n0_3 k0_3]) (l' := [.row 3 1 v0_3 n0_3 k0_3]) [3] (by decide) rfl), (Inc.rfl _)⟩)) rfl (fun w' hw' => (E.nilCheck rfl)) ?_
    refine FB.t (i := 3) (bs 17 15) rfl (SP.on ((S330.box_now (i := 0) rfl).sub (j := 3) (n := 1) (c := [v0_3]) rfl) (SP.nil ⟨_, (S330.selT (a := [.box b0 126 [Value.pointer (some q0_0), v0_1, v0_2, v0_3], .row 129 6 v0_1 n0_1 k0_1, .row 139 1 v0_2 n0_2 k0_2, .row 3 1 v0_3 n0_3 k0_3]) (l' := [.row 3 1 v0_3 n0_3 k0_3]) [3] (by decide) rfl), (Inc.rfl _)⟩)) rfl (fun w' hw' => (E.fieldAddr tf126_3 rfl)) ?_
    refine FB.p (i := 4) (bs 17 31) 0 [7, 8, 15, 16] rfl (SP.on ((S330.box_now (i := 0) rfl).sub (j := 3) (n := 1) (c := [v0_3]) rfl) (SP.nil ⟨_, (S330.selT (a := [.box b0 126 [Value.pointer (some q0_0), v0_1, v0_2, v0_3], .row 129 6 v0_1 n0_1 k0_1, .row 139 1 v0_2 n0_2 k0_2, .row 3 1 v0_3 n0_3 k0_3]) (l' := [.row 3 1 v0_3 n0_3 k0_3]) [3] (by decide) rfl), (Inc.rfl _)⟩)) rfl rfl (fun w' hw' => (E.load rfl (run_load0 Tryz.isAgg39 hw' rfl))) ?_
    refine FB.t (i := 5) (bs 17 63) rfl (SP.on ((S330.box_now (i := 0) rfl).sub (j := 3) (n := 1) (c := [v0_3]) rfl) (SP.nil ⟨_, (S330.selT (a := [.box b0 126 [Value.pointer (some q0_0), v0_1, v0_2, v0_3], .row 129 6 v0_1 n0_1 k0_1, .row 139 1 v0_2 n0_2 k0_2, .row 3 1 v0_3 n0_3 k0_3]) (l' := [.row 3 1 v0_3 n0_3 k0_3]) [3] (by decide) rfl), (Inc.rfl _)⟩)) rfl (fun w' hw' => (E.fieldAddr tf89_1 rfl)) ?_
    refine FB.t (i := 6) (bs 17 127) rfl (SP.on ((S330.box_now (i := 0) rfl).sub (j := 3) (n := 1) (c := [v0_3]) rfl) (SP.nil ⟨_, (S330.selT (a := [.box b0 126 [Value.pointer (some q0_0), v0_1, v0_2, v0_3], .row 129 6 v0_1 n0_1 k0_1, .row 139 1 v0_2 n0_2 k0_2, .row 3 1 v0_3 n0_3 k0_3]) (l' := [.row 3 1 v0_3 n0_3 k0_3]) [3] (by decide) rfl), (Inc.rfl _)⟩)) rfl (fun w' hw' => (E.load rfl (run_load1 Tryz.isAgg3 (at28.now hw'.sl) rfl))) ?_
    obtain ⟨p331, cs332, pt333, l334, at335, rel336, hall339⟩ := S330.row_atA (i := 3) rfl p0_3 (by decide) hx338
    obtain rfl := eI_open rel336
    refine FB.t (i := 7) (bs 17 255) rfl (SP.on ((S330.box_now (i := 0) rfl).sub (j := 3) (n := 1) (c := [v0_3]) rfl) (SP.nil ⟨_, (S330.selT (a := [.box b0 126 [Value.pointer (some q0_0), v0_1, v0_2, v0_3], .row 129 6 v0_1 n0_1 k0_1, .row 139 1 v0_2 n0_2 k0_2, .row 3 1 v0_3 n0_3 k0_3]) (l' := [.row 3 1 v0_3 n0_3 k0_3]) [3] (by decide) rfl), (Inc.rfl _)⟩)) rfl (fun w' hw' => (E.indexAddr te39 rfl rfl pt333)) ?_
    refine FB.t (i := 8) (bs 17 511) rfl (SP.on ((S330.box_now (i := 0) rfl).sub (j := 3) (n := 1) (c := [v0_3]) rfl) (SP.nil ⟨_, (S330.selT (a := [.box b0 126 [Value.pointer (some q0_0), v0_1, v0_2, v0_3], .row 129 6 v0_1 n0_1 k0_1, .row 139 1 v0_2 n0_2 k0_2, .row 3 1 v0_3 n0_3 k0_3]) (l' := [.row 3 1 v0_3 n0_3 k0_3]) [3] (by decide) rfl), (Inc.rfl _)⟩)) rfl (fun w' hw' => (E.load rfl (run_load0 Tryz.isAgg3 (hw'.use fun _ st => hall339 _ _ _ 0 st rfl) rfl))) ?_
    refine FB.t (i := 9) (bs 17 1023) rfl (SP.on ((S330.box_now (i := 0) rfl).sub (j := 3) (n := 1) (c := [v0_3]) rfl) (SP.nil ⟨_, (S330.selT (a := [.box b0 126 [Value.pointer (some q0_0), v0_1, v0_2, v0_3], .row 129 6 v0_1 n0_1 k0_1, .row 139 1 v0_2 n0_2 k0_2, .row 3 1 v0_3 n0_3 k0_3]) (l' := [.row 3 1 v0_3 n0_3 k0_3]) [3] (by decide) rfl), (Inc.rfl _)⟩)) rfl (fun w' hw' => (E.move (v := v323) rfl)) ?_
    refine FB.t (i := 10) (bs 17 2047) rfl (SP.on ((S330.box_now (i := 0) rfl).sub (j := 3) (n := 1) (c := [v0_3]) rfl) (SP.nil ⟨_, (S330.selT (a := [.box b0 126 [Value.pointer (some q0_0), v0_1, v0_2, v0_3], .row 129 6 v0_1 n0_1 k0_1, .row 139 1 v0_2 n0_2 k0_2, .row 3 1 v0_3 n0_3 k0_3]) (l' := [.row 3 1 v0_3 n0_3 k0_3]) [3] (by decide) rfl), (Inc.rfl _)⟩)) rfl (fun w' hw' => (E.move (v := v313) rfl)) ?_
    refine FB.t (i := 12) (bs 17 6143) rfl (SP.on ((S330.box_now (i := 0) rfl).sub (j := 3) (n := 1) (c := [v0_3]) rfl) (SP.nil ⟨_, (S330.selT (a := [.box b0 126 [Value.pointer (some q0_0), v0_1, v0_2, v0_3], .row 129 6 v0_1 n0_1 k0_1, .row 139 1 v0_2 n0_2 k0_2, .row 3 1 v0_3 n0_3 k0_3]) (l' := [.row 3 1 v0_3 n0_3 k0_3]) [3] (by decide) rfl), (Inc.rfl _)⟩)) rfl (fun w' hw' => (E.fieldAddr tf89_3 rfl)) ?_
    refine FB.t (i := 13) (bs 17 14335) rfl (SP.on ((S330.box_now (i := 0) rfl).sub (j := 3) (n := 1) (c := [v0_3]) rfl) (SP.nil ⟨_, (S330.selT (a := [.box b0 126 [Value.pointer (some q0_0), v0_1, v0_2, v0_3], .row 129 6 v0_1 n0_1 k0_1, .row 139 1 v0_2 n0_2 k0_2, .row 3 1 v0_3 n0_3 k0_3]) (l' := [.row 3 1 v0_3 n0_3 k0_3]) [3] (by decide) rfl), (Inc.rfl _)⟩)) rfl (fun w' hw' => (E.load rfl (run_load1 Tryz.isAgg3 (at28.now hw'.sl) rfl))) ?_
    refine FB.all1 (i := 11) (by kernel_rfl) ?_
    ·
     refine FC.call (l' := (bs 17 16383)) rfl (by kernel_rfl) rfl rfl rfl (E.call Tryz.call91 (A2 rfl rfl)) (w_impl_further S330.sl v323 x321.clause (h324.mono i27) v313 x311.clause (h314.mono i27) hr341) ?_
     rintro e w343 ⟨H342, v346, n347, cs348, rfl, r345, els349⟩
     refine ⟨_, rfl, ?_⟩
     have els349 := els349.mono (up_le S330.size)
     have S344 := S330.join (l' := (.row 3 1 v346 n347 cs348 :: .box b0 126 [Value.pointer (some q0_0), v0_1, v0_2, v0_3] :: .row 129 6 v0_1 n0_1 k0_1 :: .row 139 1 v0_2 n0_2 k0_2 :: .row 3 1 v0_3 n0_3 k0_3 :: L)) r345 rfl
     refine ⟨(SP.on ((S344.box_now (i := 1) rfl).sub (j := 3) (n := 1) (c := [v0_3]) rfl) (SP.nil ⟨_, (S344.selT (a := [.row 3 1 v346 n347 cs348, .box b0 126 [Value.pointer (some q0_0), v0_1, v0_2, v0_3], .row 129 6 v0_1 n0_1 k0_1, .row 139 1 v0_2 n0_2 k0_2, .row 3 1 v0_3 n0_3 k0_3]) (l' := [.row 3 1 v0_3 n0_3 k0_3]) [4] (by decide) rfl), r345.run.inc⟩)), ?_⟩
     refine FB.all1 (i := 14) (by kernel_rfl) ?_
     ·
      obtain ⟨H350, S351, i352, h353, nv354⟩ := S344.sealRowU (i := 0) (l' := (.box b0 126 [Value.pointer (some q0_0), v0_1, v0_2, v0_3] :: .row 129 6 v0_1 n0_1 k0_1 :: .row 139 1 v0_2 n0_2 k0_2 :: .row 3 1 v0_3 n0_3 k0_3 :: L)) rfl els349 (by decide) rfl
      refine FC.call (l' := (bs 17 32767)) rfl (by kernel_rfl) rfl rfl rfl (E.call Tryz.call222 (A2 rfl rfl)) (w_impl_withoutVar S351.sl v346 r340 (h353.mono upI) a2.pivot hr356) ?_
      rintro e w358 ⟨H357, v363, n364, cs365, rfl, r360, els366⟩
      refine ⟨_, rfl, ?_⟩
      obtain ⟨H361, r360, hU362⟩ := St.lendX i352 S344.sl r360
      have els366 := els366.mono (hU362.tr (up_le S344.size))
      have S359 := S344.join (l' := (.row 3 1 v363 n364 cs365 :: .row 3 1 v346 n347 cs348 :: .box b0 126 [Value.pointer (some q0_0), v0_1, v0_2, v0_3] :: .row 129 6 v0_1 n0_1 k0_1 :: .row 139 1 v0_2 n0_2 k0_2 :: .row 3 1 v0_3 n0_3 k0_3 :: L)) r360 rfl
      refine ⟨(SP.on ((S359.box_now (i := 2) rfl).sub (j := 3) (n := 1) (c := [v0_3]) rfl) (SP.nil ⟨_, (S359.selT (a := [.row 3 1 v363 n364 cs365, .row 3 1 v346 n347 cs348, .box b0 126 [Value.pointer (some q0_0), v0_1, v0_2, v0_3], .row 129 6 v0_1 n0_1 k0_1, .row 139 1 v0_2 n0_2 k0_2, .row 3 1 v0_3 n0_3 k0_3]) (l' := [.row 3 1 v0_3 n0_3 k0_3]) [5] (by decide) rfl), (r345.run.inc.tr r360.run.inc)⟩)), ?_⟩
      refine FB.all1 (i := 15) (by kernel_rfl) ?_
      ·
       obtain ⟨H367, S368, i369, h370, nv371⟩ := S359.sealRowU (i := 0) (l' := (.row 3 1 v346 n347 cs348 :: .box b0 126 [Value.pointer (some q0_0), v0_1, v0_2, v0_3] :: .row 129 6 v0_1 n0_1 k0_1 :: .row 139 1 v0_2 n0_2 k0_2 :: .row 3 1 v0_3 n0_3 k0_3 :: L)) rfl els366 (by decide) rfl
       have S374 : St H0 w0 H367 w358 (.row 3 1 v0_3 n0_3 k0_3 :: .row 3 1 v346 n347 cs348 :: .box b0 126 [Value.pointer (some q0_0), v0_1, v0_2, v0_3] :: .row 129 6 v0_1 n0_1 k0_1 :: .row 139 1 v0_2 n0_2 k0_2 :: L) := S368.front 4 rfl rfl
       have S375 : St H0 w0 H367 w358 (.row 139 1 v0_2 n0_2 k0_2 :: .row 3 1 v0_3 n0_3 k0_3 :: .row 3 1 v346 n347 cs348 :: .box b0 126 [Value.pointer (some q0_0), v0_1, v0_2, v0_3] :: .row 129 6 v0_1 n0_1 k0_1 :: L) := S374.front 4 rfl rfl
       have S376 : St H0 w0 H367 w358 (.row 129 6 v0_1 n0_1 k0_1 :: .row 139 1 v0_2 n0_2 k0_2 :: .row 3 1 v0_3 n0_3 k0_3 :: .row 3 1 v346 n347 cs348 :: .box b0 126 [Value.pointer (some q0_0), v0_1, v0_2, v0_3] :: L) := S375.front 4 rfl rfl
       have S377 : St H0 w0 H367 w358 (.box b0 126 [Value.pointer (some q0_0), v0_1, v0_2, v0_3] :: .row 129 6 v0_1 n0_1 k0_1 :: .row 139 1 v0_2 n0_2 k0_2 :: .row 3 1 v0_3 n0_3 k0_3 :: .row 3 1 v346 n347 cs348 :: L) := S376.front 4 rfl rfl
       refine FC.call (l' := (bs 17 65535)) rfl (by kernel_rfl) rfl rfl rfl (E.call Tryz.call221 (A3 rfl rfl rfl)) (w_impl_translator_widen (L := (.row 3 1 v346 n347 cs348 :: L)) S377 a0 (p0_0_3.mono (((i27.tr r345.run.inc).tr r360.run.inc).tr i369)) (p0_0_4.mono (((i27.tr r345.run.inc).tr r360.run.inc).tr i369)) (c0_0.mono (((i27.tr r345.run.inc).tr r360.run.inc).tr i369)) (p0_1.mono (up_mono (((i27.tr r345.run.inc).tr r360.run.inc).tr i369))) d0_1 (p0_2.mono (((i27.tr r345.run.inc).tr r360.run.inc).tr i369)) (p0_3.mono (up_mono (((i27.tr r345.run.inc).tr r360.run.inc).tr i369))) x337 v363 r355 (h370.mono upI) hr373) ?_
       rintro e w379 ⟨H378, v382, n383, cs384, v387, n388, cs389, rfl, ⟨S380, i381⟩, els385, nd386, els390⟩
       refine ⟨_, rfl, ?_⟩
       have S380 : St H0 w0 H378 w379 (.box b0 126 [Value.pointer (some q0_0), v382, v387, v0_3] :: .row 129 6 v382 n383 cs384 :: .row 139 1 v387 n388 cs389 :: .row 3 1 v0_3 n0_3 k0_3 :: .row 3 1 v346 n347 cs348 :: L) := S380
       refine ⟨(SP.on ((S380.box_now (i := 0) rfl).sub (j := 3) (n := 1) (c := [v0_3]) rfl) (SP.nil ⟨_, (S380.selT (a := [.box b0 126 [Value.pointer (some q0_0), v382, v387, v0_3], .row 129 6 v382 n383 cs384, .row 139 1 v387 n388 cs389, .row 3 1 v0_3 n0_3 k0_3, .row 3 1 v346 n347 cs348]) (l' := [.row 3 1 v0_3 n0_3 k0_3]) [3] (by decide) rfl), (((r345.run.inc.tr r360.run.inc).tr i369).tr i381)⟩)), ?_⟩
       refine FB.t (i := 16) (bs 17 131071) rfl (SP.on ((S380.box_now (i := 0) rfl).sub (j := 3) (n := 1) (c := [v0_3]) rfl) (SP.nil ⟨_, (S380.selT (a := [.box b0 126 [Value.pointer (some q0_0), v382, v387, v0_3], .row 129 6 v382 n383 cs384, .row 139 1 v387 n388 cs389, .row 3 1 v0_3 n0_3 k0_3, .row 3 1 v346 n347 cs348]) (l' := [.row 3 1 v0_3 n0_3 k0_3]) [3] (by decide) rfl), (((r345.run.inc.tr r360.run.inc).tr i369).tr i381)⟩)) rfl (fun w' hw' => (E.assign (v := Value.int .i64 r372.1) rfl)) ?_
       exact FB.done (by kernel_rfl) ⟨_, _, _, _, _, _, _, (S380.selT (a := [.box b0 126 [Value.pointer (some q0_0), v382, v387, v0_3], .row 129 6 v382 n383 cs384, .row 139 1 v387 n388 cs389, .row 3 1 v0_3 n0_3 k0_3, .row 3 1 v346 n347 cs348]) (l' := [.box b0 126 [Value.pointer (some q0_0), v382, v387, v0_3], .row 129 6 v382 n383 cs384, .row 139 1 v387 n388 cs389, .row 3 1 v0_3 n0_3 k0_3]) [0, 1, 2, 3] (by decide) rfl), (((r345.run.inc.tr r360.run.inc).tr i369).tr i381), els385, els390, nd386, rfl, rfl, rfl, rfl, rfl⟩
   ·
    rintro f404 w403 ⟨H400, v391, n392, cs393, v396, n397, cs398, S401, i402, els394, els399, nd395, k405, k406, k407, k408, k409⟩
    refine FW.seq ?_
    obtain ⟨x419, hx420, hp⟩ := bnd hp
    obtain ⟨r422, hr423, hp⟩ := bnd hp
    obtain ⟨r437, hr438, hp⟩ := bnd hp
    obtain ⟨r454, hr455, hp⟩ := bnd hp
    refine FW.drawB (SX H0 w0 H400 (.row 3 1 v0_3 n0_3 k0_3 :: L)) (fun f w => ∃ H : GH, ∃ v473 : Value, ∃ n474 : Nat, ∃ cs475 : List Value, ∃ v478 : Value, ∃ n479 : Nat, ∃ cs480 : List Value, St H0 w0 H w (.box b0 126 [Value.pointer (some q0_0), v473, v478, v0_3] :: .row 129 6 v473 n474 cs475 :: .row 139 1 v478 n479 cs480 :: .row 3 1 v0_3 n0_3 k0_3 :: L) ∧ Inc H400 H ∧ Els (up w0.heap.size H) ePcStep 6 cs475 r454.2.steps ∧ Els H (eL eI 1) 1 cs480 r454.2.polys ∧ (bl cs475).Nodup ∧ f 0 = Value.pointer (some (⟨b0, 0, none⟩ : Addr)) ∧ f 10 = Value.int .i64 r372.1 ∧ f 11 = Value.int .i64 r454.1) (by kernel_rfl) S401.sl ?_ ?_
    ·
     intro w410 r411
     have S412 := S401.call r411
     refine FB.phase [] (fun w => WAt w (Addr.add ⟨b0, 0, none⟩ 3) [v0_3]) ?_
     refine FB.t (i := 0) (bs 17 1) rfl (SP.on ((S412.box_now (i := 0) rfl).sub (j := 3) (n := 1) (c := [v0_3]) rfl) (SP.nil ⟨_, (S412.selT (a := [.box b0 126 [Value.pointer (some q0_0), v391, v396, v0_3], .row 129 6 v391 n392 cs393, .row 139 1 v396 n397 cs398, .row 3 1 v0_3 n0_3 k0_3]) (l' := [.row 3 1 v0_3 n0_3 k0_3]) [3] (by decide) rfl), (Inc.rfl _)⟩)) rfl (fun w' hw' => (E.move k405)) ?_
     refine FB.t (i := 1) (bs 17 3) rfl (SP.on ((S412.box_now (i := 0) rfl).sub (j := 3) (n := 1) (c := [v0_3]) rfl) (SP.nil ⟨_, (S412.selT (a := [.box b0 126 [Value.pointer (some q0_0), v391, v396, v0_3], .row 129 6 v391 n392 cs393, .row 139 1 v396 n397 cs398, .row 3 1 v0_3 n0_3 k0_3]) (l' := [.row 3 1 v0_3 n0_3 k0_3]) [3] (by decide) rfl), (Inc.rfl _)⟩)) rfl (fun w' hw' => (E.move k405)) ?_
     refine FB.t (i := 2) (bs 17 7) rfl (SP.on ((S412.box_now (i := 0) rfl).sub (j := 3) (n := 1) (c := [v0_3]) rfl) (SP.nil ⟨_, (S412.selT (a := [.box b0 126 [Value.pointer (some q0_0), v391, v396, v0_3], .row 129 6 v391 n392 cs393, .row 139 1 v396 n397 cs398, .row 3 1 v0_3 n0_3 k0_3]) (l' := [.row 3 1 v0_3 n0_3 k0_3]) [3] (by decide) rfl), (Inc.rfl _)⟩)) rfl (fun w' hw' => (E.nilCheck rfl)) ?_
     refine FB.t (i := 3) (bs 17 15) rfl (SP.on ((S412.box_now (i := 0) rfl).sub (j := 3) (n := 1) (c := [v0_3]) rfl) (SP.nil ⟨_, (S412.selT (a := [.box b0 126 [Value.pointer (some q0_0), v391, v396, v0_3], .row 129 6 v391 n392 cs393, .row 139 1 v396 n397 cs398, .row 3 1 v0_3 n0_3 k0_3]) (l' := [.row 3 1 v0_3 n0_3 k0_3]) [3] (by decide) rfl), (Inc.rfl _)⟩)) rfl (fun w' hw' => (E.fieldAddr tf126_3 rfl)) ?_
     refine FB.p (i := 4) (bs 17 31) 0 [7, 8, 15, 16] rfl (SP.on ((S412.box_now (i := 0) rfl).sub (j := 3) (n := 1) (c := [v0_3]) rfl) (SP.nil ⟨_, (S412.selT (a := [.box b0 126 [Value.pointer (some q0_0), v391, v396, v0_3], .row 129 6 v391 n392 cs393, .row 139 1 v396 n397 cs398, .row 3 1 v0_3 n0_3 k0_3]) (l' := [.row 3 1 v0_3 n0_3 k0_3]) [3] (by decide) rfl), (Inc.rfl _)⟩)) rfl rfl (fun w' hw' => (E.load rfl (run_load0 Tryz.isAgg39 hw' rfl))) ?_
     refine FB.t (i := 5) (bs 17 63) rfl (SP.on ((S412.box_now (i := 0) rfl).sub (j := 3) (n := 1) (c := [v0_3]) rfl) (SP.nil ⟨_, (S412.selT (a := [.box b0 126 [Value.pointer (some q0_0), v391, v396, v0_3], .row 129 6 v391 n392 cs393, .row 139 1 v396 n397 cs398, .row 3 1 v0_3 n0_3 k0_3]) (l' := [.row 3 1 v0_3 n0_3 k0_3]) [3] (by decide) rfl), (Inc.rfl _)⟩)) rfl (fun w' hw' => (E.fieldAddr tf89_2 k406)) ?_
     refine FB.t (i := 6) (bs 17 127) rfl (SP.on ((S412.box_now (i := 0) rfl).sub (j := 3) (n := 1) (c := [v0_3]) rfl) (SP.nil ⟨_, (S412.selT (a := [.box b0 126 [Value.pointer (some q0_0), v391, v396, v0_3], .row 129 6 v391 n392 cs393, .row 139 1 v396 n397 cs398, .row 3 1 v0_3 n0_3 k0_3]) (l' := [.row 3 1 v0_3 n0_3 k0_3]) [3] (by decide) rfl), (Inc.rfl _)⟩)) rfl (fun w' hw' => (E.load rfl (run_load1 Tryz.isAgg3 ((at28.mono i402).now hw'.sl) rfl))) ?_
     obtain ⟨p413, cs414, pt415, l416, at417, rel418, hall421⟩ := S412.row_atA (i := 3) rfl p0_3 (by decide) hx420
     obtain rfl := eI_open rel418
     refine FB.t (i := 7) (bs 17 255) rfl (SP.on ((S412.box_now (i := 0) rfl).sub (j := 3) (n := 1) (c := [v0_3]) rfl) (SP.nil ⟨_, (S412.selT (a := [.box b0 126 [Value.pointer (some q0_0), v391, v396, v0_3], .row 129 6 v391 n392 cs393, .row 139 1 v396 n397 cs398, .row 3 1 v0_3 n0_3 k0_3]) (l' := [.row 3 1 v0_3 n0_3 k0_3]) [3] (by decide) rfl), (Inc.rfl _)⟩)) rfl (fun w' hw' => (E.indexAddr te39 rfl rfl pt415)) ?_
     refine FB.t (i := 8) (bs 17 511) rfl (SP.on ((S412.box_now (i := 0) rfl).sub (j := 3) (n := 1) (c := [v0_3]) rfl) (SP.nil ⟨_, (S412.selT (a := [.box b0 126 [Value.pointer (some q0_0), v391, v396, v0_3], .row 129 6 v391 n392 cs393, .row 139 1 v396 n397 cs398, .row 3 1 v0_3 n0_3 k0_3]) (l' := [.row 3 1 v0_3 n0_3 k0_3]) [3] (by decide) rfl), (Inc.rfl _)⟩)) rfl (fun w' hw' => (E.load rfl (run_load0 Tryz.isAgg3 (hw'.use fun _ st => hall421 _ _ _ 0 st rfl) rfl))) ?_
     refine FB.t (i := 9) (bs 17 1023) rfl (SP.on ((S412.box_now (i := 0) rfl).sub (j := 3) (n := 1) (c := [v0_3]) rfl) (SP.nil ⟨_, (S412.selT (a := [.box b0 126 [Value.pointer (some q0_0), v391, v396, v0_3], .row 129 6 v391 n392 cs393, .row 139 1 v396 n397 cs398, .row 3 1 v0_3 n0_3 k0_3]) (l' := [.row 3 1 v0_3 n0_3 k0_3]) [3] (by decide) rfl), (Inc.rfl _)⟩)) rfl (fun w' hw' => (E.move k407)) ?_
     refine FB.t (i := 10) (bs 17 2047) rfl (SP.on ((S412.box_now (i := 0) rfl).sub (j := 3) (n := 1) (c := [v0_3]) rfl) (SP.nil ⟨_, (S412.selT (a := [.box b0 126 [Value.pointer (some q0_0), v391, v396, v0_3], .row 129 6 v391 n392 cs393, .row 139 1 v396 n397 cs398, .row 3 1 v0_3 n0_3 k0_3]) (l' := [.row 3 1 v0_3 n0_3 k0_3]) [3] (by decide) rfl), (Inc.rfl _)⟩)) rfl (fun w' hw' => (E.move k408)) ?_
     refine FB.t (i := 12) (bs 17 6143) rfl (SP.on ((S412.box_now (i := 0) rfl).sub (j := 3) (n := 1) (c := [v0_3]) rfl) (SP.nil ⟨_, (S412.selT (a := [.box b0 126 [Value.pointer (some q0_0), v391, v396, v0_3], .row 129 6 v391 n392 cs393, .row 139 1 v396 n397 cs398, .row 3 1 v0_3 n0_3 k0_3]) (l' := [.row 3 1 v0_3 n0_3 k0_3]) [3] (by decide) rfl), (Inc.rfl _)⟩)) rfl (fun w' hw' => (E.fieldAddr tf89_3 k406)) ?_
     refine FB.t (i := 13) (bs 17 14335) rfl (SP.on ((S412.box_now (i := 0) rfl).sub (j := 3) (n := 1) (c := [v0_3]) rfl) (SP.nil ⟨_, (S412.selT (a := [.box b0 126 [Value.pointer (some q0_0), v391, v396, v0_3], .row 129 6 v391 n392 cs393, .row 139 1 v396 n397 cs398, .row 3 1 v0_3 n0_3 k0_3]) (l' := [.row 3 1 v0_3 n0_3 k0_3]) [3] (by decide) rfl), (Inc.rfl _)⟩)) rfl (fun w' hw' => (E.load rfl (run_load1 Tryz.isAgg3 ((at28.mono i402).now hw'.sl) rfl))) ?_
     refine FB.all1 (i := 11) (by kernel_rfl) ?_
     ·
      refine FC.call (l' := (bs 17 16383)) rfl (by kernel_rfl) rfl rfl rfl (E.call Tryz.call91 (A2 rfl rfl)) (w_impl_further S412.sl v313 x311.clause (h314.mono (i27.tr i402)) v323 x321.clause (h324.mono (i27.tr i402)) hr423) ?_
      rintro e w425 ⟨H424, v428, n429, cs430, rfl, r427, els431⟩
      refine ⟨_, rfl, ?_⟩
      have els431 := els431.mono (up_le S412.size)
      have S426 := S412.join (l' := (.row 3 1 v428 n429 cs430 :: .box b0 126 [Value.pointer (some q0_0), v391, v396, v0_3] :: .row 129 6 v391 n392 cs393 :: .row 139 1 v396 n397 cs398 :: .row 3 1 v0_3 n0_3 k0_3 :: L)) r427 rfl
      refine ⟨(SP.on ((S426.box_now (i := 1) rfl).sub (j := 3) (n := 1) (c := [v0_3]) rfl) (SP.nil ⟨_, (S426.selT (a := [.row 3 1 v428 n429 cs430, .box b0 126 [Value.pointer (some q0_0), v391, v396, v0_3], .row 129 6 v391 n392 cs393, .row 139 1 v396 n397 cs398, .row 3 1 v0_3 n0_3 k0_3]) (l' := [.row 3 1 v0_3 n0_3 k0_3]) [4] (by decide) rfl), r427.run.inc⟩)), ?_⟩
      refine FB.all1 (i := 14) (by kernel_rfl) ?_
      ·
       obtain ⟨H432, S433, i434, h435, nv436⟩ := S426.sealRowU (i := 0) (l' := (.box b0 126 [Value.pointer (some q0_0), v391, v396, v0_3] :: .row 129 6 v391 n392 cs393 :: .row 139 1 v396 n397 cs398 :: .row 3 1 v0_3 n0_3 k0_3 :: L)) rfl els431 (by decide) rfl
       refine FC.call (l' := (bs 17 32767)) rfl (by kernel_rfl) rfl rfl rfl (E.call Tryz.call222 (A2 rfl rfl)) (w_impl_withoutVar S433.sl v428 r422 (h435.mono upI) a2.pivot hr438) ?_
       rintro e w440 ⟨H439, v445, n446, cs447, rfl, r442, els448⟩
       refine ⟨_, rfl, ?_⟩
       obtain ⟨H443, r442, hU444⟩ := St.lendX i434 S426.sl r442
       have els448 := els448.mono (hU444.tr (up_le S426.size))
       have S441 := S426.join (l' := (.row 3 1 v445 n446 cs447 :: .row 3 1 v428 n429 cs430 :: .box b0 126 [Value.pointer (some q0_0), v391, v396, v0_3] :: .row 129 6 v391 n392 cs393 :: .row 139 1 v396 n397 cs398 :: .row 3 1 v0_3 n0_3 k0_3 :: L)) r442 rfl
       refine ⟨(SP.on ((S441.box_now (i := 2) rfl).sub (j := 3) (n := 1) (c := [v0_3]) rfl) (SP.nil ⟨_, (S441.selT (a := [.row 3 1 v445 n446 cs447, .row 3 1 v428 n429 cs430, .box b0 126 [Value.pointer (some q0_0), v391, v396, v0_3], .row 129 6 v391 n392 cs393, .row 139 1 v396 n397 cs398, .row 3 1 v0_3 n0_3 k0_3]) (l' := [.row 3 1 v0_3 n0_3 k0_3]) [5] (by decide) rfl), (r427.run.inc.tr r442.run.inc)⟩)), ?_⟩
       refine FB.all1 (i := 15) (by kernel_rfl) ?_
       ·
        obtain ⟨H449, S450, i451, h452, nv453⟩ := S441.sealRowU (i := 0) (l' := (.row 3 1 v428 n429 cs430 :: .box b0 126 [Value.pointer (some q0_0), v391, v396, v0_3] :: .row 129 6 v391 n392 cs393 :: .row 139 1 v396 n397 cs398 :: .row 3 1 v0_3 n0_3 k0_3 :: L)) rfl els448 (by decide) rfl
        have S456 : St H0 w0 H449 w440 (.row 3 1 v0_3 n0_3 k0_3 :: .row 3 1 v428 n429 cs430 :: .box b0 126 [Value.pointer (some q0_0), v391, v396, v0_3] :: .row 129 6 v391 n392 cs393 :: .row 139 1 v396 n397 cs398 :: L) := S450.front 4 rfl rfl
        have S457 : St H0 w0 H449 w440 (.row 139 1 v396 n397 cs398 :: .row 3 1 v0_3 n0_3 k0_3 :: .row 3 1 v428 n429 cs430 :: .box b0 126 [Value.pointer (some q0_0), v391, v396, v0_3] :: .row 129 6 v391 n392 cs393 :: L) := S456.front 4 rfl rfl
        have S458 : St H0 w0 H449 w440 (.row 129 6 v391 n392 cs393 :: .row 139 1 v396 n397 cs398 :: .row 3 1 v0_3 n0_3 k0_3 :: .row 3 1 v428 n429 cs430 :: .box b0 126 [Value.pointer (some q0_0), v391, v396, v0_3] :: L) := S457.front 4 rfl rfl
        have S459 : St H0 w0 H449 w440 (.box b0 126 [Value.pointer (some q0_0), v391, v396, v0_3] :: .row 129 6 v391 n392 cs393 :: .row 139 1 v396 n397 cs398 :: .row 3 1 v0_3 n0_3 k0_3 :: .row 3 1 v428 n429 cs430 :: L) := S458.front 4 rfl rfl
        refine FC.call (l' := (bs 17 65535)) rfl (by kernel_rfl) rfl rfl rfl (E.call Tryz.call221 (A3 rfl rfl rfl)) (w_impl_translator_widen (L := (.row 3 1 v428 n429 cs430 :: L)) S459 (translator.mk a0.algebra r372.2.steps r372.2.polys a0.at_) (p0_0_3.mono ((((i27.tr i402).tr r427.run.inc).tr r442.run.inc).tr i451)) (p0_0_4.mono ((((i27.tr i402).tr r427.run.inc).tr r442.run.inc).tr i451)) (c0_0.mono ((((i27.tr i402).tr r427.run.inc).tr r442.run.inc).tr i451)) (els394.mono (up_mono ((r427.run.inc.tr r442.run.inc).tr i451))) nd395 (els399.mono ((r427.run.inc.tr r442.run.inc).tr i451)) (p0_3.mono (up_mono ((((i27.tr i402).tr r427.run.inc).tr r442.run.inc).tr i451))) x419 v445 r437 (h452.mono upI) hr455) ?_
        rintro e w461 ⟨H460, v464, n465, cs466, v469, n470, cs471, rfl, ⟨S462, i463⟩, els467, nd468, els472⟩
        refine ⟨_, rfl, ?_⟩
        have S462 : St H0 w0 H460 w461 (.box b0 126 [Value.pointer (some q0_0), v464, v469, v0_3] :: .row 129 6 v464 n465 cs466 :: .row 139 1 v469 n470 cs471 :: .row 3 1 v0_3 n0_3 k0_3 :: .row 3 1 v428 n429 cs430 :: L) := S462
        refine ⟨(SP.on ((S462.box_now (i := 0) rfl).sub (j := 3) (n := 1) (c := [v0_3]) rfl) (SP.nil ⟨_, (S462.selT (a := [.box b0 126 [Value.pointer (some q0_0), v464, v469, v0_3], .row 129 6 v464 n465 cs466, .row 139 1 v469 n470 cs471, .row 3 1 v0_3 n0_3 k0_3, .row 3 1 v428 n429 cs430]) (l' := [.row 3 1 v0_3 n0_3 k0_3]) [3] (by decide) rfl), (((r427.run.inc.tr r442.run.inc).tr i451).tr i463)⟩)), ?_⟩
        refine FB.t (i := 16) (bs 17 131071) rfl (SP.on ((S462.box_now (i := 0) rfl).sub (j := 3) (n := 1) (c := [v0_3]) rfl) (SP.nil ⟨_, (S462.selT (a := [.box b0 126 [Value.pointer (some q0_0), v464, v469, v0_3], .row 129 6 v464 n465 cs466, .row 139 1 v469 n470 cs471, .row 3 1 v0_3 n0_3 k0_3, .row 3 1 v428 n429 cs430]) (l' := [.row 3 1 v0_3 n0_3 k0_3]) [3] (by decide) rfl), (((r427.run.inc.tr r442.run.inc).tr i451).tr i463)⟩)) rfl (fun w' hw' => (E.assign (v := Value.int .i64 r454.1) rfl)) ?_
        exact FB.done (by kernel_rfl) ⟨_, _, _, _, _, _, _, (S462.selT (a := [.box b0 126 [Value.pointer (some q0_0), v464, v469, v0_3], .row 129 6 v464 n465 cs466, .row 139 1 v469 n470 cs471, .row 3 1 v0_3 n0_3 k0_3, .row 3 1 v428 n429 cs430]) (l' := [.box b0 126 [Value.pointer (some q0_0), v464, v469, v0_3], .row 129 6 v464 n465 cs466, .row 139 1 v469 n470 cs471, .row 3 1 v0_3 n0_3 k0_3]) [0, 1, 2, 3] (by decide) rfl), (((r427.run.inc.tr r442.run.inc).tr i451).tr i463), els467, els472, nd468, k405, k409, rfl⟩
    ·
     rintro f486 w485 ⟨H482, v473, n474, cs475, v478, n479, cs480, S483, i484, els476, els481, nd477, k487, k488, k489⟩
     refine FW.seq (FW.region ?_)
     refine FL.v (E.move k487) ?_
     refine FL.v (E.move k488) ?_
     refine FL.v (E.move k489) ?_
     obtain ⟨r490, hr491, hp⟩ := bnd hp
     have S492 : St H0 w0 H482 w485 (.row 3 1 v0_3 n0_3 k0_3 :: .box b0 126 [Value.pointer (some q0_0), v473, v478, v0_3] :: .row 129 6 v473 n474 cs475 :: .row 139 1 v478 n479 cs480 :: L) := S483.front 3 rfl rfl
     have S493 : St H0 w0 H482 w485 (.row 139 1 v478 n479 cs480 :: .row 3 1 v0_3 n0_3 k0_3 :: .box b0 126 [Value.pointer (some q0_0), v473, v478, v0_3] :: .row 129 6 v473 n474 cs475 :: L) := S492.front 3 rfl rfl
     have S494 : St H0 w0 H482 w485 (.row 129 6 v473 n474 cs475 :: .row 139 1 v478 n479 cs480 :: .row 3 1 v0_3 n0_3 k0_3 :: .box b0 126 [Value.pointer (some q0_0), v473, v478, v0_3] :: L) := S493.front 3 rfl rfl
     have S495 : St H0 w0 H482 w485 (.box b0 126 [Value.pointer (some q0_0), v473, v478, v0_3] :: .row 129 6 v473 n474 cs475 :: .row 139 1 v478 n479 cs480 :: .row 3 1 v0_3 n0_3 k0_3 :: L) := S494.front 3 rfl rfl
     refine FL.call rfl rfl rfl (E.call Tryz.call220 (A5 rfl rfl rfl rfl rfl)) (w_impl_translator_sum (L := (L)) S495 (translator.mk a0.algebra r454.2.steps r454.2.polys a0.at_) (p0_0_3.mono ((i27.tr i402).tr i484)) (p0_0_4.mono ((i27.tr i402).tr i484)) (c0_0.mono ((i27.tr i402).tr i484)) els476 nd477 els481 (p0_3.mono (up_mono ((i27.tr i402).tr i484))) r372.1 r454.1 1 1 hr491) ?_
     rintro e w497 ⟨H496, v500, n501, cs502, v505, n506, cs507, rfl, ⟨S498, i499⟩, els503, nd504, els508⟩
     refine ⟨_, rfl, ?_⟩
     have S498 : St H0 w0 H496 w497 (.box b0 126 [Value.pointer (some q0_0), v500, v505, v0_3] :: .row 129 6 v500 n501 cs502 :: .row 139 1 v505 n506 cs507 :: .row 3 1 v0_3 n0_3 k0_3 :: L) := S498
     refine FL.v (E.assign (v := Value.int .i64 r490.1) rfl) ?_
     refine FL.nil ?_
     refine FW.ret ?_
     obtain rfl := Option.some.inj hp
     exact ⟨.inr rfl, res1 rfl rfl ⟨_, _, _, _, _, _, _, rfl, ⟨S498, (((i27.tr i402).tr i484).tr i499)⟩, els503, nd504, els508⟩⟩

@[reducible] def p_impl_translate (Ha : GH) (wa : World) (r : ((Option translator) × Bool)) : Ending → World → Prop :=
  fun e w' => ∃ H' : GH, ∃ v0 : Value, e = .returned (Value.tuple #[v0, Value.bool r.2]) ∧ Run wa.heap.size Ha wa H' w' ∧ OP (fun (q : Addr) (x : translator) => ∃ q0R_0 : Addr, ∃ v0R_0_3 : Value, ∃ v0R_0_4 : Value, ∃ v0R_1 : Value, ∃ v0R_2 : Value, ∃ v0R_3 : Value, RSl H' (eL eI 1) 1 v0R_0_3 x.algebra.f.clauses ∧ (∃ c, Nest (up wa.heap.size H') (eL eI 1) 1 v0R_0_4 x.algebra.q c) ∧ CAt H' q0R_0 [Value.int .i64 x.algebra.ring.p, Value.int .i64 x.algebra.ring.vars, Value.int .i64 x.algebra.f.vars, v0R_0_3, v0R_0_4] ∧ (∃ c, Nest (up wa.heap.size H') ePcStep 6 v0R_1 x.steps c) ∧ RSl H' (eL eI 1) 1 v0R_2 x.polys ∧ RSl (up wa.heap.size H') eI 1 v0R_3 x.at_ ∧ CAt H' q [Value.pointer (some q0R_0), v0R_1, v0R_2, v0R_3]) v0 r.1
theorem w_impl_translate {Ha : GH} {wa : World} (hs : Sl Ha wa) (a0 : Int) (a1 : Cnf) (v1_1 : Value) (p1_1 : RSl Ha (eL eI 1) 1 v1_1 a1.clauses) (v2 : Value) (a2 : List ResStep) (p2 : RSl Ha eResStep 4 v2 a2) {r : ((Option translator) × Bool)} (hp : (PF.impl_translate a0 a1 a2) = some r) :
    Calls Tryz.prog 99 #[Value.int .i64 a0, Value.agg #[Value.int .i64 a1.vars, v1_1], v2] wa (p_impl_translate Ha wa r) := by
  unfold PF.impl_translate at hp
  have S0 := St.init hs
  refine calls_go (N := 51) (args := [Value.int .i64 a0, Value.agg #[Value.int .i64 a1.vars, v1_1], v2]) Tryz.func99 rfl rfl rfl ?_
  refine FW.seq (FW.region ?_)
  obtain ⟨b21, w22, run23, S24⟩ := S0.box (P := Tryz.prog) 31 [Value.int .i64 a1.vars, v1_1] (v := Value.agg #[Value.int .i64 a1.vars, v1_1]) rfl (ones_cons rfl (ones_cons p1_1.one ones_nil))
  refine FL.v (E.box rfl run23) ?_
  obtain ⟨H25, S26, i27, at28⟩ := S24.sealBox (i := 0) (l' := []) rfl rfl
  refine FL.v (E.assign (v := Value.pointer none) rfl) ?_
  refine FL.v (E.assign (v := Value.bool false) rfl) ?_
  refine FL.nil (FW.seq (FW.region ?_))
  refine FL.v (E.move (v := Value.int .i64 a0) rfl) ?_
  refine FL.v (E.load rfl (run_loadA Tryz.isAgg31 Tryz.sizeOf31 (at28.now S26.sl) rfl)) ?_
  obtain ⟨r29, hr30, hp⟩ := bnd hp
  refine FL.call rfl rfl rfl (E.call Tryz.call107 (A2 rfl rfl)) (w_impl_algebraOf S26.sl a0 a1 v1_1 (p1_1.mono i27) hr30) ?_
  rintro e w32 ⟨H31, v35, rfl, r34, h36⟩
  refine ⟨_, rfl, ?_⟩
  have S33 := S26.call r34
  refine FL.v (E.move (v := Value.tuple #[v35, Value.bool r29.2]) rfl) ?_
  refine FL.v (E.extract (i := 0) rfl rfl) ?_
  refine FL.v (E.extract (i := 1) rfl rfl) ?_
  refine FL.v (E.assign (v := v35) rfl) ?_
  refine FL.v (E.assign (v := Value.bool r29.2) rfl) ?_
  refine FL.nil (FW.seq (FW.seq (FW.region ?_)))
  refine FL.v (E.move (v := Value.bool r29.2) rfl) ?_
  refine FL.v (E.not rfl) ?_
  refine FL.v (E.move (v := Value.bool (!r29.2)) rfl) ?_
  obtain ⟨t42, hqt42, hp⟩ := bnd hp
  refine FL.cut 5 (fun f w => ∃ H : GH, St Ha wa H w [] ∧ Inc H31 H ∧ f 2 = v2 ∧ f 8 = v35 ∧ f 26 = Value.bool t42) ?_ ?_
  ·
    clear hp; have hp := hqt42; clear hqt42
    rcases ifB hp with ⟨c48, hp⟩ | ⟨c48, hp⟩
    ·
      refine FL.skip (wF_no rfl rfl rfl c48) rfl ?_
      refine FL.skip (wF_no rfl rfl rfl c48) rfl ?_
      refine FL.skip (wF_no rfl rfl rfl c48) rfl ?_
      refine FL.skip (wF_no rfl rfl rfl c48) rfl ?_
      obtain rfl := Option.some.inj hp
      refine FL.v (E.pickT rfl c48 rfl) ?_
      exact FL.nil ⟨rfl, _, S33, (Inc.rfl _), rfl, rfl, rfl⟩
    ·
      refine FL.val (wF_yes rfl rfl rfl c48) rfl rfl (E.load rfl (run_loadA Tryz.isAgg31 Tryz.sizeOf31 ((at28.mono r34.inc).now S33.sl) rfl)) ?_
      refine FL.val (wF_yes rfl rfl rfl c48) rfl rfl (E.move (v := v2) rfl) ?_
      obtain ⟨r49, hr50, hp⟩ := bnd hp
      refine FL.call (wF_yes rfl rfl rfl c48) rfl rfl (E.call Tryz.call74 (A2 rfl rfl)) (w_impl_IsDerivation S33.sl a1 v1_1 (p1_1.mono (i27.tr r34.inc)) v2 a2 (p2.mono (i27.tr r34.inc)) hr50) ?_
      rintro e w51 ⟨rfl, r52⟩
      refine ⟨_, rfl, ?_⟩
      have S53 := S33.call r52
      refine FL.val (wF_yes rfl rfl rfl c48) rfl rfl (E.not rfl) ?_
      obtain rfl := Option.some.inj hp
      refine FL.v (E.pickF rfl c48 rfl) ?_
      exact FL.nil ⟨rfl, _, S53, (Inc.rfl _), rfl, rfl, rfl⟩
  rintro f47 w46 ⟨H43, S44, i45, k54, k55, k56⟩
  refine FL.nil ?_
  rcases ifB hp with ⟨c57, hp⟩ | ⟨c57, hp⟩
  ·
    refine FW.condT k56 c57 ?_
    refine FW.seq (FW.region ?_)
    refine FL.v (E.assign (v := Value.pointer none) rfl) ?_
    refine FL.v (E.assign (v := Value.bool false) rfl) ?_
    refine FL.nil ?_
    refine FW.ret ?_
    obtain rfl := Option.some.inj hp
    exact ⟨.inr rfl, res2 rfl rfl rfl ⟨_, _, rfl, S44.run, rfl⟩⟩
  ·
    refine FW.condF k56 c57 ?_
    refine FW.skip (FW.seq ?_)
    obtain ⟨y58, hy59, hp⟩ := bnd hp
    rw [hy59] at h36
    obtain ⟨q60, rfl, v61, v63, h62, ⟨c66, ns65⟩, at68⟩ := h36
    have h64 := ns65.rsl
    have nv67 : New H25 [v63] := New.of_up S26.sl h64.dom
    have h64 := h64.mono (up_le S26.size)
    have ns65 := ns65.mono (up_le S26.size)
    refine FW.region ?_
    refine FL.v (E.move k55) ?_
    refine FL.v (E.build (B1 rfl) (run_build _ 126 #[(0, Value.pointer (some q60))] #[Value.pointer (some q60), Value.slice none 0 0, Value.slice none 0 0, Value.slice none 0 0] (by rfl))) ?_
    have S73 := S44.nil 129 6
    have els74 : Els (up wa.heap.size H43) ePcStep 6 [] [] := Els.nil
    have S75 := S73.nil 139 1
    have els76 : Els (up wa.heap.size H43) (eL eI 1) 1 [] [] := Els.nil
    have S77 := S75.nil 3 1
    have els78 : Els (up wa.heap.size H43) eI 1 [] [] := Els.nil
    obtain ⟨b69, w70, run71, S72⟩ := S77.box (P := Tryz.prog) 126 [Value.pointer (some q60), (Value.slice none 0 0), (Value.slice none 0 0), (Value.slice none 0 0)] (v := Value.agg #[Value.pointer (some q60), Value.slice none 0 0, Value.slice none 0 0, Value.slice none 0 0]) rfl (ones_cons rfl (ones_cons (Ln.one (S77.row_ln (i := 2) rfl)) (ones_cons (Ln.one (S77.row_ln (i := 1) rfl)) (ones_cons (Ln.one (S77.row_ln (i := 0) rfl)) ones_nil))))
    refine FL.v (E.box rfl run71) ?_
    refine FL.v (E.assign (v := Value.pointer (some (⟨b69, 0, none⟩ : Addr))) rfl) ?_
    refine FL.nil (FW.seq (FW.seq (FW.region ?_)))
    refine FL.v (E.move k54) ?_
    refine FL.v (E.lenP te28 rfl p2) ?_
    refine FL.v (E.move (v := Value.int .i64 0) rfl) ?_
    refine FL.nil ?_
    obtain ⟨q80, hq, hp⟩ := bndR hp
    refine FW.block ?_
    refine FW.mono (FW.forL (S := ((List Int) × (List (List Int)) × (List PcStep))) (X := Empty) (fun (i80 : Nat) (s80 : ((List Int) × (List (List Int)) × (List PcStep))) f w => ∃ H : GH, ∃ v37 : Value, ∃ n38 : Nat, ∃ cs40 : List Value, ∃ v81 : Value, ∃ n82 : Nat, ∃ cs83 : List Value, ∃ v85 : Value, ∃ n86 : Nat, ∃ cs87 : List Value, St Ha wa H w [.box b69 126 [Value.pointer (some q60), v85, v81, v37], .row 3 1 v37 n38 cs40, .row 139 1 v81 n82 cs83, .row 129 6 v85 n86 cs87] ∧ Inc H43 H ∧ Els (up wa.heap.size H) eI 1 cs40 s80.1 ∧ Els H (eL eI 1) 1 cs83 s80.2.1 ∧ Els (up wa.heap.size H) ePcStep 6 cs87 s80.2.2 ∧ (bl cs87).Nodup ∧ f 32 = Value.int .i64 ((i80 : Nat) : Int) ∧ f 2 = v2 ∧ f 10 = Value.pointer (some (⟨b69, 0, none⟩ : Addr)) ∧ f 30 = v2 ∧ f 31 = Value.int .i64 (len a2)) (fun (q : Rs ((List Int) × (List (List Int)) × (List PcStep)) Empty) e f w => match q with | .go s80 => e = Exit.exit 0 ∧ (∃ H : GH, ∃ v37 : Value, ∃ n38 : Nat, ∃ cs40 : List Value, ∃ v81 : Value, ∃ n82 : Nat, ∃ cs83 : List Value, ∃ v85 : Value, ∃ n86 : Nat, ∃ cs87 : List Value, St Ha wa H w [.box b69 126 [Value.pointer (some q60), v85, v81, v37], .row 3 1 v37 n38 cs40, .row 139 1 v81 n82 cs83, .row 129 6 v85 n86 cs87] ∧ Inc H43 H ∧ Els (up wa.heap.size H) eI 1 cs40 s80.1 ∧ Els H (eL eI 1) 1 cs83 s80.2.1 ∧ Els (up wa.heap.size H) ePcStep 6 cs87 s80.2.2 ∧ (bl cs87).Nodup ∧ f 10 = Value.pointer (some (⟨b69, 0, none⟩ : Addr))) | .rt x => x.elim) hq ⟨_, _, _, _, _, _, _, _, _, _, S72, (Inc.rfl _), els78, (els76.mono upI), els74, (show (bl []).Nodup from List.nodup_nil), rfl, k54, rfl, rfl, rfl⟩ ?_ ?_) ?_
    ·
      clear hp hq
      rintro i80 y79 s80 f94 w93 ⟨H90, v37, n38, cs40, v81, n82, cs83, v85, n86, cs87, S91, i92, els41, els84, els88, nd89, k95, k96, k97, k98, k99⟩ hx80 o184 hp
      refine FW.seq (FW.region ?_)
      refine FL.v (E.lssT k95 k99 (lss_len hx80)) ?_
      refine FL.nil (FW.seq ?_)
      refine FW.condT rfl rfl ?_
      refine FW.skip (FW.seq (FW.block (FW.seq (FW.region ?_))))
      obtain ⟨p100, cs101, pt102, l103, at104, rel105⟩ := p2.at (ix_nat hx80)
      obtain ⟨v106, rfl, h107⟩ := eResStep_open rel105
      refine FL.v (E.indexAddr te28 k98 k95 pt102) ?_
      refine FL.v (E.load rfl (run_loadA Tryz.isAgg89 Tryz.sizeOf89 ((at104.mono (((i27.tr r34.inc).tr i45).tr i92)).now S91.sl) rfl)) ?_
      obtain ⟨b108, w109, run110, S111⟩ := S91.alloc (P := Tryz.prog) 89 [Value.slice none 0 0, Value.int .i64 0, Value.int .i64 0, Value.int .i64 0] Tryz.zeroValue89 rfl (ones_cons rfl (ones_cons rfl (ones_cons rfl (ones_cons rfl ones_nil))))
      refine FL.v (E.alloc run110) ?_
      obtain ⟨w112, run113, S114⟩ := S111.store0 (P := Tryz.prog) (t := 89) (i := 0) (cs' := [v106, Value.int .i64 y79.left, Value.int .i64 y79.right, Value.int .i64 y79.pivot]) (l' := [.box b108 89 [v106, Value.int .i64 y79.left, Value.int .i64 y79.right, Value.int .i64 y79.pivot], .box b69 126 [Value.pointer (some q60), v85, v81, v37], .row 3 1 v37 n38 cs40, .row 139 1 v81 n82 cs83, .row 129 6 v85 n86 cs87]) (v := Value.agg #[v106, Value.int .i64 y79.left, Value.int .i64 y79.right, Value.int .i64 y79.pivot]) (c := [v106, Value.int .i64 y79.left, Value.int .i64 y79.right, Value.int .i64 y79.pivot]) rfl Tryz.sizeOf89 rfl rfl (ones_cons h107.one (ones_cons rfl (ones_cons rfl (ones_cons rfl ones_nil)))) (Nat.le_of_ble_eq_true rfl) rfl rfl
      refine FL.act rfl rfl (E.store rfl rfl run113) ?_
      obtain ⟨H115, S116, i117, at118⟩ := S114.sealBox (i := 0) (l' := [.box b69 126 [Value.pointer (some q60), v85, v81, v37], .row 3 1 v37 n38 cs40, .row 139 1 v81 n82 cs83, .row 129 6 v85 n86 cs87]) rfl rfl
      refine FL.nil ?_
      obtain ⟨r122, hr123, hp⟩ := bnd hp
      obtain ⟨xs147, hz148, hp⟩ := bnd hp
      refine FW.drawB (Sl H115) (fun f w => ∃ H : GH, ∃ v161 : Value, ∃ n162 : Nat, ∃ cs163 : List Value, ∃ v165 : Value, ∃ n166 : Nat, ∃ cs167 : List Value, ∃ v169 : Value, ∃ n170 : Nat, ∃ cs171 : List Value, St Ha wa H w [.box b69 126 [Value.pointer (some q60), v169, v165, v161], .row 3 1 v161 n162 cs163, .row 139 1 v165 n166 cs167, .row 129 6 v169 n170 cs171] ∧ Inc H115 H ∧ Els (up wa.heap.size H) eI 1 cs163 xs147 ∧ Els H (eL eI 1) 1 cs167 r122.2.polys ∧ Els (up wa.heap.size H) ePcStep 6 cs171 r122.2.steps ∧ (bl cs171).Nodup ∧ f 2 = v2 ∧ f 10 = Value.pointer (some (⟨b69, 0, none⟩ : Addr)) ∧ f 30 = v2 ∧ f 31 = Value.int .i64 (len a2) ∧ f 32 = Value.int .i64 ((i80 : Nat) : Int)) (by kernel_rfl) S116.sl ?_ ?_
      ·
        intro w119 r120
        have S121 := S116.call r120
        refine FB.phase [13] (fun w => WAt w (Addr.add ⟨b69, 0, none⟩ 3) [v37]) ?_
        refine FB.t (i := 0) (bs 14 1) rfl (SP.on ((S121.box_now (i := 0) rfl).sub (j := 3) (n := 1) (c := [v37]) rfl) (SP.nil S121.sl)) rfl (fun w' hw' => (E.move k97)) ?_
        refine FB.t (i := 1) (bs 14 3) rfl (SP.on ((S121.box_now (i := 0) rfl).sub (j := 3) (n := 1) (c := [v37]) rfl) (SP.nil S121.sl)) rfl (fun w' hw' => (E.move k97)) ?_
        refine FB.t (i := 2) (bs 14 7) rfl (SP.on ((S121.box_now (i := 0) rfl).sub (j := 3) (n := 1) (c := [v37]) rfl) (SP.nil S121.sl)) rfl (fun w' hw' => (E.nilCheck rfl)) ?_
        refine FB.t (i := 3) (bs 14 15) rfl (SP.on ((S121.box_now (i := 0) rfl).sub (j := 3) (n := 1) (c := [v37]) rfl) (SP.nil S121.sl)) rfl (fun w' hw' => (E.fieldAddr tf126_3 rfl)) ?_
        refine FB.p (i := 4) (bs 14 31) 0 [10, 11, 12, 13] rfl (SP.on ((S121.box_now (i := 0) rfl).sub (j := 3) (n := 1) (c := [v37]) rfl) (SP.nil S121.sl)) rfl rfl (fun w' hw' => (E.load rfl (run_load0 Tryz.isAgg39 hw' rfl))) ?_
        refine FB.t (i := 5) (bs 14 63) rfl (SP.on ((S121.box_now (i := 0) rfl).sub (j := 3) (n := 1) (c := [v37]) rfl) (SP.nil S121.sl)) rfl (fun w' hw' => (E.move k97)) ?_
        refine FB.t (i := 6) (bs 14 127) rfl (SP.on ((S121.box_now (i := 0) rfl).sub (j := 3) (n := 1) (c := [v37]) rfl) (SP.nil S121.sl)) rfl (fun w' hw' => (E.move k96)) ?_
        refine FB.t (i := 7) (bs 14 255) rfl (SP.on ((S121.box_now (i := 0) rfl).sub (j := 3) (n := 1) (c := [v37]) rfl) (SP.nil S121.sl)) rfl (fun w' hw' => (E.load rfl (run_loadA Tryz.isAgg89 Tryz.sizeOf89 (at118.now hw') rfl))) ?_
        refine FB.all1 (i := 8) (by kernel_rfl) ?_
        ·
          have S124 : St Ha wa H115 w119 [.row 3 1 v37 n38 cs40, .box b69 126 [Value.pointer (some q60), v85, v81, v37], .row 139 1 v81 n82 cs83, .row 129 6 v85 n86 cs87] := S121.front 1 rfl rfl
          have S125 : St Ha wa H115 w119 [.row 139 1 v81 n82 cs83, .row 3 1 v37 n38 cs40, .box b69 126 [Value.pointer (some q60), v85, v81, v37], .row 129 6 v85 n86 cs87] := S124.front 2 rfl rfl
          have S127 : St Ha wa H115 w119 [.row 129 6 v85 n86 cs87, .row 139 1 v81 n82 cs83, .row 3 1 v37 n38 cs40, .box b69 126 [Value.pointer (some q60), v85, v81, v37]] := S125.front 3 rfl rfl
          have S128 : St Ha wa H115 w119 [.box b69 126 [Value.pointer (some q60), v85, v81, v37], .row 129 6 v85 n86 cs87, .row 139 1 v81 n82 cs83, .row 3 1 v37 n38 cs40] := S127.front 3 rfl rfl
          refine FC.call (l' := (bs 14 511)) rfl (by kernel_rfl) rfl rfl rfl (E.call Tryz.call169 (A3 rfl rfl rfl)) (w_impl_translator_step (L := []) S128 (translator.mk y58 s80.2.2 s80.2.1 s80.1) (h62.mono ((i45.tr i92).tr i117)) (h64.mono (upI.tr ((i45.tr i92).tr i117))) (at68.mono ((i45.tr i92).tr i117)) (els88.mono (up_mono i117)) nd89 (els84.mono i117) (els41.mono (up_mono i117)) v2 a2 (p2.mono ((((i27.tr r34.inc).tr i45).tr i92).tr i117)) y79 v106 (h107.mono ((((i27.tr r34.inc).tr i45).tr i92).tr i117)) hr123) ?_
          rintro e w130 ⟨H129, v133, n134, cs135, v138, n139, cs140, rfl, ⟨S131, i132⟩, els136, nd137, els141⟩
          refine ⟨_, rfl, ?_⟩
          have S131 : St Ha wa H129 w130 [.box b69 126 [Value.pointer (some q60), v133, v138, v37], .row 129 6 v133 n134 cs135, .row 139 1 v138 n139 cs140, .row 3 1 v37 n38 cs40] := S131
          refine ⟨(SP.on ((S131.box_now (i := 0) rfl).sub (j := 3) (n := 1) (c := [v37]) rfl) (SP.nil (Sl.of_inc i132 S131.sl))), ?_⟩
          refine FB.all1 (i := 9) (by kernel_rfl) ?_
          ·
            obtain ⟨v142, w143, run144, S145⟩ := S131.buildSlice (P := Tryz.prog) te39 [Value.int .i64 r122.1] (parts := #[(0, Value.int .i64 r122.1)]) (cells := [Value.int .i64 r122.1]) rfl (szs_cons rfl szs_nil) (fc_cons rfl fc_nil) (ones_cons rfl ones_nil) (Nat.le_of_ble_eq_true rfl)
            have els146 : Els (up wa.heap.size H129) eI 1 [Value.int .i64 r122.1] [r122.1] := (Els.snoc (H := (up wa.heap.size H129)) (E := eI) (k := 1) (c := [Value.int .i64 r122.1]) (x := r122.1) Els.nil rfl rfl)
            refine FC.val (l' := (bs 14 1023)) rfl (by kernel_rfl) rfl rfl rfl (E.buildSlice (B1 rfl) run144) ?_
            refine ⟨(SP.on ((S145.box_now (i := 1) rfl).sub (j := 3) (n := 1) (c := [v37]) rfl) (SP.nil (Sl.of_inc i132 S145.sl))), ?_⟩
            refine FB.all1 (i := 10) (by kernel_rfl) ?_
            ·
              obtain ⟨v149, w152, n150, cs151, run153, S154, els155, ce156⟩ := S145.appendO (P := Tryz.prog) te39 (i := 4) (j := 0) rfl (els41.mono (up_mono (i117.tr i132))) rfl els146 hz148
              have S154 : St Ha wa H129 w152 [.row 3 1 v142 1 [Value.int .i64 r122.1], .box b69 126 [Value.pointer (some q60), v133, v138, v37], .row 129 6 v133 n134 cs135, .row 139 1 v138 n139 cs140, .row 3 1 v149 n150 cs151] := S154
              have S157 : St Ha wa H129 w152 [.box b69 126 [Value.pointer (some q60), v133, v138, v37], .row 129 6 v133 n134 cs135, .row 139 1 v138 n139 cs140, .row 3 1 v149 n150 cs151] := S154.drop 0
              refine FC.val (l' := (bs 14 2047)) rfl (by kernel_rfl) rfl rfl rfl (E.append rfl rfl run153) ?_
              refine ⟨(SP.on ((S157.box_now (i := 0) rfl).sub (j := 3) (n := 1) (c := [v37]) rfl) (SP.nil (Sl.of_inc i132 S157.sl))), ?_⟩
              refine FB.t (i := 11) (bs 14 4095) rfl (SP.on ((S157.box_now (i := 0) rfl).sub (j := 3) (n := 1) (c := [v37]) rfl) (SP.nil (Sl.of_inc i132 S157.sl))) rfl (fun w' hw' => (E.nilCheck rfl)) ?_
              refine FB.t (i := 12) (bs 14 8191) rfl (SP.on ((S157.box_now (i := 0) rfl).sub (j := 3) (n := 1) (c := [v37]) rfl) (SP.nil (Sl.of_inc i132 S157.sl))) rfl (fun w' hw' => (E.fieldAddr tf126_3 rfl)) ?_
              refine FB.all1 (i := 13) (by kernel_rfl) ?_
              ·
                obtain ⟨w158, run159, S160⟩ := S157.store (P := Tryz.prog) (t := 39) (i := 0) (j := 3) (cs' := [Value.pointer (some q60), v133, v138, v149]) (l' := [.box b69 126 [Value.pointer (some q60), v133, v138, v149], .row 129 6 v133 n134 cs135, .row 139 1 v138 n139 cs140, .row 3 1 v149 n150 cs151]) (v := v149) (c := [v149]) rfl Tryz.sizeOf39 (Ln.cells (S157.row_ln (i := 3) rfl)) rfl (ones_cons (Ln.one (S157.row_ln (i := 3) rfl)) ones_nil) (Nat.le_of_ble_eq_true rfl) rfl rfl
                refine FC.act (l' := (bs 14 16383)) rfl (by kernel_rfl) rfl rfl (E.store rfl rfl run159) ?_
                refine ⟨(SP.o (SP.nil (Sl.of_inc i132 S160.sl))), ?_⟩
                exact FB.done (by kernel_rfl) ⟨_, _, _, _, _, _, _, _, _, _, (S160.sel [0, 3, 2, 1] (by decide) rfl), i132, els155, els141, els136, nd137, k96, k97, k98, k99, k95⟩
      ·
        rintro f178 w177 ⟨H174, v161, n162, cs163, v165, n166, cs167, v169, n170, cs171, S175, i176, els164, els168, els172, nd173, k179, k180, k181, k182, k183⟩
        refine FW.region ?_
        refine FL.v (E.add k183 rfl) ?_
        refine FL.v (E.move (v := Value.int .i64 (wr (((i80 : Nat) : Int) + 1))) rfl) ?_
        refine FL.nil ?_
        obtain rfl := Option.some.inj hp
        exact ⟨rfl, ⟨_, _, _, _, _, _, _, _, _, _, S175, ((i92.tr i117).tr i176), els164, els168, els172, nd173, (nat_succ rfl (lt_of_get hx80) (p2.mono (((((i27.tr r34.inc).tr i45).tr i92).tr i117).tr i176)).le), k179, k180, k181, k182⟩⟩
    ·
      clear hp hq
      rintro s80 f214 w213 ⟨H210, v37, n38, cs40, v81, n82, cs83, v85, n86, cs87, S211, i212, els41, els84, els88, nd89, k215, k216, k217, k218, k219⟩
      refine FW.seq (FW.region ?_)
      refine FL.v (E.lss k215 k219) ?_
      refine FL.nil (FW.seq ?_)
      refine FW.condF rfl dlt_len ?_
      refine FW.exit ?_
      exact ⟨nofun, rfl, ⟨_, _, _, _, _, _, _, _, _, _, S211, i212, els41, els84, els88, nd89, k217⟩⟩
    ·
      clear hq
      intro e f189 w188 hD
      rcases q80 with s80 | x80
      ·
        obtain ⟨rfl, hD⟩ := hD
        obtain ⟨H185, v37, n38, cs40, v81, n82, cs83, v85, n86, cs87, S186, i187, els41, els84, els88, nd89, k190⟩ := hD
        replace hp := el_go hp
        refine FW.seq (FW.region ?_)
        refine FL.v (E.move k190) ?_
        refine FL.v (E.assign (v := Value.pointer (some (⟨b69, 0, none⟩ : Addr))) rfl) ?_
        refine FL.v (E.assign (v := Value.bool true) rfl) ?_
        refine FL.nil ?_
        refine FW.ret ?_
        obtain ⟨H191, S192, i193, ns196, nv195⟩ := S186.sealRowN (i := 3) (l' := [.box b69 126 [Value.pointer (some q60), v85, v81, v37], .row 3 1 v37 n38 cs40, .row 139 1 v81 n82 cs83]) rfl els88 nd89 (by decide) rfl
        have h194 := ns196.rsl
        obtain ⟨H197, S198, i199, h200⟩ := S192.sealRow (i := 2) (l' := [.box b69 126 [Value.pointer (some q60), v85, v81, v37], .row 3 1 v37 n38 cs40]) rfl (els84.mono i193) (by decide) rfl
        obtain ⟨H201, S202, i203, h204, nv205⟩ := S198.sealRowU (i := 1) (l' := [.box b69 126 [Value.pointer (some q60), v85, v81, v37]]) rfl (els41.mono (up_mono (i193.tr i199))) (by decide) rfl
        obtain ⟨H206, S207, i208, at209⟩ := S202.sealBox (i := 0) (l' := []) rfl rfl
        obtain rfl := Option.some.inj hp
        exact ⟨.inr rfl, res2 rfl rfl rfl ⟨_, _, rfl, S207.run, ⟨_, rfl, _, _, _, _, _, _, (h62.mono (((((i45.tr i187).tr i193).tr i199).tr i203).tr i208)), ⟨_, (ns65.mono (up_mono (((((i45.tr i187).tr i193).tr i199).tr i203).tr i208)))⟩, (at68.mono (((((i45.tr i187).tr i193).tr i199).tr i203).tr i208)), ⟨_, (ns196.mono (up_mono ((i199.tr i203).tr i208)))⟩, (h200.mono (i203.tr i208)), (h204.mono (up_mono i208)), at209⟩⟩⟩
      · exact x80.elim

@[reducible] def p_impl_ResToPc (Ha : GH) (wa : World) (r : ((List PcStep) × Bool)) : Ending → World → Prop :=
 fun e w' => ∃ H' : GH, ∃ v0 : Value, e = .returned (Value.tuple #[v0, Value.bool r.2]) ∧ Run wa.heap.size Ha wa H' w' ∧ (∃ c, Nest (up wa.heap.size H') ePcStep 6 v0 r.1 c)
theorem w_impl_ResToPc {Ha : GH} {wa : World} (hs : Sl Ha wa) (a0 : Int) (a1 : Cnf) (v1_1 : Value) (p1_1 : RSl Ha (eL eI 1) 1 v1_1 a1.clauses) (v2 : Value) (a2 : List ResStep) (p2 : RSl Ha eResStep 4 v2 a2) {r : ((List PcStep) × Bool)} (hp : (PF.impl_ResToPc a0 a1 a2) = some r) :
  Calls Tryz.prog 44 #[Value.int .i64 a0, Value.agg #[Value.int .i64 a1.vars, v1_1], v2] wa (p_impl_ResToPc Ha wa r) := by
 unfold PF.impl_ResToPc at hp
 have S0 := St.init hs
 refine calls_go (N := 31) (args := [Value.int .i64 a0, Value.agg #[Value.int .i64 a1.vars, v1_1], v2]) Tryz.func44 rfl rfl rfl ?_
 refine FW.seq (FW.region ?_)
 obtain ⟨b21, w22, run23, S24⟩ := S0.box (P := Tryz.prog) 31 [Value.int .i64 a1.vars, v1_1] (v := Value.agg #[Value.int .i64 a1.vars, v1_1]) rfl (ones_cons rfl (ones_cons p1_1.one ones_nil))
 refine FL.v (E.box rfl run23) ?_
 obtain ⟨H25, S26, i27, at28⟩ := S24.sealBox (i := 0) (l' := []) rfl rfl
 refine FL.v (E.assign (v := Value.slice none 0 0) rfl) ?_
 refine FL.v (E.assign (v := Value.bool false) rfl) ?_
 refine FL.nil (FW.seq (FW.region ?_))
 refine FL.v (E.move (v := Value.int .i64 a0) rfl) ?_
 refine FL.v (E.load rfl (run_loadA Tryz.isAgg31 Tryz.sizeOf31 (at28.now S26.sl) rfl)) ?_
 refine FL.v (E.move (v := v2) rfl) ?_
 obtain ⟨r29, hr30, hp⟩ := bnd hp
 refine FL.call rfl rfl rfl (E.call Tryz.call99 (A3 rfl rfl rfl)) (w_impl_translate S26.sl a0 a1 v1_1 (p1_1.mono i27) v2 a2 (p2.mono i27) hr30) ?_
 rintro e w32 ⟨H31, v35, rfl, r34, h36⟩
 refine ⟨_, rfl, ?_⟩
 have S33 := S26.call r34
 refine FL.v (E.move (v := Value.tuple #[v35, Value.bool r29.2]) rfl) ?_
 refine FL.v (E.extract (i := 0) rfl rfl) ?_
 refine FL.v (E.extract (i := 1) rfl rfl) ?_
 refine FL.v (E.assign (v := v35) rfl) ?_
 refine FL.v (E.assign (v := Value.bool r29.2) rfl) ?_
 refine FL.nil (FW.seq (FW.seq (FW.region ?_)))
 refine FL.v (E.move (v := Value.bool r29.2) rfl) ?_
 refine FL.v (E.not rfl) ?_
 refine FL.v (E.move (v := Value.bool (!r29.2)) rfl) ?_
 obtain ⟨t60, hqt60, hp⟩ := bnd hp
 refine FL.cut 7 (fun f w => ∃ H : GH, St Ha wa H w [] ∧ Inc H31 H ∧ f 8 = v35 ∧ f 26 = Value.bool t60) ?_ ?_
 ·
  clear hp; have hp := hqt60; clear hqt60
  rcases ifB hp with ⟨c66, hp⟩ | ⟨c66, hp⟩
  ·
   refine FL.skip (wF_no rfl rfl rfl c66) rfl ?_
   refine FL.skip (wF_no rfl rfl rfl c66) rfl ?_
   refine FL.skip (wF_no rfl rfl rfl c66) rfl ?_
   refine FL.skip (wF_no rfl rfl rfl c66) rfl ?_
   refine FL.skip (wF_no rfl rfl rfl c66) rfl ?_
   refine FL.skip (wF_no rfl rfl rfl c66) rfl ?_
   obtain rfl := Option.some.inj hp
   refine FL.v (E.pickT rfl c66 rfl) ?_
   exact FL.nil ⟨rfl, _, S33, (Inc.rfl _), rfl, rfl⟩
  ·
   refine FL.val (wF_yes rfl rfl rfl c66) rfl rfl (E.move (v := v35) rfl) ?_
   obtain ⟨y67, hy68, hp⟩ := bnd hp
   rw [hy68] at h36
   obtain ⟨q69, rfl, q70, v71, v73, v79, v84, v86, h72, ⟨c76, ns75⟩, at78, ⟨c82, ns81⟩, h85, h87, at89⟩ := h36
   have h74 := ns75.rsl
   have nv77 : New H25 [v73] := New.of_up S26.sl h74.dom
   have h74 := h74.mono (up_le S26.size)
   have ns75 := ns75.mono (up_le S26.size)
   have h80 := ns81.rsl
   have nv83 : New H25 [v79] := New.of_up S26.sl h80.dom
   have h80 := h80.mono (up_le S26.size)
   have ns81 := ns81.mono (up_le S26.size)
   have nv88 : New H25 [v86] := New.of_up S26.sl h87.dom
   have h87 := h87.mono (up_le S26.size)
   refine FL.val (wF_yes rfl rfl rfl c66) rfl rfl (E.nilCheck rfl) ?_
   refine FL.val (wF_yes rfl rfl rfl c66) rfl rfl (E.fieldAddr tf126_1 rfl) ?_
   refine FL.val (wF_yes rfl rfl rfl c66) rfl rfl (E.load rfl (run_load1 Tryz.isAgg55 (at89.now S33.sl) rfl)) ?_
   refine FL.val (wF_yes rfl rfl rfl c66) rfl rfl (E.lenP te55 rfl h80) ?_
   refine FL.val (wF_yes rfl rfl rfl c66) rfl rfl (E.gtr rfl rfl) ?_
   obtain rfl := Option.some.inj hp
   refine FL.v (E.pickF rfl c66 rfl) ?_
   exact FL.nil ⟨rfl, _, S33, (Inc.rfl _), rfl, rfl⟩
 rintro f65 w64 ⟨H61, S62, i63, k90, k91⟩
 refine FL.nil ?_
 rcases ifB hp with ⟨c92, hp⟩ | ⟨c92, hp⟩
 ·
  refine FW.condT k91 c92 ?_
  refine FW.seq (FW.region ?_)
  refine FL.v (E.assign (v := Value.slice none 0 0) rfl) ?_
  refine FL.v (E.assign (v := Value.bool false) rfl) ?_
  refine FL.nil ?_
  refine FW.ret ?_
  obtain rfl := Option.some.inj hp
  exact ⟨.inr rfl, res2 rfl rfl rfl ⟨_, _, rfl, S62.run, ⟨_, Nest.nil⟩⟩⟩
 ·
  refine FW.condF k91 c92 ?_
  refine FW.skip (FW.seq ?_)
  obtain ⟨y93, hy94, hp⟩ := bnd hp
  rw [hy94] at h36
  obtain ⟨q95, rfl, q96, v97, v99, v105, v110, v112, h98, ⟨c102, ns101⟩, at104, ⟨c108, ns107⟩, h111, h113, at115⟩ := h36
  have h100 := ns101.rsl
  have nv103 : New H25 [v99] := New.of_up S26.sl h100.dom
  have h100 := h100.mono (up_le S26.size)
  have ns101 := ns101.mono (up_le S26.size)
  have h106 := ns107.rsl
  have nv109 : New H25 [v105] := New.of_up S26.sl h106.dom
  have h106 := h106.mono (up_le S26.size)
  have ns107 := ns107.mono (up_le S26.size)
  have nv114 : New H25 [v112] := New.of_up S26.sl h113.dom
  have h113 := h113.mono (up_le S26.size)
  refine FW.region ?_
  refine FL.v (E.move k90) ?_
  refine FL.v (E.nilCheck rfl) ?_
  refine FL.v (E.fieldAddr tf126_1 rfl) ?_
  refine FL.v (E.load rfl (run_load1 Tryz.isAgg55 ((at115.mono i63).now S62.sl) rfl)) ?_
  refine FL.v (E.assign (v := v105) rfl) ?_
  refine FL.v (E.assign (v := Value.bool true) rfl) ?_
  refine FL.nil ?_
  refine FW.ret ?_
  obtain rfl := Option.some.inj hp
  exact ⟨.inr rfl, res2 rfl rfl rfl ⟨_, _, rfl, S62.run, ⟨_, (ns107.mono (up_mono i63))⟩⟩⟩

theorem w_laws_eqTerm {Ha : GH} {wa : World} (hs : Sl Ha wa) (a0 : Term) (a1 : Term) :
  Calls Tryz.prog 125 #[Value.agg #[Value.int .i64 a0.mono, Value.int .i64 a0.coeff], Value.agg #[Value.int .i64 a1.mono, Value.int .i64 a1.coeff]] wa (Sc Ha wa (Value.bool (PF.laws_eqTerm a0 a1))) := by
 obtain ⟨r, hp⟩ : ∃ r, (PF.laws_eqTerm a0 a1) = r := ⟨_, rfl⟩
 rw [hp]
 unfold PF.laws_eqTerm at hp
 have S0 := St.init hs
 refine calls_go (N := 15) (args := [Value.agg #[Value.int .i64 a0.mono, Value.int .i64 a0.coeff], Value.agg #[Value.int .i64 a1.mono, Value.int .i64 a1.coeff]]) Tryz.func125 rfl rfl rfl ?_
 refine FW.seq (FW.region ?_)
 obtain ⟨b21, w22, run23, S24⟩ := S0.box (P := Tryz.prog) 147 [Value.int .i64 a0.mono, Value.int .i64 a0.coeff] (v := Value.agg #[Value.int .i64 a0.mono, Value.int .i64 a0.coeff]) rfl (ones_cons rfl (ones_cons rfl ones_nil))
 refine FL.v (E.box rfl run23) ?_
 obtain ⟨H25, S26, i27, at28⟩ := S24.sealBox (i := 0) (l' := []) rfl rfl
 obtain ⟨b29, w30, run31, S32⟩ := S26.box (P := Tryz.prog) 147 [Value.int .i64 a1.mono, Value.int .i64 a1.coeff] (v := Value.agg #[Value.int .i64 a1.mono, Value.int .i64 a1.coeff]) rfl (ones_cons rfl (ones_cons rfl ones_nil))
 refine FL.v (E.box rfl run31) ?_
 obtain ⟨H33, S34, i35, at36⟩ := S32.sealBox (i := 0) (l' := []) rfl rfl
 refine FL.v (E.assign (v := Value.bool false) rfl) ?_
 refine FL.nil (FW.seq (FW.seq (FW.region ?_)))
 refine FL.v (E.fieldAddr tf147_0 rfl) ?_
 refine FL.v (E.load rfl (run_load1 Tryz.isAgg3 ((at28.mono i35).now S34.sl) rfl)) ?_
 refine FL.v (E.fieldAddr tf147_0 rfl) ?_
 refine FL.v (E.load rfl (run_load1 Tryz.isAgg3 (at36.now S34.sl) rfl)) ?_
 refine FL.v (E.neq rfl rfl) ?_
 refine FL.nil ?_
 rcases ifT hp with ⟨c37, hp⟩ | ⟨c37, hp⟩
 ·
  refine FW.condT rfl c37 ?_
  refine FW.seq (FW.region ?_)
  refine FL.v (E.assign (v := Value.bool false) rfl) ?_
  refine FL.nil ?_
  refine FW.ret ?_
  obtain rfl := hp
  exact ⟨.inr rfl, res1 rfl rfl ⟨rfl, S34.back⟩⟩
 ·
  refine FW.condF rfl c37 ?_
  refine FW.skip (FW.seq (FW.seq (FW.region ?_)))
  refine FL.v (E.fieldAddr tf147_1 rfl) ?_
  refine FL.v (E.load rfl (run_load1 Tryz.isAgg3 ((at28.mono i35).now S34.sl) rfl)) ?_
  refine FL.v (E.fieldAddr tf147_1 rfl) ?_
  refine FL.v (E.load rfl (run_load1 Tryz.isAgg3 (at36.now S34.sl) rfl)) ?_
  refine FL.v (E.neq rfl rfl) ?_
  refine FL.nil ?_
  rcases ifT hp with ⟨c38, hp⟩ | ⟨c38, hp⟩
  ·
   refine FW.condT rfl c38 ?_
   refine FW.seq (FW.region ?_)
   refine FL.v (E.assign (v := Value.bool false) rfl) ?_
   refine FL.nil ?_
   refine FW.ret ?_
   obtain rfl := hp
   exact ⟨.inr rfl, res1 rfl rfl ⟨rfl, S34.back⟩⟩
  ·
   refine FW.condF rfl c38 ?_
   refine FW.skip (FW.seq (FW.region ?_))
   refine FL.v (E.assign (v := Value.bool true) rfl) ?_
   refine FL.nil ?_
   refine FW.ret ?_
   obtain rfl := hp
   exact ⟨.inr rfl, res1 rfl rfl ⟨rfl, S34.back⟩⟩

theorem w_laws_eqTermS {Ha : GH} {wa : World} (hs : Sl Ha wa) (v0 : Value) (a0 : List Term) (p0 : RSl Ha eTerm 2 v0 a0) (v1 : Value) (a1 : List Term) (p1 : RSl Ha eTerm 2 v1 a1) {r : Bool} (hp : (PF.laws_eqTermS a0 a1) = some r) :
  Calls Tryz.prog 58 #[v0, v1] wa (Sc Ha wa (Value.bool r)) := by
 unfold PF.laws_eqTermS at hp
 have S0 := St.init hs
 refine calls_go (N := 27) (args := [v0, v1]) Tryz.func58 rfl rfl rfl ?_
 refine FW.seq (FW.region ?_)
 refine FL.v (E.assign (v := Value.bool false) rfl) ?_
 refine FL.nil (FW.seq (FW.seq (FW.region ?_)))
 refine FL.v (E.move (v := v0) rfl) ?_
 refine FL.v (E.lenP te68 rfl p0) ?_
 refine FL.v (E.move (v := v1) rfl) ?_
 refine FL.v (E.lenP te68 rfl p1) ?_
 refine FL.v (E.neq rfl rfl) ?_
 refine FL.nil ?_
 rcases ifB hp with ⟨c21, hp⟩ | ⟨c21, hp⟩
 ·
  refine FW.condT rfl c21 ?_
  refine FW.seq (FW.region ?_)
  refine FL.v (E.assign (v := Value.bool false) rfl) ?_
  refine FL.nil ?_
  refine FW.ret ?_
  obtain rfl := Option.some.inj hp
  exact ⟨.inr rfl, res1 rfl rfl ⟨rfl, S0.back⟩⟩
 ·
  refine FW.condF rfl c21 ?_
  refine FW.skip (FW.seq (FW.seq (FW.region ?_)))
  refine FL.v (E.assign (v := Value.int .i64 0) rfl) ?_
  refine FL.nil ?_
  obtain ⟨q23, hq, hp⟩ := bndR hp
  refine FW.block ?_
  refine FW.mono (FW.forL (S := Unit) (X := Bool) (fun (i23 : Nat) (s23 : Unit) f w => ∃ H : GH, St Ha wa H w [] ∧ Inc Ha H ∧ f 5 = Value.int .i64 ((i23 : Nat) : Int) ∧ f 0 = v0 ∧ f 1 = v1) (fun q e f w => match q with | .go s23 => e = Exit.exit 0 ∧ (∃ H : GH, St Ha wa H w [] ∧ Inc Ha H) | .rt x => ((e = Exit.ret) ∧ (fun e f w => (e = Exit.normal ∨ e = Exit.ret) ∧ ∀ a, Fr (δ := []) 27 a f → ∃ v, (results Tryz.f58 a.tmps).run Tryz.prog w = .ok v w ∧ (Sc Ha wa (Value.bool x)) (.returned v) w) e f w)) hq ⟨_, S0, (Inc.rfl _), rfl, rfl, rfl⟩ ?_ ?_) ?_
  ·
   clear hp hq
   rintro i23 y22 s23 f55 w54 ⟨H51, S52, i53, k56, k57, k58⟩ hx23 o78 hp
   refine FW.seq (FW.seq (FW.region ?_))
   refine FL.v (E.move k56) ?_
   refine FL.v (E.move k57) ?_
   refine FL.v (E.lenP te68 rfl p0) ?_
   refine FL.v (E.lssT rfl rfl (lss_len hx23)) ?_
   refine FL.nil ?_
   refine FW.condT rfl rfl ?_
   refine FW.skip (FW.seq (FW.block (FW.seq ?_)))
   refine FW.draw (fun w' => Run w54.heap.size H51 w54 H51 w') (by kernel_rfl) (by kernel_rfl) (run_drew S52.sl) ?_
   refine FD.val rfl rfl rfl (fun w' hw' => (E.move k57)) ?_
   refine FD.val rfl rfl rfl (fun w' hw' => (E.move k56)) ?_
   obtain ⟨p60, cs61, pt62, l63, at64, rel65⟩ := p0.at (ix_nat hx23)
   obtain rfl := eTerm_open rel65
   refine FD.val rfl rfl rfl (fun w' hw' => (E.indexAddr te68 rfl rfl pt62)) ?_
   refine FD.val rfl rfl rfl (fun w' hw' => (E.load rfl (run_loadA Tryz.isAgg147 Tryz.sizeOf147 ((at64.mono i53).now (S52.call hw').sl) rfl))) ?_
   refine FD.val rfl rfl rfl (fun w' hw' => (E.move k58)) ?_
   refine FD.val rfl rfl rfl (fun w' hw' => (E.move k56)) ?_
   obtain ⟨x72, hx73, hp⟩ := bnd hp
   obtain ⟨p66, cs67, pt68, l69, at70, rel71⟩ := p1.at hx73
   obtain rfl := eTerm_open rel71
   refine FD.val rfl rfl rfl (fun w' hw' => (E.indexAddr te68 rfl rfl pt68)) ?_
   refine FD.val rfl rfl rfl (fun w' hw' => (E.load rfl (run_loadA Tryz.isAgg147 Tryz.sizeOf147 ((at70.mono i53).now (S52.call hw').sl) rfl))) ?_
   refine FD.call rfl rfl rfl (fun w' hw' => (E.call Tryz.call125 (A2 rfl rfl))) (fun w' hw' => Calls.cls hw' (w_laws_eqTerm (S52.call hw').sl y22 x72)) ?_
   refine FD.val rfl rfl rfl (fun w' hw' => (E.not rfl)) ?_
   refine FD.nil ?_
   intro w74 r76
   have S75 := S52.call r76
   rcases ifB hp with ⟨c77, hp⟩ | ⟨c77, hp⟩
   ·
    refine FW.condT rfl c77 ?_
    refine FW.seq (FW.region ?_)
    refine FL.v (E.assign (v := Value.bool false) rfl) ?_
    refine FL.nil ?_
    refine FW.ret ?_
    obtain rfl := Option.some.inj hp
    exact ⟨nofun, rfl, ⟨.inr rfl, res1 rfl rfl ⟨rfl, S75.back⟩⟩⟩
   ·
    refine FW.condF rfl c77 ?_
    refine FW.skip (FW.region ?_)
    refine FL.v (E.move k56) ?_
    refine FL.v (E.add rfl rfl) ?_
    refine FL.v (E.assign (v := Value.int .i64 (wr (((i23 : Nat) : Int) + 1))) rfl) ?_
    refine FL.nil ?_
    obtain rfl := Option.some.inj hp
    exact ⟨rfl, ⟨_, S75, i53, (nat_succ rfl (lt_of_get hx23) (p0.mono i53).le), k57, k58⟩⟩
  ·
   clear hp hq
   rintro s23 f88 w87 ⟨H84, S85, i86, k89, k90, k91⟩
   refine FW.seq (FW.seq (FW.region ?_))
   refine FL.v (E.move k89) ?_
   refine FL.v (E.move k90) ?_
   refine FL.v (E.lenP te68 rfl p0) ?_
   refine FL.v (E.lss rfl rfl) ?_
   refine FL.nil ?_
   refine FW.condF rfl dlt_len ?_
   refine FW.exit ?_
   exact ⟨nofun, rfl, ⟨_, S85, i86⟩⟩
  ·
   clear hq
   intro e f83 w82 hD
   rcases q23 with s23 | x23
   ·
    obtain ⟨rfl, hD⟩ := hD
    obtain ⟨H79, S80, i81⟩ := hD
    replace hp := el_go hp
    refine FW.seq (FW.region ?_)
    refine FL.v (E.assign (v := Value.bool true) rfl) ?_
    refine FL.nil ?_
    refine FW.ret ?_
    obtain rfl := Option.some.inj hp
    exact ⟨.inr rfl, res1 rfl rfl ⟨rfl, S80.back⟩⟩
   ·
    obtain ⟨he, hL⟩ := hD
    replace hp := el_rt hp
    obtain rfl := Option.some.inj hp
    subst he
    exact hL

theorem w_laws_eqPcStep {Ha : GH} {wa : World} (hs : Sl Ha wa) (a0 : PcStep) (v0_1 : Value) (p0_1 : RSl Ha eTerm 2 v0_1 a0.poly) (a1 : PcStep) (v1_1 : Value) (p1_1 : RSl Ha eTerm 2 v1_1 a1.poly) {r : Bool} (hp : (PF.laws_eqPcStep a0 a1) = some r) :
  Calls Tryz.prog 101 #[Value.agg #[Value.int .i64 a0.kind, v0_1, Value.int .i64 a0.a, Value.int .i64 a0.b, Value.int .i64 a0.x, Value.int .i64 a0.y], Value.agg #[Value.int .i64 a1.kind, v1_1, Value.int .i64 a1.a, Value.int .i64 a1.b, Value.int .i64 a1.x, Value.int .i64 a1.y]] wa (Sc Ha wa (Value.bool r)) := by
 unfold PF.laws_eqPcStep at hp
 have S0 := St.init hs
 refine calls_go (N := 36) (args := [Value.agg #[Value.int .i64 a0.kind, v0_1, Value.int .i64 a0.a, Value.int .i64 a0.b, Value.int .i64 a0.x, Value.int .i64 a0.y], Value.agg #[Value.int .i64 a1.kind, v1_1, Value.int .i64 a1.a, Value.int .i64 a1.b, Value.int .i64 a1.x, Value.int .i64 a1.y]]) Tryz.func101 rfl rfl rfl ?_
 refine FW.seq (FW.region ?_)
 obtain ⟨b21, w22, run23, S24⟩ := S0.box (P := Tryz.prog) 129 [Value.int .i64 a0.kind, v0_1, Value.int .i64 a0.a, Value.int .i64 a0.b, Value.int .i64 a0.x, Value.int .i64 a0.y] (v := Value.agg #[Value.int .i64 a0.kind, v0_1, Value.int .i64 a0.a, Value.int .i64 a0.b, Value.int .i64 a0.x, Value.int .i64 a0.y]) rfl (ones_cons rfl (ones_cons p0_1.one (ones_cons rfl (ones_cons rfl (ones_cons rfl (ones_cons rfl ones_nil))))))
 refine FL.v (E.box rfl run23) ?_
 obtain ⟨H25, S26, i27, at28⟩ := S24.sealBox (i := 0) (l' := []) rfl rfl
 obtain ⟨b29, w30, run31, S32⟩ := S26.box (P := Tryz.prog) 129 [Value.int .i64 a1.kind, v1_1, Value.int .i64 a1.a, Value.int .i64 a1.b, Value.int .i64 a1.x, Value.int .i64 a1.y] (v := Value.agg #[Value.int .i64 a1.kind, v1_1, Value.int .i64 a1.a, Value.int .i64 a1.b, Value.int .i64 a1.x, Value.int .i64 a1.y]) rfl (ones_cons rfl (ones_cons p1_1.one (ones_cons rfl (ones_cons rfl (ones_cons rfl (ones_cons rfl ones_nil))))))
 refine FL.v (E.box rfl run31) ?_
 obtain ⟨H33, S34, i35, at36⟩ := S32.sealBox (i := 0) (l' := []) rfl rfl
 refine FL.v (E.assign (v := Value.bool false) rfl) ?_
 refine FL.nil (FW.seq (FW.seq (FW.region ?_)))
 refine FL.v (E.fieldAddr tf129_0 rfl) ?_
 refine FL.v (E.load rfl (run_load1 Tryz.isAgg3 ((at28.mono i35).now S34.sl) rfl)) ?_
 refine FL.v (E.fieldAddr tf129_0 rfl) ?_
 refine FL.v (E.load rfl (run_load1 Tryz.isAgg3 (at36.now S34.sl) rfl)) ?_
 refine FL.v (E.neq rfl rfl) ?_
 refine FL.nil ?_
 rcases ifB hp with ⟨c37, hp⟩ | ⟨c37, hp⟩
 ·
  refine FW.condT rfl c37 ?_
  refine FW.seq (FW.region ?_)
  refine FL.v (E.assign (v := Value.bool false) rfl) ?_
  refine FL.nil ?_
  refine FW.ret ?_
  obtain rfl := Option.some.inj hp
  exact ⟨.inr rfl, res1 rfl rfl ⟨rfl, S34.back⟩⟩
 ·
  refine FW.condF rfl c37 ?_
  refine FW.skip (FW.seq (FW.seq (FW.region ?_)))
  refine FL.v (E.fieldAddr tf129_1 rfl) ?_
  refine FL.v (E.load rfl (run_load1 Tryz.isAgg68 ((at28.mono i35).now S34.sl) rfl)) ?_
  refine FL.v (E.fieldAddr tf129_1 rfl) ?_
  refine FL.v (E.load rfl (run_load1 Tryz.isAgg68 (at36.now S34.sl) rfl)) ?_
  obtain ⟨r38, hr39, hp⟩ := bnd hp
  refine FL.call rfl rfl rfl (E.call Tryz.call58 (A2 rfl rfl)) (w_laws_eqTermS S34.sl v0_1 a0.poly (p0_1.mono (i27.tr i35)) v1_1 a1.poly (p1_1.mono (i27.tr i35)) hr39) ?_
  rintro e w40 ⟨rfl, r41⟩
  refine ⟨_, rfl, ?_⟩
  have S42 := S34.call r41
  refine FL.v (E.not rfl) ?_
  refine FL.nil ?_
  rcases ifB hp with ⟨c43, hp⟩ | ⟨c43, hp⟩
  ·
   refine FW.condT rfl c43 ?_
   refine FW.seq (FW.region ?_)
   refine FL.v (E.assign (v := Value.bool false) rfl) ?_
   refine FL.nil ?_
   refine FW.ret ?_
   obtain rfl := Option.some.inj hp
   exact ⟨.inr rfl, res1 rfl rfl ⟨rfl, S42.back⟩⟩
  ·
   refine FW.condF rfl c43 ?_
   refine FW.skip (FW.seq (FW.seq (FW.region ?_)))
   refine FL.v (E.fieldAddr tf129_2 rfl) ?_
   refine FL.v (E.load rfl (run_load1 Tryz.isAgg3 ((at28.mono i35).now S42.sl) rfl)) ?_
   refine FL.v (E.fieldAddr tf129_2 rfl) ?_
   refine FL.v (E.load rfl (run_load1 Tryz.isAgg3 (at36.now S42.sl) rfl)) ?_
   refine FL.v (E.neq rfl rfl) ?_
   refine FL.nil ?_
   rcases ifB hp with ⟨c44, hp⟩ | ⟨c44, hp⟩
   ·
    refine FW.condT rfl c44 ?_
    refine FW.seq (FW.region ?_)
    refine FL.v (E.assign (v := Value.bool false) rfl) ?_
    refine FL.nil ?_
    refine FW.ret ?_
    obtain rfl := Option.some.inj hp
    exact ⟨.inr rfl, res1 rfl rfl ⟨rfl, S42.back⟩⟩
   ·
    refine FW.condF rfl c44 ?_
    refine FW.skip (FW.seq (FW.seq (FW.region ?_)))
    refine FL.v (E.fieldAddr tf129_3 rfl) ?_
    refine FL.v (E.load rfl (run_load1 Tryz.isAgg3 ((at28.mono i35).now S42.sl) rfl)) ?_
    refine FL.v (E.fieldAddr tf129_3 rfl) ?_
    refine FL.v (E.load rfl (run_load1 Tryz.isAgg3 (at36.now S42.sl) rfl)) ?_
    refine FL.v (E.neq rfl rfl) ?_
    refine FL.nil ?_
    rcases ifB hp with ⟨c45, hp⟩ | ⟨c45, hp⟩
    ·
     refine FW.condT rfl c45 ?_
     refine FW.seq (FW.region ?_)
     refine FL.v (E.assign (v := Value.bool false) rfl) ?_
     refine FL.nil ?_
     refine FW.ret ?_
     obtain rfl := Option.some.inj hp
     exact ⟨.inr rfl, res1 rfl rfl ⟨rfl, S42.back⟩⟩
    ·
     refine FW.condF rfl c45 ?_
     refine FW.skip (FW.seq (FW.seq (FW.region ?_)))
     refine FL.v (E.fieldAddr tf129_4 rfl) ?_
     refine FL.v (E.load rfl (run_load1 Tryz.isAgg3 ((at28.mono i35).now S42.sl) rfl)) ?_
     refine FL.v (E.fieldAddr tf129_4 rfl) ?_
     refine FL.v (E.load rfl (run_load1 Tryz.isAgg3 (at36.now S42.sl) rfl)) ?_
     refine FL.v (E.neq rfl rfl) ?_
     refine FL.nil ?_
     rcases ifB hp with ⟨c46, hp⟩ | ⟨c46, hp⟩
     ·
      refine FW.condT rfl c46 ?_
      refine FW.seq (FW.region ?_)
      refine FL.v (E.assign (v := Value.bool false) rfl) ?_
      refine FL.nil ?_
      refine FW.ret ?_
      obtain rfl := Option.some.inj hp
      exact ⟨.inr rfl, res1 rfl rfl ⟨rfl, S42.back⟩⟩
     ·
      refine FW.condF rfl c46 ?_
      refine FW.skip (FW.seq (FW.seq (FW.region ?_)))
      refine FL.v (E.fieldAddr tf129_5 rfl) ?_
      refine FL.v (E.load rfl (run_load1 Tryz.isAgg3 ((at28.mono i35).now S42.sl) rfl)) ?_
      refine FL.v (E.fieldAddr tf129_5 rfl) ?_
      refine FL.v (E.load rfl (run_load1 Tryz.isAgg3 (at36.now S42.sl) rfl)) ?_
      refine FL.v (E.neq rfl rfl) ?_
      refine FL.nil ?_
      rcases ifB hp with ⟨c47, hp⟩ | ⟨c47, hp⟩
      ·
       refine FW.condT rfl c47 ?_
       refine FW.seq (FW.region ?_)
       refine FL.v (E.assign (v := Value.bool false) rfl) ?_
       refine FL.nil ?_
       refine FW.ret ?_
       obtain rfl := Option.some.inj hp
       exact ⟨.inr rfl, res1 rfl rfl ⟨rfl, S42.back⟩⟩
      ·
       refine FW.condF rfl c47 ?_
       refine FW.skip (FW.seq (FW.region ?_))
       refine FL.v (E.assign (v := Value.bool true) rfl) ?_
       refine FL.nil ?_
       refine FW.ret ?_
       obtain rfl := Option.some.inj hp
       exact ⟨.inr rfl, res1 rfl rfl ⟨rfl, S42.back⟩⟩

theorem w_laws_eqPcStepS {Ha : GH} {wa : World} (hs : Sl Ha wa) (v0 : Value) (a0 : List PcStep) (p0 : RSl Ha ePcStep 6 v0 a0) (v1 : Value) (a1 : List PcStep) (p1 : RSl Ha ePcStep 6 v1 a1) {r : Bool} (hp : (PF.laws_eqPcStepS a0 a1) = some r) :
  Calls Tryz.prog 45 #[v0, v1] wa (Sc Ha wa (Value.bool r)) := by
 unfold PF.laws_eqPcStepS at hp
 have S0 := St.init hs
 refine calls_go (N := 27) (args := [v0, v1]) Tryz.func45 rfl rfl rfl ?_
 refine FW.seq (FW.region ?_)
 refine FL.v (E.assign (v := Value.bool false) rfl) ?_
 refine FL.nil (FW.seq (FW.seq (FW.region ?_)))
 refine FL.v (E.move (v := v0) rfl) ?_
 refine FL.v (E.lenP te55 rfl p0) ?_
 refine FL.v (E.move (v := v1) rfl) ?_
 refine FL.v (E.lenP te55 rfl p1) ?_
 refine FL.v (E.neq rfl rfl) ?_
 refine FL.nil ?_
 rcases ifB hp with ⟨c21, hp⟩ | ⟨c21, hp⟩
 ·
  refine FW.condT rfl c21 ?_
  refine FW.seq (FW.region ?_)
  refine FL.v (E.assign (v := Value.bool false) rfl) ?_
  refine FL.nil ?_
  refine FW.ret ?_
  obtain rfl := Option.some.inj hp
  exact ⟨.inr rfl, res1 rfl rfl ⟨rfl, S0.back⟩⟩
 ·
  refine FW.condF rfl c21 ?_
  refine FW.skip (FW.seq (FW.seq (FW.region ?_)))
  refine FL.v (E.assign (v := Value.int .i64 0) rfl) ?_
  refine FL.nil ?_
  obtain ⟨q23, hq, hp⟩ := bndR hp
  refine FW.block ?_
  refine FW.mono (FW.forL (S := Unit) (X := Bool) (fun (i23 : Nat) (s23 : Unit) f w => ∃ H : GH, St Ha wa H w [] ∧ Inc Ha H ∧ f 5 = Value.int .i64 ((i23 : Nat) : Int) ∧ f 0 = v0 ∧ f 1 = v1) (fun q e f w => match q with | .go s23 => e = Exit.exit 0 ∧ (∃ H : GH, St Ha wa H w [] ∧ Inc Ha H) | .rt x => ((e = Exit.ret) ∧ (fun e f w => (e = Exit.normal ∨ e = Exit.ret) ∧ ∀ a, Fr (δ := []) 27 a f → ∃ v, (results Tryz.f45 a.tmps).run Tryz.prog w = .ok v w ∧ (Sc Ha wa (Value.bool x)) (.returned v) w) e f w)) hq ⟨_, S0, (Inc.rfl _), rfl, rfl, rfl⟩ ?_ ?_) ?_
  ·
   clear hp hq
   rintro i23 y22 s23 f61 w60 ⟨H57, S58, i59, k62, k63, k64⟩ hx23 o90 hp
   refine FW.seq (FW.seq (FW.region ?_))
   refine FL.v (E.move k62) ?_
   refine FL.v (E.move k63) ?_
   refine FL.v (E.lenP te55 rfl p0) ?_
   refine FL.v (E.lssT rfl rfl (lss_len hx23)) ?_
   refine FL.nil ?_
   refine FW.condT rfl rfl ?_
   refine FW.skip (FW.seq (FW.block (FW.seq ?_)))
   refine FW.draw (fun w' => Run w60.heap.size H57 w60 H57 w') (by kernel_rfl) (by kernel_rfl) (run_drew S58.sl) ?_
   refine FD.val rfl rfl rfl (fun w' hw' => (E.move k63)) ?_
   refine FD.val rfl rfl rfl (fun w' hw' => (E.move k62)) ?_
   obtain ⟨p66, cs67, pt68, l69, at70, rel71⟩ := p0.at (ix_nat hx23)
   obtain ⟨v72, rfl, h73⟩ := ePcStep_open rel71
   refine FD.val rfl rfl rfl (fun w' hw' => (E.indexAddr te55 rfl rfl pt68)) ?_
   refine FD.val rfl rfl rfl (fun w' hw' => (E.load rfl (run_loadA Tryz.isAgg129 Tryz.sizeOf129 ((at70.mono i59).now (S58.call hw').sl) rfl))) ?_
   refine FD.val rfl rfl rfl (fun w' hw' => (E.move k64)) ?_
   refine FD.val rfl rfl rfl (fun w' hw' => (E.move k62)) ?_
   obtain ⟨x80, hx81, hp⟩ := bnd hp
   obtain ⟨p74, cs75, pt76, l77, at78, rel79⟩ := p1.at hx81
   obtain ⟨v82, rfl, h83⟩ := ePcStep_open rel79
   refine FD.val rfl rfl rfl (fun w' hw' => (E.indexAddr te55 rfl rfl pt76)) ?_
   refine FD.val rfl rfl rfl (fun w' hw' => (E.load rfl (run_loadA Tryz.isAgg129 Tryz.sizeOf129 ((at78.mono i59).now (S58.call hw').sl) rfl))) ?_
   obtain ⟨r84, hr85, hp⟩ := bnd hp
   refine FD.call rfl rfl rfl (fun w' hw' => (E.call Tryz.call101 (A2 rfl rfl))) (fun w' hw' => Calls.cls hw' (w_laws_eqPcStep (S58.call hw').sl y22 v72 (h73.mono i59) x80 v82 (h83.mono i59) hr85)) ?_
   refine FD.val rfl rfl rfl (fun w' hw' => (E.not rfl)) ?_
   refine FD.nil ?_
   intro w86 r88
   have S87 := S58.call r88
   rcases ifB hp with ⟨c89, hp⟩ | ⟨c89, hp⟩
   ·
    refine FW.condT rfl c89 ?_
    refine FW.seq (FW.region ?_)
    refine FL.v (E.assign (v := Value.bool false) rfl) ?_
    refine FL.nil ?_
    refine FW.ret ?_
    obtain rfl := Option.some.inj hp
    exact ⟨nofun, rfl, ⟨.inr rfl, res1 rfl rfl ⟨rfl, S87.back⟩⟩⟩
   ·
    refine FW.condF rfl c89 ?_
    refine FW.skip (FW.region ?_)
    refine FL.v (E.move k62) ?_
    refine FL.v (E.add rfl rfl) ?_
    refine FL.v (E.assign (v := Value.int .i64 (wr (((i23 : Nat) : Int) + 1))) rfl) ?_
    refine FL.nil ?_
    obtain rfl := Option.some.inj hp
    exact ⟨rfl, ⟨_, S87, i59, (nat_succ rfl (lt_of_get hx23) (p0.mono i59).le), k63, k64⟩⟩
  ·
   clear hp hq
   rintro s23 f100 w99 ⟨H96, S97, i98, k101, k102, k103⟩
   refine FW.seq (FW.seq (FW.region ?_))
   refine FL.v (E.move k101) ?_
   refine FL.v (E.move k102) ?_
   refine FL.v (E.lenP te55 rfl p0) ?_
   refine FL.v (E.lss rfl rfl) ?_
   refine FL.nil ?_
   refine FW.condF rfl dlt_len ?_
   refine FW.exit ?_
   exact ⟨nofun, rfl, ⟨_, S97, i98⟩⟩
  ·
   clear hq
   intro e f95 w94 hD
   rcases q23 with s23 | x23
   ·
    obtain ⟨rfl, hD⟩ := hD
    obtain ⟨H91, S92, i93⟩ := hD
    replace hp := el_go hp
    refine FW.seq (FW.region ?_)
    refine FL.v (E.assign (v := Value.bool true) rfl) ?_
    refine FL.nil ?_
    refine FW.ret ?_
    obtain rfl := Option.some.inj hp
    exact ⟨.inr rfl, res1 rfl rfl ⟨rfl, S92.back⟩⟩
   ·
    obtain ⟨he, hL⟩ := hD
    replace hp := el_rt hp
    obtain rfl := Option.some.inj hp
    subst he
    exact hL

theorem w_laws_eqIntS {Ha : GH} {wa : World} (hs : Sl Ha wa) (v0 : Value) (a0 : List Int) (p0 : RSl Ha eI 1 v0 a0) (v1 : Value) (a1 : List Int) (p1 : RSl Ha eI 1 v1 a1) {r : Bool} (hp : (PF.laws_eqIntS a0 a1) = some r) :
  Calls Tryz.prog 29 #[v0, v1] wa (Sc Ha wa (Value.bool r)) := by
 unfold PF.laws_eqIntS at hp
 have S0 := St.init hs
 refine calls_go (N := 26) (args := [v0, v1]) Tryz.func29 rfl rfl rfl ?_
 refine FW.seq (FW.region ?_)
 refine FL.v (E.assign (v := Value.bool false) rfl) ?_
 refine FL.nil (FW.seq (FW.seq (FW.region ?_)))
 refine FL.v (E.move (v := v0) rfl) ?_
 refine FL.v (E.lenP te39 rfl p0) ?_
 refine FL.v (E.move (v := v1) rfl) ?_
 refine FL.v (E.lenP te39 rfl p1) ?_
 refine FL.v (E.neq rfl rfl) ?_
 refine FL.nil ?_
 rcases ifB hp with ⟨c21, hp⟩ | ⟨c21, hp⟩
 ·
  refine FW.condT rfl c21 ?_
  refine FW.seq (FW.region ?_)
  refine FL.v (E.assign (v := Value.bool false) rfl) ?_
  refine FL.nil ?_
  refine FW.ret ?_
  obtain rfl := Option.some.inj hp
  exact ⟨.inr rfl, res1 rfl rfl ⟨rfl, S0.back⟩⟩
 ·
  refine FW.condF rfl c21 ?_
  refine FW.skip (FW.seq (FW.seq (FW.region ?_)))
  refine FL.v (E.assign (v := Value.int .i64 0) rfl) ?_
  refine FL.nil ?_
  obtain ⟨q23, hq, hp⟩ := bndR hp
  refine FW.block ?_
  refine FW.mono (FW.forL (S := Unit) (X := Bool) (fun (i23 : Nat) (s23 : Unit) f w => ∃ H : GH, St Ha wa H w [] ∧ Inc Ha H ∧ f 5 = Value.int .i64 ((i23 : Nat) : Int) ∧ f 0 = v0 ∧ f 1 = v1) (fun q e f w => match q with | .go s23 => e = Exit.exit 0 ∧ (∃ H : GH, St Ha wa H w [] ∧ Inc Ha H) | .rt x => ((e = Exit.ret) ∧ (fun e f w => (e = Exit.normal ∨ e = Exit.ret) ∧ ∀ a, Fr (δ := []) 26 a f → ∃ v, (results Tryz.f29 a.tmps).run Tryz.prog w = .ok v w ∧ (Sc Ha wa (Value.bool x)) (.returned v) w) e f w)) hq ⟨_, S0, (Inc.rfl _), rfl, rfl, rfl⟩ ?_ ?_) ?_
  ·
   clear hp hq
   rintro i23 y22 s23 f55 w54 ⟨H51, S52, i53, k56, k57, k58⟩ hx23 o78 hp
   refine FW.seq (FW.seq (FW.region ?_))
   refine FL.v (E.move k56) ?_
   refine FL.v (E.move k57) ?_
   refine FL.v (E.lenP te39 rfl p0) ?_
   refine FL.v (E.lssT rfl rfl (lss_len hx23)) ?_
   refine FL.nil ?_
   refine FW.condT rfl rfl ?_
   refine FW.skip (FW.seq (FW.block (FW.seq ?_)))
   refine FW.draw (fun w' => Run w54.heap.size H51 w54 H51 w') (by kernel_rfl) (by kernel_rfl) (run_drew S52.sl) ?_
   refine FD.val rfl rfl rfl (fun w' hw' => (E.move k57)) ?_
   refine FD.val rfl rfl rfl (fun w' hw' => (E.move k56)) ?_
   obtain ⟨p60, cs61, pt62, l63, at64, rel65⟩ := p0.at (ix_nat hx23)
   obtain rfl := eI_open rel65
   refine FD.val rfl rfl rfl (fun w' hw' => (E.indexAddr te39 rfl rfl pt62)) ?_
   refine FD.val rfl rfl rfl (fun w' hw' => (E.load rfl (run_load0 Tryz.isAgg3 ((at64.mono i53).now (S52.call hw').sl) rfl))) ?_
   refine FD.val rfl rfl rfl (fun w' hw' => (E.move k58)) ?_
   refine FD.val rfl rfl rfl (fun w' hw' => (E.move k56)) ?_
   obtain ⟨x72, hx73, hp⟩ := bnd hp
   obtain ⟨p66, cs67, pt68, l69, at70, rel71⟩ := p1.at hx73
   obtain rfl := eI_open rel71
   refine FD.val rfl rfl rfl (fun w' hw' => (E.indexAddr te39 rfl rfl pt68)) ?_
   refine FD.val rfl rfl rfl (fun w' hw' => (E.load rfl (run_load0 Tryz.isAgg3 ((at70.mono i53).now (S52.call hw').sl) rfl))) ?_
   refine FD.val rfl rfl rfl (fun w' hw' => (E.neq rfl rfl)) ?_
   refine FD.nil ?_
   intro w74 r76
   have S75 := S52.call r76
   rcases ifB hp with ⟨c77, hp⟩ | ⟨c77, hp⟩
   ·
    refine FW.condT rfl c77 ?_
    refine FW.seq (FW.region ?_)
    refine FL.v (E.assign (v := Value.bool false) rfl) ?_
    refine FL.nil ?_
    refine FW.ret ?_
    obtain rfl := Option.some.inj hp
    exact ⟨nofun, rfl, ⟨.inr rfl, res1 rfl rfl ⟨rfl, S75.back⟩⟩⟩
   ·
    refine FW.condF rfl c77 ?_
    refine FW.skip (FW.region ?_)
    refine FL.v (E.move k56) ?_
    refine FL.v (E.add rfl rfl) ?_
    refine FL.v (E.assign (v := Value.int .i64 (wr (((i23 : Nat) : Int) + 1))) rfl) ?_
    refine FL.nil ?_
    obtain rfl := Option.some.inj hp
    exact ⟨rfl, ⟨_, S75, i53, (nat_succ rfl (lt_of_get hx23) (p0.mono i53).le), k57, k58⟩⟩
  ·
   clear hp hq
   rintro s23 f88 w87 ⟨H84, S85, i86, k89, k90, k91⟩
   refine FW.seq (FW.seq (FW.region ?_))
   refine FL.v (E.move k89) ?_
   refine FL.v (E.move k90) ?_
   refine FL.v (E.lenP te39 rfl p0) ?_
   refine FL.v (E.lss rfl rfl) ?_
   refine FL.nil ?_
   refine FW.condF rfl dlt_len ?_
   refine FW.exit ?_
   exact ⟨nofun, rfl, ⟨_, S85, i86⟩⟩
  ·
   clear hq
   intro e f83 w82 hD
   rcases q23 with s23 | x23
   ·
    obtain ⟨rfl, hD⟩ := hD
    obtain ⟨H79, S80, i81⟩ := hD
    replace hp := el_go hp
    refine FW.seq (FW.region ?_)
    refine FL.v (E.assign (v := Value.bool true) rfl) ?_
    refine FL.nil ?_
    refine FW.ret ?_
    obtain rfl := Option.some.inj hp
    exact ⟨.inr rfl, res1 rfl rfl ⟨rfl, S80.back⟩⟩
   ·
    obtain ⟨he, hL⟩ := hD
    replace hp := el_rt hp
    obtain rfl := Option.some.inj hp
    subst he
    exact hL

theorem w_laws_eqIntSS {Ha : GH} {wa : World} (hs : Sl Ha wa) (v0 : Value) (a0 : List (List Int)) (p0 : RSl Ha (eL eI 1) 1 v0 a0) (v1 : Value) (a1 : List (List Int)) (p1 : RSl Ha (eL eI 1) 1 v1 a1) {r : Bool} (hp : (PF.laws_eqIntSS a0 a1) = some r) :
  Calls Tryz.prog 77 #[v0, v1] wa (Sc Ha wa (Value.bool r)) := by
 unfold PF.laws_eqIntSS at hp
 have S0 := St.init hs
 refine calls_go (N := 27) (args := [v0, v1]) Tryz.func77 rfl rfl rfl ?_
 refine FW.seq (FW.region ?_)
 refine FL.v (E.assign (v := Value.bool false) rfl) ?_
 refine FL.nil (FW.seq (FW.seq (FW.region ?_)))
 refine FL.v (E.move (v := v0) rfl) ?_
 refine FL.v (E.lenP te22 rfl p0) ?_
 refine FL.v (E.move (v := v1) rfl) ?_
 refine FL.v (E.lenP te22 rfl p1) ?_
 refine FL.v (E.neq rfl rfl) ?_
 refine FL.nil ?_
 rcases ifB hp with ⟨c21, hp⟩ | ⟨c21, hp⟩
 ·
  refine FW.condT rfl c21 ?_
  refine FW.seq (FW.region ?_)
  refine FL.v (E.assign (v := Value.bool false) rfl) ?_
  refine FL.nil ?_
  refine FW.ret ?_
  obtain rfl := Option.some.inj hp
  exact ⟨.inr rfl, res1 rfl rfl ⟨rfl, S0.back⟩⟩
 ·
  refine FW.condF rfl c21 ?_
  refine FW.skip (FW.seq (FW.seq (FW.region ?_)))
  refine FL.v (E.assign (v := Value.int .i64 0) rfl) ?_
  refine FL.nil ?_
  obtain ⟨q23, hq, hp⟩ := bndR hp
  refine FW.block ?_
  refine FW.mono (FW.forL (S := Unit) (X := Bool) (fun (i23 : Nat) (s23 : Unit) f w => ∃ H : GH, St Ha wa H w [] ∧ Inc Ha H ∧ f 5 = Value.int .i64 ((i23 : Nat) : Int) ∧ f 0 = v0 ∧ f 1 = v1) (fun q e f w => match q with | .go s23 => e = Exit.exit 0 ∧ (∃ H : GH, St Ha wa H w [] ∧ Inc Ha H) | .rt x => ((e = Exit.ret) ∧ (fun e f w => (e = Exit.normal ∨ e = Exit.ret) ∧ ∀ a, Fr (δ := []) 27 a f → ∃ v, (results Tryz.f77 a.tmps).run Tryz.prog w = .ok v w ∧ (Sc Ha wa (Value.bool x)) (.returned v) w) e f w)) hq ⟨_, S0, (Inc.rfl _), rfl, rfl, rfl⟩ ?_ ?_) ?_
  ·
   clear hp hq
   rintro i23 y22 s23 f61 w60 ⟨H57, S58, i59, k62, k63, k64⟩ hx23 o90 hp
   refine FW.seq (FW.seq (FW.region ?_))
   refine FL.v (E.move k62) ?_
   refine FL.v (E.move k63) ?_
   refine FL.v (E.lenP te22 rfl p0) ?_
   refine FL.v (E.lssT rfl rfl (lss_len hx23)) ?_
   refine FL.nil ?_
   refine FW.condT rfl rfl ?_
   refine FW.skip (FW.seq (FW.block (FW.seq ?_)))
   refine FW.draw (fun w' => Run w60.heap.size H57 w60 H57 w') (by kernel_rfl) (by kernel_rfl) (run_drew S58.sl) ?_
   refine FD.val rfl rfl rfl (fun w' hw' => (E.move k63)) ?_
   refine FD.val rfl rfl rfl (fun w' hw' => (E.move k62)) ?_
   obtain ⟨p66, cs67, pt68, l69, at70, rel71⟩ := p0.at (ix_nat hx23)
   obtain ⟨v72, rfl, h73⟩ := eL_open rel71
   refine FD.val rfl rfl rfl (fun w' hw' => (E.indexAddr te22 rfl rfl pt68)) ?_
   refine FD.val rfl rfl rfl (fun w' hw' => (E.load rfl (run_load0 Tryz.isAgg39 ((at70.mono i59).now (S58.call hw').sl) rfl))) ?_
   refine FD.val rfl rfl rfl (fun w' hw' => (E.move k64)) ?_
   refine FD.val rfl rfl rfl (fun w' hw' => (E.move k62)) ?_
   obtain ⟨x80, hx81, hp⟩ := bnd hp
   obtain ⟨p74, cs75, pt76, l77, at78, rel79⟩ := p1.at hx81
   obtain ⟨v82, rfl, h83⟩ := eL_open rel79
   refine FD.val rfl rfl rfl (fun w' hw' => (E.indexAddr te22 rfl rfl pt76)) ?_
   refine FD.val rfl rfl rfl (fun w' hw' => (E.load rfl (run_load0 Tryz.isAgg39 ((at78.mono i59).now (S58.call hw').sl) rfl))) ?_
   obtain ⟨r84, hr85, hp⟩ := bnd hp
   refine FD.call rfl rfl rfl (fun w' hw' => (E.call Tryz.call29 (A2 rfl rfl))) (fun w' hw' => Calls.cls hw' (w_laws_eqIntS (S58.call hw').sl v72 y22 (h73.mono i59) v82 x80 (h83.mono i59) hr85)) ?_
   refine FD.val rfl rfl rfl (fun w' hw' => (E.not rfl)) ?_
   refine FD.nil ?_
   intro w86 r88
   have S87 := S58.call r88
   rcases ifB hp with ⟨c89, hp⟩ | ⟨c89, hp⟩
   ·
    refine FW.condT rfl c89 ?_
    refine FW.seq (FW.region ?_)
    refine FL.v (E.assign (v := Value.bool false) rfl) ?_
    refine FL.nil ?_
    refine FW.ret ?_
    obtain rfl := Option.some.inj hp
    exact ⟨nofun, rfl, ⟨.inr rfl, res1 rfl rfl ⟨rfl, S87.back⟩⟩⟩
   ·
    refine FW.condF rfl c89 ?_
    refine FW.skip (FW.region ?_)
    refine FL.v (E.move k62) ?_
    refine FL.v (E.add rfl rfl) ?_
    refine FL.v (E.assign (v := Value.int .i64 (wr (((i23 : Nat) : Int) + 1))) rfl) ?_
    refine FL.nil ?_
    obtain rfl := Option.some.inj hp
    exact ⟨rfl, ⟨_, S87, i59, (nat_succ rfl (lt_of_get hx23) (p0.mono i59).le), k63, k64⟩⟩
  ·
   clear hp hq
   rintro s23 f100 w99 ⟨H96, S97, i98, k101, k102, k103⟩
   refine FW.seq (FW.seq (FW.region ?_))
   refine FL.v (E.move k101) ?_
   refine FL.v (E.move k102) ?_
   refine FL.v (E.lenP te22 rfl p0) ?_
   refine FL.v (E.lss rfl rfl) ?_
   refine FL.nil ?_
   refine FW.condF rfl dlt_len ?_
   refine FW.exit ?_
   exact ⟨nofun, rfl, ⟨_, S97, i98⟩⟩
  ·
   clear hq
   intro e f95 w94 hD
   rcases q23 with s23 | x23
   ·
    obtain ⟨rfl, hD⟩ := hD
    obtain ⟨H91, S92, i93⟩ := hD
    replace hp := el_go hp
    refine FW.seq (FW.region ?_)
    refine FL.v (E.assign (v := Value.bool true) rfl) ?_
    refine FL.nil ?_
    refine FW.ret ?_
    obtain rfl := Option.some.inj hp
    exact ⟨.inr rfl, res1 rfl rfl ⟨rfl, S92.back⟩⟩
   ·
    obtain ⟨he, hL⟩ := hD
    replace hp := el_rt hp
    obtain rfl := Option.some.inj hp
    subst he
    exact hL

theorem w_laws_eqCnf {Ha : GH} {wa : World} (hs : Sl Ha wa) (a0 : Cnf) (v0_1 : Value) (p0_1 : RSl Ha (eL eI 1) 1 v0_1 a0.clauses) (a1 : Cnf) (v1_1 : Value) (p1_1 : RSl Ha (eL eI 1) 1 v1_1 a1.clauses) {r : Bool} (hp : (PF.laws_eqCnf a0 a1) = some r) :
  Calls Tryz.prog 22 #[Value.agg #[Value.int .i64 a0.vars, v0_1], Value.agg #[Value.int .i64 a1.vars, v1_1]] wa (Sc Ha wa (Value.bool r)) := by
 unfold PF.laws_eqCnf at hp
 have S0 := St.init hs
 refine calls_go (N := 16) (args := [Value.agg #[Value.int .i64 a0.vars, v0_1], Value.agg #[Value.int .i64 a1.vars, v1_1]]) Tryz.func22 rfl rfl rfl ?_
 refine FW.seq (FW.region ?_)
 obtain ⟨b21, w22, run23, S24⟩ := S0.box (P := Tryz.prog) 31 [Value.int .i64 a0.vars, v0_1] (v := Value.agg #[Value.int .i64 a0.vars, v0_1]) rfl (ones_cons rfl (ones_cons p0_1.one ones_nil))
 refine FL.v (E.box rfl run23) ?_
 obtain ⟨H25, S26, i27, at28⟩ := S24.sealBox (i := 0) (l' := []) rfl rfl
 obtain ⟨b29, w30, run31, S32⟩ := S26.box (P := Tryz.prog) 31 [Value.int .i64 a1.vars, v1_1] (v := Value.agg #[Value.int .i64 a1.vars, v1_1]) rfl (ones_cons rfl (ones_cons p1_1.one ones_nil))
 refine FL.v (E.box rfl run31) ?_
 obtain ⟨H33, S34, i35, at36⟩ := S32.sealBox (i := 0) (l' := []) rfl rfl
 refine FL.v (E.assign (v := Value.bool false) rfl) ?_
 refine FL.nil (FW.seq (FW.seq (FW.region ?_)))
 refine FL.v (E.fieldAddr tf31_0 rfl) ?_
 refine FL.v (E.load rfl (run_load1 Tryz.isAgg3 ((at28.mono i35).now S34.sl) rfl)) ?_
 refine FL.v (E.fieldAddr tf31_0 rfl) ?_
 refine FL.v (E.load rfl (run_load1 Tryz.isAgg3 (at36.now S34.sl) rfl)) ?_
 refine FL.v (E.neq rfl rfl) ?_
 refine FL.nil ?_
 rcases ifB hp with ⟨c37, hp⟩ | ⟨c37, hp⟩
 ·
  refine FW.condT rfl c37 ?_
  refine FW.seq (FW.region ?_)
  refine FL.v (E.assign (v := Value.bool false) rfl) ?_
  refine FL.nil ?_
  refine FW.ret ?_
  obtain rfl := Option.some.inj hp
  exact ⟨.inr rfl, res1 rfl rfl ⟨rfl, S34.back⟩⟩
 ·
  refine FW.condF rfl c37 ?_
  refine FW.skip (FW.seq (FW.seq (FW.region ?_)))
  refine FL.v (E.fieldAddr tf31_1 rfl) ?_
  refine FL.v (E.load rfl (run_load1 Tryz.isAgg22 ((at28.mono i35).now S34.sl) rfl)) ?_
  refine FL.v (E.fieldAddr tf31_1 rfl) ?_
  refine FL.v (E.load rfl (run_load1 Tryz.isAgg22 (at36.now S34.sl) rfl)) ?_
  obtain ⟨r38, hr39, hp⟩ := bnd hp
  refine FL.call rfl rfl rfl (E.call Tryz.call77 (A2 rfl rfl)) (w_laws_eqIntSS S34.sl v0_1 a0.clauses (p0_1.mono (i27.tr i35)) v1_1 a1.clauses (p1_1.mono (i27.tr i35)) hr39) ?_
  rintro e w40 ⟨rfl, r41⟩
  refine ⟨_, rfl, ?_⟩
  have S42 := S34.call r41
  refine FL.v (E.not rfl) ?_
  refine FL.nil ?_
  rcases ifB hp with ⟨c43, hp⟩ | ⟨c43, hp⟩
  ·
   refine FW.condT rfl c43 ?_
   refine FW.seq (FW.region ?_)
   refine FL.v (E.assign (v := Value.bool false) rfl) ?_
   refine FL.nil ?_
   refine FW.ret ?_
   obtain rfl := Option.some.inj hp
   exact ⟨.inr rfl, res1 rfl rfl ⟨rfl, S42.back⟩⟩
  ·
   refine FW.condF rfl c43 ?_
   refine FW.skip (FW.seq (FW.region ?_))
   refine FL.v (E.assign (v := Value.bool true) rfl) ?_
   refine FL.nil ?_
   refine FW.ret ?_
   obtain rfl := Option.some.inj hp
   exact ⟨.inr rfl, res1 rfl rfl ⟨rfl, S42.back⟩⟩

theorem w_laws_eqResStep {Ha : GH} {wa : World} (hs : Sl Ha wa) (a0 : ResStep) (v0_0 : Value) (p0_0 : RSl Ha eI 1 v0_0 a0.clause) (a1 : ResStep) (v1_0 : Value) (p1_0 : RSl Ha eI 1 v1_0 a1.clause) {r : Bool} (hp : (PF.laws_eqResStep a0 a1) = some r) :
  Calls Tryz.prog 76 #[Value.agg #[v0_0, Value.int .i64 a0.left, Value.int .i64 a0.right, Value.int .i64 a0.pivot], Value.agg #[v1_0, Value.int .i64 a1.left, Value.int .i64 a1.right, Value.int .i64 a1.pivot]] wa (Sc Ha wa (Value.bool r)) := by
 unfold PF.laws_eqResStep at hp
 have S0 := St.init hs
 refine calls_go (N := 26) (args := [Value.agg #[v0_0, Value.int .i64 a0.left, Value.int .i64 a0.right, Value.int .i64 a0.pivot], Value.agg #[v1_0, Value.int .i64 a1.left, Value.int .i64 a1.right, Value.int .i64 a1.pivot]]) Tryz.func76 rfl rfl rfl ?_
 refine FW.seq (FW.region ?_)
 obtain ⟨b21, w22, run23, S24⟩ := S0.box (P := Tryz.prog) 89 [v0_0, Value.int .i64 a0.left, Value.int .i64 a0.right, Value.int .i64 a0.pivot] (v := Value.agg #[v0_0, Value.int .i64 a0.left, Value.int .i64 a0.right, Value.int .i64 a0.pivot]) rfl (ones_cons p0_0.one (ones_cons rfl (ones_cons rfl (ones_cons rfl ones_nil))))
 refine FL.v (E.box rfl run23) ?_
 obtain ⟨H25, S26, i27, at28⟩ := S24.sealBox (i := 0) (l' := []) rfl rfl
 obtain ⟨b29, w30, run31, S32⟩ := S26.box (P := Tryz.prog) 89 [v1_0, Value.int .i64 a1.left, Value.int .i64 a1.right, Value.int .i64 a1.pivot] (v := Value.agg #[v1_0, Value.int .i64 a1.left, Value.int .i64 a1.right, Value.int .i64 a1.pivot]) rfl (ones_cons p1_0.one (ones_cons rfl (ones_cons rfl (ones_cons rfl ones_nil))))
 refine FL.v (E.box rfl run31) ?_
 obtain ⟨H33, S34, i35, at36⟩ := S32.sealBox (i := 0) (l' := []) rfl rfl
 refine FL.v (E.assign (v := Value.bool false) rfl) ?_
 refine FL.nil (FW.seq (FW.seq (FW.region ?_)))
 refine FL.v (E.fieldAddr tf89_0 rfl) ?_
 refine FL.v (E.load rfl (run_load1 Tryz.isAgg39 ((at28.mono i35).now S34.sl) rfl)) ?_
 refine FL.v (E.fieldAddr tf89_0 rfl) ?_
 refine FL.v (E.load rfl (run_load1 Tryz.isAgg39 (at36.now S34.sl) rfl)) ?_
 obtain ⟨r37, hr38, hp⟩ := bnd hp
 refine FL.call rfl rfl rfl (E.call Tryz.call29 (A2 rfl rfl)) (w_laws_eqIntS S34.sl v0_0 a0.clause (p0_0.mono (i27.tr i35)) v1_0 a1.clause (p1_0.mono (i27.tr i35)) hr38) ?_
 rintro e w39 ⟨rfl, r40⟩
 refine ⟨_, rfl, ?_⟩
 have S41 := S34.call r40
 refine FL.v (E.not rfl) ?_
 refine FL.nil ?_
 rcases ifB hp with ⟨c42, hp⟩ | ⟨c42, hp⟩
 ·
  refine FW.condT rfl c42 ?_
  refine FW.seq (FW.region ?_)
  refine FL.v (E.assign (v := Value.bool false) rfl) ?_
  refine FL.nil ?_
  refine FW.ret ?_
  obtain rfl := Option.some.inj hp
  exact ⟨.inr rfl, res1 rfl rfl ⟨rfl, S41.back⟩⟩
 ·
  refine FW.condF rfl c42 ?_
  refine FW.skip (FW.seq (FW.seq (FW.region ?_)))
  refine FL.v (E.fieldAddr tf89_1 rfl) ?_
  refine FL.v (E.load rfl (run_load1 Tryz.isAgg3 ((at28.mono i35).now S41.sl) rfl)) ?_
  refine FL.v (E.fieldAddr tf89_1 rfl) ?_
  refine FL.v (E.load rfl (run_load1 Tryz.isAgg3 (at36.now S41.sl) rfl)) ?_
  refine FL.v (E.neq rfl rfl) ?_
  refine FL.nil ?_
  rcases ifB hp with ⟨c43, hp⟩ | ⟨c43, hp⟩
  ·
   refine FW.condT rfl c43 ?_
   refine FW.seq (FW.region ?_)
   refine FL.v (E.assign (v := Value.bool false) rfl) ?_
   refine FL.nil ?_
   refine FW.ret ?_
   obtain rfl := Option.some.inj hp
   exact ⟨.inr rfl, res1 rfl rfl ⟨rfl, S41.back⟩⟩
  ·
   refine FW.condF rfl c43 ?_
   refine FW.skip (FW.seq (FW.seq (FW.region ?_)))
   refine FL.v (E.fieldAddr tf89_2 rfl) ?_
   refine FL.v (E.load rfl (run_load1 Tryz.isAgg3 ((at28.mono i35).now S41.sl) rfl)) ?_
   refine FL.v (E.fieldAddr tf89_2 rfl) ?_
   refine FL.v (E.load rfl (run_load1 Tryz.isAgg3 (at36.now S41.sl) rfl)) ?_
   refine FL.v (E.neq rfl rfl) ?_
   refine FL.nil ?_
   rcases ifB hp with ⟨c44, hp⟩ | ⟨c44, hp⟩
   ·
    refine FW.condT rfl c44 ?_
    refine FW.seq (FW.region ?_)
    refine FL.v (E.assign (v := Value.bool false) rfl) ?_
    refine FL.nil ?_
    refine FW.ret ?_
    obtain rfl := Option.some.inj hp
    exact ⟨.inr rfl, res1 rfl rfl ⟨rfl, S41.back⟩⟩
   ·
    refine FW.condF rfl c44 ?_
    refine FW.skip (FW.seq (FW.seq (FW.region ?_)))
    refine FL.v (E.fieldAddr tf89_3 rfl) ?_
    refine FL.v (E.load rfl (run_load1 Tryz.isAgg3 ((at28.mono i35).now S41.sl) rfl)) ?_
    refine FL.v (E.fieldAddr tf89_3 rfl) ?_
    refine FL.v (E.load rfl (run_load1 Tryz.isAgg3 (at36.now S41.sl) rfl)) ?_
    refine FL.v (E.neq rfl rfl) ?_
    refine FL.nil ?_
    rcases ifB hp with ⟨c45, hp⟩ | ⟨c45, hp⟩
    ·
     refine FW.condT rfl c45 ?_
     refine FW.seq (FW.region ?_)
     refine FL.v (E.assign (v := Value.bool false) rfl) ?_
     refine FL.nil ?_
     refine FW.ret ?_
     obtain rfl := Option.some.inj hp
     exact ⟨.inr rfl, res1 rfl rfl ⟨rfl, S41.back⟩⟩
    ·
     refine FW.condF rfl c45 ?_
     refine FW.skip (FW.seq (FW.region ?_))
     refine FL.v (E.assign (v := Value.bool true) rfl) ?_
     refine FL.nil ?_
     refine FW.ret ?_
     obtain rfl := Option.some.inj hp
     exact ⟨.inr rfl, res1 rfl rfl ⟨rfl, S41.back⟩⟩

theorem w_laws_eqResStepS {Ha : GH} {wa : World} (hs : Sl Ha wa) (v0 : Value) (a0 : List ResStep) (p0 : RSl Ha eResStep 4 v0 a0) (v1 : Value) (a1 : List ResStep) (p1 : RSl Ha eResStep 4 v1 a1) {r : Bool} (hp : (PF.laws_eqResStepS a0 a1) = some r) :
  Calls Tryz.prog 21 #[v0, v1] wa (Sc Ha wa (Value.bool r)) := by
 unfold PF.laws_eqResStepS at hp
 have S0 := St.init hs
 refine calls_go (N := 27) (args := [v0, v1]) Tryz.func21 rfl rfl rfl ?_
 refine FW.seq (FW.region ?_)
 refine FL.v (E.assign (v := Value.bool false) rfl) ?_
 refine FL.nil (FW.seq (FW.seq (FW.region ?_)))
 refine FL.v (E.move (v := v0) rfl) ?_
 refine FL.v (E.lenP te28 rfl p0) ?_
 refine FL.v (E.move (v := v1) rfl) ?_
 refine FL.v (E.lenP te28 rfl p1) ?_
 refine FL.v (E.neq rfl rfl) ?_
 refine FL.nil ?_
 rcases ifB hp with ⟨c21, hp⟩ | ⟨c21, hp⟩
 ·
  refine FW.condT rfl c21 ?_
  refine FW.seq (FW.region ?_)
  refine FL.v (E.assign (v := Value.bool false) rfl) ?_
  refine FL.nil ?_
  refine FW.ret ?_
  obtain rfl := Option.some.inj hp
  exact ⟨.inr rfl, res1 rfl rfl ⟨rfl, S0.back⟩⟩
 ·
  refine FW.condF rfl c21 ?_
  refine FW.skip (FW.seq (FW.seq (FW.region ?_)))
  refine FL.v (E.assign (v := Value.int .i64 0) rfl) ?_
  refine FL.nil ?_
  obtain ⟨q23, hq, hp⟩ := bndR hp
  refine FW.block ?_
  refine FW.mono (FW.forL (S := Unit) (X := Bool) (fun (i23 : Nat) (s23 : Unit) f w => ∃ H : GH, St Ha wa H w [] ∧ Inc Ha H ∧ f 5 = Value.int .i64 ((i23 : Nat) : Int) ∧ f 0 = v0 ∧ f 1 = v1) (fun q e f w => match q with | .go s23 => e = Exit.exit 0 ∧ (∃ H : GH, St Ha wa H w [] ∧ Inc Ha H) | .rt x => ((e = Exit.ret) ∧ (fun e f w => (e = Exit.normal ∨ e = Exit.ret) ∧ ∀ a, Fr (δ := []) 27 a f → ∃ v, (results Tryz.f21 a.tmps).run Tryz.prog w = .ok v w ∧ (Sc Ha wa (Value.bool x)) (.returned v) w) e f w)) hq ⟨_, S0, (Inc.rfl _), rfl, rfl, rfl⟩ ?_ ?_) ?_
  ·
   clear hp hq
   rintro i23 y22 s23 f61 w60 ⟨H57, S58, i59, k62, k63, k64⟩ hx23 o90 hp
   refine FW.seq (FW.seq (FW.region ?_))
   refine FL.v (E.move k62) ?_
   refine FL.v (E.move k63) ?_
   refine FL.v (E.lenP te28 rfl p0) ?_
   refine FL.v (E.lssT rfl rfl (lss_len hx23)) ?_
   refine FL.nil ?_
   refine FW.condT rfl rfl ?_
   refine FW.skip (FW.seq (FW.block (FW.seq ?_)))
   refine FW.draw (fun w' => Run w60.heap.size H57 w60 H57 w') (by kernel_rfl) (by kernel_rfl) (run_drew S58.sl) ?_
   refine FD.val rfl rfl rfl (fun w' hw' => (E.move k63)) ?_
   refine FD.val rfl rfl rfl (fun w' hw' => (E.move k62)) ?_
   obtain ⟨p66, cs67, pt68, l69, at70, rel71⟩ := p0.at (ix_nat hx23)
   obtain ⟨v72, rfl, h73⟩ := eResStep_open rel71
   refine FD.val rfl rfl rfl (fun w' hw' => (E.indexAddr te28 rfl rfl pt68)) ?_
   refine FD.val rfl rfl rfl (fun w' hw' => (E.load rfl (run_loadA Tryz.isAgg89 Tryz.sizeOf89 ((at70.mono i59).now (S58.call hw').sl) rfl))) ?_
   refine FD.val rfl rfl rfl (fun w' hw' => (E.move k64)) ?_
   refine FD.val rfl rfl rfl (fun w' hw' => (E.move k62)) ?_
   obtain ⟨x80, hx81, hp⟩ := bnd hp
   obtain ⟨p74, cs75, pt76, l77, at78, rel79⟩ := p1.at hx81
   obtain ⟨v82, rfl, h83⟩ := eResStep_open rel79
   refine FD.val rfl rfl rfl (fun w' hw' => (E.indexAddr te28 rfl rfl pt76)) ?_
   refine FD.val rfl rfl rfl (fun w' hw' => (E.load rfl (run_loadA Tryz.isAgg89 Tryz.sizeOf89 ((at78.mono i59).now (S58.call hw').sl) rfl))) ?_
   obtain ⟨r84, hr85, hp⟩ := bnd hp
   refine FD.call rfl rfl rfl (fun w' hw' => (E.call Tryz.call76 (A2 rfl rfl))) (fun w' hw' => Calls.cls hw' (w_laws_eqResStep (S58.call hw').sl y22 v72 (h73.mono i59) x80 v82 (h83.mono i59) hr85)) ?_
   refine FD.val rfl rfl rfl (fun w' hw' => (E.not rfl)) ?_
   refine FD.nil ?_
   intro w86 r88
   have S87 := S58.call r88
   rcases ifB hp with ⟨c89, hp⟩ | ⟨c89, hp⟩
   ·
    refine FW.condT rfl c89 ?_
    refine FW.seq (FW.region ?_)
    refine FL.v (E.assign (v := Value.bool false) rfl) ?_
    refine FL.nil ?_
    refine FW.ret ?_
    obtain rfl := Option.some.inj hp
    exact ⟨nofun, rfl, ⟨.inr rfl, res1 rfl rfl ⟨rfl, S87.back⟩⟩⟩
   ·
    refine FW.condF rfl c89 ?_
    refine FW.skip (FW.region ?_)
    refine FL.v (E.move k62) ?_
    refine FL.v (E.add rfl rfl) ?_
    refine FL.v (E.assign (v := Value.int .i64 (wr (((i23 : Nat) : Int) + 1))) rfl) ?_
    refine FL.nil ?_
    obtain rfl := Option.some.inj hp
    exact ⟨rfl, ⟨_, S87, i59, (nat_succ rfl (lt_of_get hx23) (p0.mono i59).le), k63, k64⟩⟩
  ·
   clear hp hq
   rintro s23 f100 w99 ⟨H96, S97, i98, k101, k102, k103⟩
   refine FW.seq (FW.seq (FW.region ?_))
   refine FL.v (E.move k101) ?_
   refine FL.v (E.move k102) ?_
   refine FL.v (E.lenP te28 rfl p0) ?_
   refine FL.v (E.lss rfl rfl) ?_
   refine FL.nil ?_
   refine FW.condF rfl dlt_len ?_
   refine FW.exit ?_
   exact ⟨nofun, rfl, ⟨_, S97, i98⟩⟩
  ·
   clear hq
   intro e f95 w94 hD
   rcases q23 with s23 | x23
   ·
    obtain ⟨rfl, hD⟩ := hD
    obtain ⟨H91, S92, i93⟩ := hD
    replace hp := el_go hp
    refine FW.seq (FW.region ?_)
    refine FL.v (E.assign (v := Value.bool true) rfl) ?_
    refine FL.nil ?_
    refine FW.ret ?_
    obtain rfl := Option.some.inj hp
    exact ⟨.inr rfl, res1 rfl rfl ⟨rfl, S92.back⟩⟩
   ·
    obtain ⟨he, hL⟩ := hD
    replace hp := el_rt hp
    obtain rfl := Option.some.inj hp
    subst he
    exact hL

theorem w_laws_markIntS {H0 Ha : GH} {w0 wa : World} {l : List MO} (S0 : St H0 w0 Ha wa l) (hs0 : Sl H0 w0) (v0 : Value) (a0 : List Int) (p0 : RSl (up w0.heap.size Ha) eI 1 v0 a0) (a1 : Int) :
  Calls Tryz.prog 30 #[v0, Value.int .i64 a1] wa (M1 H0 w0 Ha l eI 1 v0 (PF.laws_markIntS a0 a1)) := by
 obtain ⟨c0, n0, hc0⟩ := p0.nest eI_flat (by decide)
 have hln := p0.ln
 have hle := p0.le
 refine calls_go (N := 19) (args := [v0, Value.int .i64 a1]) Tryz.func30 rfl rfl rfl ?_
 refine FW.seq (FW.region ?_)
 refine FL.v (E.assign (v := Value.int .i64 0) rfl) ?_
 refine FL.nil (FW.seq (FW.seq (FW.region ?_)))
 refine FL.v (E.assign (v := Value.int .i64 0) rfl) ?_
 refine FL.nil (FW.block ?_)
 refine FW.mono (FW.mark (F := fun y m => (m, (wr (m + 1)))) (a0 := a0) (k0 := a1) (fun (i : Nat) (xs : List Int) (k : Int) f w => ∃ (H : GH) (c : List Value), St H0 w0 H w l ∧ Nest (up w0.heap.size H) eI 1 v0 xs c ∧ bl c = bl c0 ∧ (∀ b, b ∉ bl [v0] → b ∉ bl c0 → H b = Ha b) ∧ f 0 = v0 ∧ f 1 = Value.int .i64 k ∧ f 5 = Value.int .i64 ((i : Nat) : Int)) (fun e f w => e = Exit.exit 0 ∧ ∃ (H : GH) (c : List Value), St H0 w0 H w l ∧ Nest (up w0.heap.size H) eI 1 v0 (markFrom (fun y m => (m, (wr (m + 1)))) a0 a1).1 c ∧ bl c = bl c0 ∧ (∀ b, b ∉ bl [v0] → b ∉ bl c0 → H b = Ha b) ∧ f 0 = v0 ∧ f 1 = Value.int .i64 (markFrom (fun y m => (m, (wr (m + 1)))) a0 a1).2) ⟨_, _, S0, n0, rfl, fun _ _ _ => rfl, rfl, rfl, rfl⟩ ?_ ?_) ?_
 ·
  rintro i y xs m f1 w1 ⟨H1, c1, S1, n1, hb, ho, kv, kk, kc⟩ hx hy
  obtain ⟨p, hpt, wr0, hB, hr, nd⟩ := n1.begin hy (by decide)
  have hci := eI_open hr
  have rd := wr0.opens hci
  refine FW.seq (FW.seq (FW.region ?_))
  refine FL.v (E.move kc) ?_
  refine FL.v (E.move kv) ?_
  refine FL.v (E.len te39 rfl hln) ?_
  refine FL.v (E.lssT rfl rfl (lss_len hx)) ?_
  refine FL.nil ?_
  refine FW.condT rfl rfl ?_
  refine FW.skip (FW.seq (FW.block (FW.seq (FW.region ?_))))
  refine FL.v (E.move kv) ?_
  refine FL.v (E.move kc) ?_
  refine FL.v (E.move kk) ?_
  refine FL.v (E.indexAddr te39 rfl rfl hpt) ?_
  obtain ⟨w21, H22, run24, S23, wr25, o26⟩ := rd.poke0 (P := Tryz.prog) (t := 3) (u := Value.int .i64 m) S1 hs0 hB rfl rfl rfl Tryz.sizeOf3 rfl rfl (c2 := [Value.int .i64 m]) rfl
  refine FL.act rfl rfl (E.store rfl rfl run24) ?_
  refine FL.nil (FW.region ?_)
  refine FL.v (E.move kk) ?_
  refine FL.v (E.add rfl rfl) ?_
  refine FL.v (E.assign (v := Value.int .i64 (wr (m + 1))) rfl) ?_
  refine FL.nil (FW.region ?_)
  refine FL.v (E.move kc) ?_
  refine FL.v (E.add rfl rfl) ?_
  refine FL.v (E.assign (v := Value.int .i64 (wr (((i : Nat) : Int) + 1))) rfl) ?_
  refine FL.nil ?_
  obtain ⟨c2, n2, hb2, ho2⟩ := n1.round eI_flat.loc hy (by decide) hpt wr25 (y' := m) rfl
  exact ⟨rfl, _, _, S23, n2, hb2.trans hb, fun b q1 q2 => (ho2 b q1 (by rw [hb]; exact q2)).trans (ho b q1 q2), kv, rfl, nat_succ rfl (lt_of_get hx) hle⟩
 ·
  rintro f1 w1 ⟨H1, c1, S1, n1, hb, ho, kv, kk, kc⟩
  refine FW.seq (FW.seq (FW.region ?_))
  refine FL.v (E.move kc) ?_
  refine FL.v (E.move kv) ?_
  refine FL.v (E.len te39 rfl hln) ?_
  refine FL.v (E.lss rfl rfl) ?_
  refine FL.nil ?_
  refine FW.condF rfl dlt_len ?_
  refine FW.exit ?_
  exact ⟨nofun, rfl, _, _, S1, n1, hb, ho, kv, kk⟩
 ·
  rintro e f2 w2 ⟨rfl, H2, c2, S2, n2, hb, ho, kv, kk⟩
  refine FW.seq (FW.region ?_)
  refine FL.v (E.move kk) ?_
  refine FL.v (E.assign (v := Value.int .i64 ((markFrom (fun y m => (m, (wr (m + 1)))) a0 a1).2)) rfl) ?_
  refine FL.nil ?_
  refine FW.ret ?_
  exact ⟨.inr rfl, res1 rfl rfl ⟨_, rfl, S2, n2.rsl, fun b q => ho b q (by rw [hc0]; simp)⟩⟩

theorem w_laws_markIntSS {H0 Ha : GH} {w0 wa : World} {l : List MO} (S0 : St H0 w0 Ha wa l) (hs0 : Sl H0 w0) (v0 : Value) (a0 : List (List Int)) (c0 : List Value) (n0 : Nest (up w0.heap.size Ha) (eL eI 1) 1 v0 a0 c0) (a1 : Int) :
  Calls Tryz.prog 78 #[v0, Value.int .i64 a1] wa (M2 H0 w0 Ha l (eL eI 1) 1 v0 c0 (PF.laws_markIntSS a0 a1)) := by
 have hln := n0.rsl.ln
 have hle := n0.rsl.le
 refine calls_go (N := 19) (args := [v0, Value.int .i64 a1]) Tryz.func78 rfl rfl rfl ?_
 refine FW.seq (FW.region ?_)
 refine FL.v (E.assign (v := Value.int .i64 0) rfl) ?_
 refine FL.nil (FW.seq (FW.seq (FW.region ?_)))
 refine FL.v (E.assign (v := Value.int .i64 0) rfl) ?_
 refine FL.nil (FW.block ?_)
 refine FW.mono (FW.mark (F := fun y m => ((PF.laws_markIntS y m).1, (PF.laws_markIntS y m).2)) (a0 := a0) (k0 := a1) (fun (i : Nat) (xs : List (List Int)) (k : Int) f w => ∃ (H : GH) (c : List Value), St H0 w0 H w l ∧ Nest (up w0.heap.size H) (eL eI 1) 1 v0 xs c ∧ bl c = bl c0 ∧ (∀ b, b ∉ bl [v0] → b ∉ bl c0 → H b = Ha b) ∧ f 0 = v0 ∧ f 1 = Value.int .i64 k ∧ f 5 = Value.int .i64 ((i : Nat) : Int)) (fun e f w => e = Exit.exit 0 ∧ ∃ (H : GH) (c : List Value), St H0 w0 H w l ∧ Nest (up w0.heap.size H) (eL eI 1) 1 v0 (markFrom (fun y m => ((PF.laws_markIntS y m).1, (PF.laws_markIntS y m).2)) a0 a1).1 c ∧ bl c = bl c0 ∧ (∀ b, b ∉ bl [v0] → b ∉ bl c0 → H b = Ha b) ∧ f 0 = v0 ∧ f 1 = Value.int .i64 (markFrom (fun y m => ((PF.laws_markIntS y m).1, (PF.laws_markIntS y m).2)) a0 a1).2) ⟨_, _, S0, n0, rfl, fun _ _ _ => rfl, rfl, rfl, rfl⟩ ?_ ?_) ?_
 ·
  rintro i y xs m f1 w1 ⟨H1, c1, S1, n1, hb, ho, kv, kk, kc⟩ hx hy
  obtain ⟨p, hpt, wr0, hB, hr, nd⟩ := n1.begin hy (by decide)
  obtain ⟨u0, hci, hu0⟩ := eL_open hr
  have rd := wr0.opens hci
  refine FW.seq (FW.seq (FW.region ?_))
  refine FL.v (E.move kc) ?_
  refine FL.v (E.move kv) ?_
  refine FL.v (E.len te22 rfl hln) ?_
  refine FL.v (E.lssT rfl rfl (lss_len hx)) ?_
  refine FL.nil ?_
  refine FW.condT rfl rfl ?_
  refine FW.skip (FW.seq (FW.block (FW.region ?_)))
  refine FL.v (E.move kv) ?_
  refine FL.v (E.move kc) ?_
  refine FL.v (E.indexAddr te22 rfl rfl hpt) ?_
  refine FL.v (E.load rfl (run_load0 Tryz.isAgg39 (rd.now S1.sl) rfl)) ?_
  refine FL.v (E.move kk) ?_
  refine FL.call rfl rfl rfl (E.call Tryz.call30 (A2 rfl rfl)) (w_laws_markIntS S1 hs0 u0 y hu0 m) ?_
  rintro e w22 ⟨H21, rfl, S23, h24, o25⟩
  refine ⟨_, rfl, ?_⟩
  have wr26 := rd.inner (j := 0) rfl o25
  refine FL.v (E.assign (v := Value.int .i64 ((PF.laws_markIntS y m).2)) rfl) ?_
  refine FL.nil (FW.region ?_)
  refine FL.v (E.move kc) ?_
  refine FL.v (E.add rfl rfl) ?_
  refine FL.v (E.assign (v := Value.int .i64 (wr (((i : Nat) : Int) + 1))) rfl) ?_
  refine FL.nil ?_
  obtain ⟨c2, n2, hb2, ho2⟩ := n1.round (eL_loc eI_flat) hy (by decide) hpt wr26 (y' := (PF.laws_markIntS y m).1) ⟨_, rfl, h24⟩
  exact ⟨rfl, _, _, S23, n2, hb2.trans hb, fun b q1 q2 => (ho2 b q1 (by rw [hb]; exact q2)).trans (ho b q1 q2), kv, rfl, nat_succ rfl (lt_of_get hx) hle⟩
 ·
  rintro f1 w1 ⟨H1, c1, S1, n1, hb, ho, kv, kk, kc⟩
  refine FW.seq (FW.seq (FW.region ?_))
  refine FL.v (E.move kc) ?_
  refine FL.v (E.move kv) ?_
  refine FL.v (E.len te22 rfl hln) ?_
  refine FL.v (E.lss rfl rfl) ?_
  refine FL.nil ?_
  refine FW.condF rfl dlt_len ?_
  refine FW.exit ?_
  exact ⟨nofun, rfl, _, _, S1, n1, hb, ho, kv, kk⟩
 ·
  rintro e f2 w2 ⟨rfl, H2, c2, S2, n2, hb, ho, kv, kk⟩
  refine FW.seq (FW.region ?_)
  refine FL.v (E.move kk) ?_
  refine FL.v (E.assign (v := Value.int .i64 ((markFrom (fun y m => ((PF.laws_markIntS y m).1, (PF.laws_markIntS y m).2)) a0 a1).2)) rfl) ?_
  refine FL.nil ?_
  refine FW.ret ?_
  exact ⟨.inr rfl, res1 rfl rfl ⟨_, _, rfl, S2, n2, hb, fun b q1 q2 => weak (F := fun b => b ∉ bl [v0] ∧ b ∉ bl c0) (fun b q => ho b q.1 q.2) b ⟨q1, q2⟩⟩⟩

@[reducible] def p_laws_markCnf (H0 : GH) (w0 : World) (Ha : GH) (l : List MO) (v0 : Value) (c0 : List Value) (r : Cnf × Int) : Ending → World → Prop := fun e w' =>
 ∃ (H' : GH) (c' : List Value), e = .returned (.int .i64 r.2) ∧ St H0 w0 H' w' l ∧ Nest (up w0.heap.size H') (eL eI 1) 1 v0 r.1.clauses c' ∧ bl c' = bl c0 ∧ ∀ b, b ∉ bl [v0] → b ∉ bl c0 → ∀ o, Ha b = some o → H' b = some o
theorem w_laws_markCnf {H0 Ha : GH} {w0 wa : World} {l : List MO} (S0 : St H0 w0 Ha wa l) (hs0 : Sl H0 w0) (a0 : Cnf) (v0 : Value) (c0 : List Value) (n0 : Nest (up w0.heap.size Ha) (eL eI 1) 1 v0 a0.clauses c0) (a1 : Int) :
  Calls Tryz.prog 23 #[.agg #[Value.int .i64 a0.vars, v0], Value.int .i64 a1] wa (p_laws_markCnf H0 w0 Ha l v0 c0 (PF.laws_markCnf a0 a1)) := by
 refine calls_go (N := 10) (args := [.agg #[Value.int .i64 a0.vars, v0], Value.int .i64 a1]) Tryz.func23 rfl rfl rfl ?_
 refine FW.seq (FW.region ?_)
 obtain ⟨b21, w22, run23, S24⟩ := S0.box (P := Tryz.prog) 31 [Value.int .i64 a0.vars, v0] (v := Value.agg #[Value.int .i64 a0.vars, v0]) rfl (ones_cons rfl (ones_cons n0.rsl.one ones_nil))
 refine FL.v (E.box rfl run23) ?_
 obtain ⟨H25, S26, i27, at28⟩ := S24.sealBox (i := 0) (l' := l) rfl rfl
 refine FL.v (E.assign (v := Value.int .i64 0) rfl) ?_
 refine FL.nil (FW.seq (FW.region ?_))
 refine FL.v (E.fieldAddr tf31_1 rfl) ?_
 refine FL.v (E.load rfl (run_load1 Tryz.isAgg22 (at28.now S26.sl) rfl)) ?_
 refine FL.v (E.move (v := Value.int .i64 a1) rfl) ?_
 refine FL.call rfl rfl rfl (E.call Tryz.call78 (A2 rfl rfl)) (w_laws_markIntSS S26 hs0 v0 a0.clauses c0 (n0.mono (up_mono i27)) a1) ?_
 rintro e w30 ⟨H29, c34, rfl, S31, h32, hb35, o33⟩
 refine ⟨_, rfl, ?_⟩
 refine FL.v (E.assign (v := Value.int .i64 ((PF.laws_markIntSS a0.clauses a1).2)) rfl) ?_
 refine FL.nil (FW.seq (FW.region ?_))
 refine FL.v (E.move (v := Value.int .i64 ((PF.laws_markIntSS a0.clauses a1).2)) rfl) ?_
 refine FL.v (E.assign (v := Value.int .i64 ((PF.laws_markIntSS a0.clauses a1).2)) rfl) ?_
 refine FL.nil ?_
 refine FW.ret ?_
 exact ⟨.inr rfl, res1 rfl rfl ⟨_, _, rfl, S31, h32, hb35, fun b q1 q2 o ho => o33 b q1 q2 o (i27 b o ho)⟩⟩

theorem w_laws_markResStepS {H0 Ha : GH} {w0 wa : World} {l : List MO} (S0 : St H0 w0 Ha wa l) (hs0 : Sl H0 w0) (v0 : Value) (a0 : List ResStep) (c0 : List Value) (n0 : Nest (up w0.heap.size Ha) eResStep 4 v0 a0 c0) (a1 : Int) :
  Calls Tryz.prog 24 #[v0, Value.int .i64 a1] wa (M2 H0 w0 Ha l eResStep 4 v0 c0 (PF.laws_markResStepS a0 a1)) := by
 have hln := n0.rsl.ln
 have hle := n0.rsl.le
 refine calls_go (N := 41) (args := [v0, Value.int .i64 a1]) Tryz.func24 rfl rfl rfl ?_
 refine FW.seq (FW.region ?_)
 refine FL.v (E.assign (v := Value.int .i64 0) rfl) ?_
 refine FL.nil (FW.seq (FW.seq (FW.region ?_)))
 refine FL.v (E.assign (v := Value.int .i64 0) rfl) ?_
 refine FL.nil (FW.block ?_)
 refine FW.mono (FW.mark (F := fun y m => ((ResStep.mk ((PF.laws_markIntS y.clause m).1) ((PF.laws_markIntS y.clause m).2) (wr ((PF.laws_markIntS y.clause m).2 + 1)) (wr ((wr ((PF.laws_markIntS y.clause m).2 + 1)) + 1))), (wr ((wr ((wr ((PF.laws_markIntS y.clause m).2 + 1)) + 1)) + 1)))) (a0 := a0) (k0 := a1) (fun (i : Nat) (xs : List ResStep) (k : Int) f w => ∃ (H : GH) (c : List Value), St H0 w0 H w l ∧ Nest (up w0.heap.size H) eResStep 4 v0 xs c ∧ bl c = bl c0 ∧ (∀ b, b ∉ bl [v0] → b ∉ bl c0 → H b = Ha b) ∧ f 0 = v0 ∧ f 1 = Value.int .i64 k ∧ f 5 = Value.int .i64 ((i : Nat) : Int)) (fun e f w => e = Exit.exit 0 ∧ ∃ (H : GH) (c : List Value), St H0 w0 H w l ∧ Nest (up w0.heap.size H) eResStep 4 v0 (markFrom (fun y m => ((ResStep.mk ((PF.laws_markIntS y.clause m).1) ((PF.laws_markIntS y.clause m).2) (wr ((PF.laws_markIntS y.clause m).2 + 1)) (wr ((wr ((PF.laws_markIntS y.clause m).2 + 1)) + 1))), (wr ((wr ((wr ((PF.laws_markIntS y.clause m).2 + 1)) + 1)) + 1)))) a0 a1).1 c ∧ bl c = bl c0 ∧ (∀ b, b ∉ bl [v0] → b ∉ bl c0 → H b = Ha b) ∧ f 0 = v0 ∧ f 1 = Value.int .i64 (markFrom (fun y m => ((ResStep.mk ((PF.laws_markIntS y.clause m).1) ((PF.laws_markIntS y.clause m).2) (wr ((PF.laws_markIntS y.clause m).2 + 1)) (wr ((wr ((PF.laws_markIntS y.clause m).2 + 1)) + 1))), (wr ((wr ((wr ((PF.laws_markIntS y.clause m).2 + 1)) + 1)) + 1)))) a0 a1).2) ⟨_, _, S0, n0, rfl, fun _ _ _ => rfl, rfl, rfl, rfl⟩ ?_ ?_) ?_
 ·
  rintro i y xs m f1 w1 ⟨H1, c1, S1, n1, hb, ho, kv, kk, kc⟩ hx hy
  obtain ⟨p, hpt, wr0, hB, hr, nd⟩ := n1.begin hy (by decide)
  obtain ⟨u0, hci, hu0⟩ := eResStep_open hr
  have rd := wr0.opens hci
  refine FW.seq (FW.seq (FW.region ?_))
  refine FL.v (E.move kc) ?_
  refine FL.v (E.move kv) ?_
  refine FL.v (E.len te28 rfl hln) ?_
  refine FL.v (E.lssT rfl rfl (lss_len hx)) ?_
  refine FL.nil ?_
  refine FW.condT rfl rfl ?_
  refine FW.skip (FW.seq (FW.block (FW.seq (FW.region ?_))))
  refine FL.v (E.move kv) ?_
  refine FL.v (E.move kc) ?_
  refine FL.v (E.indexAddr te28 rfl rfl hpt) ?_
  refine FL.v (E.fieldAddr tf89_0 rfl) ?_
  refine FL.v (E.load rfl (run_load1 Tryz.isAgg39 (rd.now S1.sl) rfl)) ?_
  refine FL.v (E.move kk) ?_
  refine FL.call rfl rfl rfl (E.call Tryz.call30 (A2 rfl rfl)) (w_laws_markIntS S1 hs0 u0 y.clause hu0 m) ?_
  rintro e w22 ⟨H21, rfl, S23, h24, o25⟩
  refine ⟨_, rfl, ?_⟩
  have wr26 := rd.inner (j := 0) rfl o25
  refine FL.v (E.assign (v := Value.int .i64 ((PF.laws_markIntS y.clause m).2)) rfl) ?_
  refine FL.nil (FW.seq (FW.region ?_))
  refine FL.v (E.move kv) ?_
  refine FL.v (E.move kc) ?_
  refine FL.v (E.move (v := Value.int .i64 ((PF.laws_markIntS y.clause m).2)) rfl) ?_
  refine FL.v (E.indexAddr te28 rfl rfl hpt) ?_
  refine FL.v (E.fieldAddr tf89_1 rfl) ?_
  obtain ⟨w27, H28, run30, S29, wr31, o32⟩ := wr26.poke (P := Tryz.prog) (t := 3) (u := Value.int .i64 ((PF.laws_markIntS y.clause m).2)) S23 hs0 hB (j := 1) rfl rfl rfl Tryz.sizeOf3 rfl rfl (c2 := [u0, Value.int .i64 ((PF.laws_markIntS y.clause m).2), Value.int .i64 y.right, Value.int .i64 y.pivot]) rfl
  have h33 := wr26.kept (j := 0) rfl h24 eI_flat o32
  refine FL.act rfl rfl (E.store rfl rfl run30) ?_
  refine FL.nil (FW.seq (FW.region ?_))
  refine FL.v (E.move (v := Value.int .i64 ((PF.laws_markIntS y.clause m).2)) rfl) ?_
  refine FL.v (E.add rfl rfl) ?_
  refine FL.v (E.assign (v := Value.int .i64 (wr ((PF.laws_markIntS y.clause m).2 + 1))) rfl) ?_
  refine FL.nil (FW.seq (FW.region ?_))
  refine FL.v (E.move kv) ?_
  refine FL.v (E.move kc) ?_
  refine FL.v (E.move (v := Value.int .i64 (wr ((PF.laws_markIntS y.clause m).2 + 1))) rfl) ?_
  refine FL.v (E.indexAddr te28 rfl rfl hpt) ?_
  refine FL.v (E.fieldAddr tf89_2 rfl) ?_
  obtain ⟨w34, H35, run37, S36, wr38, o39⟩ := wr31.poke (P := Tryz.prog) (t := 3) (u := Value.int .i64 (wr ((PF.laws_markIntS y.clause m).2 + 1))) S29 hs0 hB (j := 2) rfl rfl rfl Tryz.sizeOf3 rfl rfl (c2 := [u0, Value.int .i64 ((PF.laws_markIntS y.clause m).2), Value.int .i64 (wr ((PF.laws_markIntS y.clause m).2 + 1)), Value.int .i64 y.pivot]) rfl
  have h40 := wr31.kept (j := 0) rfl h33 eI_flat o39
  refine FL.act rfl rfl (E.store rfl rfl run37) ?_
  refine FL.nil (FW.seq (FW.region ?_))
  refine FL.v (E.move (v := Value.int .i64 (wr ((PF.laws_markIntS y.clause m).2 + 1))) rfl) ?_
  refine FL.v (E.add rfl rfl) ?_
  refine FL.v (E.assign (v := Value.int .i64 (wr ((wr ((PF.laws_markIntS y.clause m).2 + 1)) + 1))) rfl) ?_
  refine FL.nil (FW.seq (FW.region ?_))
  refine FL.v (E.move kv) ?_
  refine FL.v (E.move kc) ?_
  refine FL.v (E.move (v := Value.int .i64 (wr ((wr ((PF.laws_markIntS y.clause m).2 + 1)) + 1))) rfl) ?_
  refine FL.v (E.indexAddr te28 rfl rfl hpt) ?_
  refine FL.v (E.fieldAddr tf89_3 rfl) ?_
  obtain ⟨w41, H42, run44, S43, wr45, o46⟩ := wr38.poke (P := Tryz.prog) (t := 3) (u := Value.int .i64 (wr ((wr ((PF.laws_markIntS y.clause m).2 + 1)) + 1))) S36 hs0 hB (j := 3) rfl rfl rfl Tryz.sizeOf3 rfl rfl (c2 := [u0, Value.int .i64 ((PF.laws_markIntS y.clause m).2), Value.int .i64 (wr ((PF.laws_markIntS y.clause m).2 + 1)), Value.int .i64 (wr ((wr ((PF.laws_markIntS y.clause m).2 + 1)) + 1))]) rfl
  have h47 := wr38.kept (j := 0) rfl h40 eI_flat o46
  refine FL.act rfl rfl (E.store rfl rfl run44) ?_
  refine FL.nil (FW.region ?_)
  refine FL.v (E.move (v := Value.int .i64 (wr ((wr ((PF.laws_markIntS y.clause m).2 + 1)) + 1))) rfl) ?_
  refine FL.v (E.add rfl rfl) ?_
  refine FL.v (E.assign (v := Value.int .i64 (wr ((wr ((wr ((PF.laws_markIntS y.clause m).2 + 1)) + 1)) + 1))) rfl) ?_
  refine FL.nil (FW.region ?_)
  refine FL.v (E.move kc) ?_
  refine FL.v (E.add rfl rfl) ?_
  refine FL.v (E.assign (v := Value.int .i64 (wr (((i : Nat) : Int) + 1))) rfl) ?_
  refine FL.nil ?_
  obtain ⟨c2, n2, hb2, ho2⟩ := n1.round eResStep_loc hy (by decide) hpt wr45 (y' := (ResStep.mk ((PF.laws_markIntS y.clause m).1) ((PF.laws_markIntS y.clause m).2) (wr ((PF.laws_markIntS y.clause m).2 + 1)) (wr ((wr ((PF.laws_markIntS y.clause m).2 + 1)) + 1)))) ⟨_, rfl, h47⟩
  exact ⟨rfl, _, _, S43, n2, hb2.trans hb, fun b q1 q2 => (ho2 b q1 (by rw [hb]; exact q2)).trans (ho b q1 q2), kv, rfl, nat_succ rfl (lt_of_get hx) hle⟩
 ·
  rintro f1 w1 ⟨H1, c1, S1, n1, hb, ho, kv, kk, kc⟩
  refine FW.seq (FW.seq (FW.region ?_))
  refine FL.v (E.move kc) ?_
  refine FL.v (E.move kv) ?_
  refine FL.v (E.len te28 rfl hln) ?_
  refine FL.v (E.lss rfl rfl) ?_
  refine FL.nil ?_
  refine FW.condF rfl dlt_len ?_
  refine FW.exit ?_
  exact ⟨nofun, rfl, _, _, S1, n1, hb, ho, kv, kk⟩
 ·
  rintro e f2 w2 ⟨rfl, H2, c2, S2, n2, hb, ho, kv, kk⟩
  refine FW.seq (FW.region ?_)
  refine FL.v (E.move kk) ?_
  refine FL.v (E.assign (v := Value.int .i64 ((markFrom (fun y m => ((ResStep.mk ((PF.laws_markIntS y.clause m).1) ((PF.laws_markIntS y.clause m).2) (wr ((PF.laws_markIntS y.clause m).2 + 1)) (wr ((wr ((PF.laws_markIntS y.clause m).2 + 1)) + 1))), (wr ((wr ((wr ((PF.laws_markIntS y.clause m).2 + 1)) + 1)) + 1)))) a0 a1).2)) rfl) ?_
  refine FL.nil ?_
  refine FW.ret ?_
  exact ⟨.inr rfl, res1 rfl rfl ⟨_, _, rfl, S2, n2, hb, fun b q1 q2 => weak (F := fun b => b ∉ bl [v0] ∧ b ∉ bl c0) (fun b q => ho b q.1 q.2) b ⟨q1, q2⟩⟩⟩

theorem w_laws_markTermS {H0 Ha : GH} {w0 wa : World} {l : List MO} (S0 : St H0 w0 Ha wa l) (hs0 : Sl H0 w0) (v0 : Value) (a0 : List Term) (p0 : RSl (up w0.heap.size Ha) eTerm 2 v0 a0) (a1 : Int) :
  Calls Tryz.prog 59 #[v0, Value.int .i64 a1] wa (M1 H0 w0 Ha l eTerm 2 v0 (PF.laws_markTermS a0 a1)) := by
 obtain ⟨c0, n0, hc0⟩ := p0.nest eTerm_flat (by decide)
 have hln := p0.ln
 have hle := p0.le
 refine calls_go (N := 27) (args := [v0, Value.int .i64 a1]) Tryz.func59 rfl rfl rfl ?_
 refine FW.seq (FW.region ?_)
 refine FL.v (E.assign (v := Value.int .i64 0) rfl) ?_
 refine FL.nil (FW.seq (FW.seq (FW.region ?_)))
 refine FL.v (E.assign (v := Value.int .i64 0) rfl) ?_
 refine FL.nil (FW.block ?_)
 refine FW.mono (FW.mark (F := fun y m => ((Term.mk m (wr (m + 1))), (wr ((wr (m + 1)) + 1)))) (a0 := a0) (k0 := a1) (fun (i : Nat) (xs : List Term) (k : Int) f w => ∃ (H : GH) (c : List Value), St H0 w0 H w l ∧ Nest (up w0.heap.size H) eTerm 2 v0 xs c ∧ bl c = bl c0 ∧ (∀ b, b ∉ bl [v0] → b ∉ bl c0 → H b = Ha b) ∧ f 0 = v0 ∧ f 1 = Value.int .i64 k ∧ f 5 = Value.int .i64 ((i : Nat) : Int)) (fun e f w => e = Exit.exit 0 ∧ ∃ (H : GH) (c : List Value), St H0 w0 H w l ∧ Nest (up w0.heap.size H) eTerm 2 v0 (markFrom (fun y m => ((Term.mk m (wr (m + 1))), (wr ((wr (m + 1)) + 1)))) a0 a1).1 c ∧ bl c = bl c0 ∧ (∀ b, b ∉ bl [v0] → b ∉ bl c0 → H b = Ha b) ∧ f 0 = v0 ∧ f 1 = Value.int .i64 (markFrom (fun y m => ((Term.mk m (wr (m + 1))), (wr ((wr (m + 1)) + 1)))) a0 a1).2) ⟨_, _, S0, n0, rfl, fun _ _ _ => rfl, rfl, rfl, rfl⟩ ?_ ?_) ?_
 ·
  rintro i y xs m f1 w1 ⟨H1, c1, S1, n1, hb, ho, kv, kk, kc⟩ hx hy
  obtain ⟨p, hpt, wr0, hB, hr, nd⟩ := n1.begin hy (by decide)
  have hci := eTerm_open hr
  have rd := wr0.opens hci
  refine FW.seq (FW.seq (FW.region ?_))
  refine FL.v (E.move kc) ?_
  refine FL.v (E.move kv) ?_
  refine FL.v (E.len te68 rfl hln) ?_
  refine FL.v (E.lssT rfl rfl (lss_len hx)) ?_
  refine FL.nil ?_
  refine FW.condT rfl rfl ?_
  refine FW.skip (FW.seq (FW.block (FW.seq (FW.region ?_))))
  refine FL.v (E.move kv) ?_
  refine FL.v (E.move kc) ?_
  refine FL.v (E.move kk) ?_
  refine FL.v (E.indexAddr te68 rfl rfl hpt) ?_
  refine FL.v (E.fieldAddr tf147_0 rfl) ?_
  obtain ⟨w21, H22, run24, S23, wr25, o26⟩ := rd.poke (P := Tryz.prog) (t := 3) (u := Value.int .i64 m) S1 hs0 hB (j := 0) rfl rfl rfl Tryz.sizeOf3 rfl rfl (c2 := [Value.int .i64 m, Value.int .i64 y.coeff]) rfl
  refine FL.act rfl rfl (E.store rfl rfl run24) ?_
  refine FL.nil (FW.seq (FW.region ?_))
  refine FL.v (E.move kk) ?_
  refine FL.v (E.add rfl rfl) ?_
  refine FL.v (E.assign (v := Value.int .i64 (wr (m + 1))) rfl) ?_
  refine FL.nil (FW.seq (FW.region ?_))
  refine FL.v (E.move kv) ?_
  refine FL.v (E.move kc) ?_
  refine FL.v (E.move (v := Value.int .i64 (wr (m + 1))) rfl) ?_
  refine FL.v (E.indexAddr te68 rfl rfl hpt) ?_
  refine FL.v (E.fieldAddr tf147_1 rfl) ?_
  obtain ⟨w27, H28, run30, S29, wr31, o32⟩ := wr25.poke (P := Tryz.prog) (t := 3) (u := Value.int .i64 (wr (m + 1))) S23 hs0 hB (j := 1) rfl rfl rfl Tryz.sizeOf3 rfl rfl (c2 := [Value.int .i64 m, Value.int .i64 (wr (m + 1))]) rfl
  refine FL.act rfl rfl (E.store rfl rfl run30) ?_
  refine FL.nil (FW.region ?_)
  refine FL.v (E.move (v := Value.int .i64 (wr (m + 1))) rfl) ?_
  refine FL.v (E.add rfl rfl) ?_
  refine FL.v (E.assign (v := Value.int .i64 (wr ((wr (m + 1)) + 1))) rfl) ?_
  refine FL.nil (FW.region ?_)
  refine FL.v (E.move kc) ?_
  refine FL.v (E.add rfl rfl) ?_
  refine FL.v (E.assign (v := Value.int .i64 (wr (((i : Nat) : Int) + 1))) rfl) ?_
  refine FL.nil ?_
  obtain ⟨c2, n2, hb2, ho2⟩ := n1.round eTerm_flat.loc hy (by decide) hpt wr31 (y' := (Term.mk m (wr (m + 1)))) rfl
  exact ⟨rfl, _, _, S29, n2, hb2.trans hb, fun b q1 q2 => (ho2 b q1 (by rw [hb]; exact q2)).trans (ho b q1 q2), kv, rfl, nat_succ rfl (lt_of_get hx) hle⟩
 ·
  rintro f1 w1 ⟨H1, c1, S1, n1, hb, ho, kv, kk, kc⟩
  refine FW.seq (FW.seq (FW.region ?_))
  refine FL.v (E.move kc) ?_
  refine FL.v (E.move kv) ?_
  refine FL.v (E.len te68 rfl hln) ?_
  refine FL.v (E.lss rfl rfl) ?_
  refine FL.nil ?_
  refine FW.condF rfl dlt_len ?_
  refine FW.exit ?_
  exact ⟨nofun, rfl, _, _, S1, n1, hb, ho, kv, kk⟩
 ·
  rintro e f2 w2 ⟨rfl, H2, c2, S2, n2, hb, ho, kv, kk⟩
  refine FW.seq (FW.region ?_)
  refine FL.v (E.move kk) ?_
  refine FL.v (E.assign (v := Value.int .i64 ((markFrom (fun y m => ((Term.mk m (wr (m + 1))), (wr ((wr (m + 1)) + 1)))) a0 a1).2)) rfl) ?_
  refine FL.nil ?_
  refine FW.ret ?_
  exact ⟨.inr rfl, res1 rfl rfl ⟨_, rfl, S2, n2.rsl, fun b q => ho b q (by rw [hc0]; simp)⟩⟩

theorem w_laws_markPcStepS {H0 Ha : GH} {w0 wa : World} {l : List MO} (S0 : St H0 w0 Ha wa l) (hs0 : Sl H0 w0) (v0 : Value) (a0 : List PcStep) (c0 : List Value) (n0 : Nest (up w0.heap.size Ha) ePcStep 6 v0 a0 c0) (a1 : Int) :
  Calls Tryz.prog 46 #[v0, Value.int .i64 a1] wa (M2 H0 w0 Ha l ePcStep 6 v0 c0 (PF.laws_markPcStepS a0 a1)) := by
 have hln := n0.rsl.ln
 have hle := n0.rsl.le
 refine calls_go (N := 55) (args := [v0, Value.int .i64 a1]) Tryz.func46 rfl rfl rfl ?_
 refine FW.seq (FW.region ?_)
 refine FL.v (E.assign (v := Value.int .i64 0) rfl) ?_
 refine FL.nil (FW.seq (FW.seq (FW.region ?_)))
 refine FL.v (E.assign (v := Value.int .i64 0) rfl) ?_
 refine FL.nil (FW.block ?_)
 refine FW.mono (FW.mark (F := fun y m => ((PcStep.mk m ((PF.laws_markTermS y.poly (wr (m + 1))).1) ((PF.laws_markTermS y.poly (wr (m + 1))).2) (wr ((PF.laws_markTermS y.poly (wr (m + 1))).2 + 1)) (wr ((wr ((PF.laws_markTermS y.poly (wr (m + 1))).2 + 1)) + 1)) (wr ((wr ((wr ((PF.laws_markTermS y.poly (wr (m + 1))).2 + 1)) + 1)) + 1))), (wr ((wr ((wr ((wr ((PF.laws_markTermS y.poly (wr (m + 1))).2 + 1)) + 1)) + 1)) + 1)))) (a0 := a0) (k0 := a1) (fun (i : Nat) (xs : List PcStep) (k : Int) f w => ∃ (H : GH) (c : List Value), St H0 w0 H w l ∧ Nest (up w0.heap.size H) ePcStep 6 v0 xs c ∧ bl c = bl c0 ∧ (∀ b, b ∉ bl [v0] → b ∉ bl c0 → H b = Ha b) ∧ f 0 = v0 ∧ f 1 = Value.int .i64 k ∧ f 5 = Value.int .i64 ((i : Nat) : Int)) (fun e f w => e = Exit.exit 0 ∧ ∃ (H : GH) (c : List Value), St H0 w0 H w l ∧ Nest (up w0.heap.size H) ePcStep 6 v0 (markFrom (fun y m => ((PcStep.mk m ((PF.laws_markTermS y.poly (wr (m + 1))).1) ((PF.laws_markTermS y.poly (wr (m + 1))).2) (wr ((PF.laws_markTermS y.poly (wr (m + 1))).2 + 1)) (wr ((wr ((PF.laws_markTermS y.poly (wr (m + 1))).2 + 1)) + 1)) (wr ((wr ((wr ((PF.laws_markTermS y.poly (wr (m + 1))).2 + 1)) + 1)) + 1))), (wr ((wr ((wr ((wr ((PF.laws_markTermS y.poly (wr (m + 1))).2 + 1)) + 1)) + 1)) + 1)))) a0 a1).1 c ∧ bl c = bl c0 ∧ (∀ b, b ∉ bl [v0] → b ∉ bl c0 → H b = Ha b) ∧ f 0 = v0 ∧ f 1 = Value.int .i64 (markFrom (fun y m => ((PcStep.mk m ((PF.laws_markTermS y.poly (wr (m + 1))).1) ((PF.laws_markTermS y.poly (wr (m + 1))).2) (wr ((PF.laws_markTermS y.poly (wr (m + 1))).2 + 1)) (wr ((wr ((PF.laws_markTermS y.poly (wr (m + 1))).2 + 1)) + 1)) (wr ((wr ((wr ((PF.laws_markTermS y.poly (wr (m + 1))).2 + 1)) + 1)) + 1))), (wr ((wr ((wr ((wr ((PF.laws_markTermS y.poly (wr (m + 1))).2 + 1)) + 1)) + 1)) + 1)))) a0 a1).2) ⟨_, _, S0, n0, rfl, fun _ _ _ => rfl, rfl, rfl, rfl⟩ ?_ ?_) ?_
 ·
  rintro i y xs m f1 w1 ⟨H1, c1, S1, n1, hb, ho, kv, kk, kc⟩ hx hy
  obtain ⟨p, hpt, wr0, hB, hr, nd⟩ := n1.begin hy (by decide)
  obtain ⟨u0, hci, hu0⟩ := ePcStep_open hr
  have rd := wr0.opens hci
  refine FW.seq (FW.seq (FW.region ?_))
  refine FL.v (E.move kc) ?_
  refine FL.v (E.move kv) ?_
  refine FL.v (E.len te55 rfl hln) ?_
  refine FL.v (E.lssT rfl rfl (lss_len hx)) ?_
  refine FL.nil ?_
  refine FW.condT rfl rfl ?_
  refine FW.skip (FW.seq (FW.block (FW.seq (FW.region ?_))))
  refine FL.v (E.move kv) ?_
  refine FL.v (E.move kc) ?_
  refine FL.v (E.move kk) ?_
  refine FL.v (E.indexAddr te55 rfl rfl hpt) ?_
  refine FL.v (E.fieldAddr tf129_0 rfl) ?_
  obtain ⟨w21, H22, run24, S23, wr25, o26⟩ := rd.poke (P := Tryz.prog) (t := 3) (u := Value.int .i64 m) S1 hs0 hB (j := 0) rfl rfl rfl Tryz.sizeOf3 rfl rfl (c2 := [Value.int .i64 m, u0, Value.int .i64 y.a, Value.int .i64 y.b, Value.int .i64 y.x, Value.int .i64 y.y]) rfl
  have h27 := rd.kept (j := 1) rfl hu0 eTerm_flat o26
  refine FL.act rfl rfl (E.store rfl rfl run24) ?_
  refine FL.nil (FW.seq (FW.region ?_))
  refine FL.v (E.move kk) ?_
  refine FL.v (E.add rfl rfl) ?_
  refine FL.v (E.assign (v := Value.int .i64 (wr (m + 1))) rfl) ?_
  refine FL.nil (FW.seq (FW.region ?_))
  refine FL.v (E.move kv) ?_
  refine FL.v (E.move kc) ?_
  refine FL.v (E.indexAddr te55 rfl rfl hpt) ?_
  refine FL.v (E.fieldAddr tf129_1 rfl) ?_
  refine FL.v (E.load rfl (run_load1 Tryz.isAgg68 (wr25.now S23.sl) rfl)) ?_
  refine FL.v (E.move (v := Value.int .i64 (wr (m + 1))) rfl) ?_
  refine FL.call rfl rfl rfl (E.call Tryz.call59 (A2 rfl rfl)) (w_laws_markTermS S23 hs0 u0 y.poly h27 (wr (m + 1))) ?_
  rintro e w29 ⟨H28, rfl, S30, h31, o32⟩
  refine ⟨_, rfl, ?_⟩
  have wr33 := wr25.inner (j := 1) rfl o32
  refine FL.v (E.assign (v := Value.int .i64 ((PF.laws_markTermS y.poly (wr (m + 1))).2)) rfl) ?_
  refine FL.nil (FW.seq (FW.region ?_))
  refine FL.v (E.move kv) ?_
  refine FL.v (E.move kc) ?_
  refine FL.v (E.move (v := Value.int .i64 ((PF.laws_markTermS y.poly (wr (m + 1))).2)) rfl) ?_
  refine FL.v (E.indexAddr te55 rfl rfl hpt) ?_
  refine FL.v (E.fieldAddr tf129_2 rfl) ?_
  obtain ⟨w34, H35, run37, S36, wr38, o39⟩ := wr33.poke (P := Tryz.prog) (t := 3) (u := Value.int .i64 ((PF.laws_markTermS y.poly (wr (m + 1))).2)) S30 hs0 hB (j := 2) rfl rfl rfl Tryz.sizeOf3 rfl rfl (c2 := [Value.int .i64 m, u0, Value.int .i64 ((PF.laws_markTermS y.poly (wr (m + 1))).2), Value.int .i64 y.b, Value.int .i64 y.x, Value.int .i64 y.y]) rfl
  have h40 := wr33.kept (j := 1) rfl h31 eTerm_flat o39
  refine FL.act rfl rfl (E.store rfl rfl run37) ?_
  refine FL.nil (FW.seq (FW.region ?_))
  refine FL.v (E.move (v := Value.int .i64 ((PF.laws_markTermS y.poly (wr (m + 1))).2)) rfl) ?_
  refine FL.v (E.add rfl rfl) ?_
  refine FL.v (E.assign (v := Value.int .i64 (wr ((PF.laws_markTermS y.poly (wr (m + 1))).2 + 1))) rfl) ?_
  refine FL.nil (FW.seq (FW.region ?_))
  refine FL.v (E.move kv) ?_
  refine FL.v (E.move kc) ?_
  refine FL.v (E.move (v := Value.int .i64 (wr ((PF.laws_markTermS y.poly (wr (m + 1))).2 + 1))) rfl) ?_
  refine FL.v (E.indexAddr te55 rfl rfl hpt) ?_
  refine FL.v (E.fieldAddr tf129_3 rfl) ?_
  obtain ⟨w41, H42, run44, S43, wr45, o46⟩ := wr38.poke (P := Tryz.prog) (t := 3) (u := Value.int .i64 (wr ((PF.laws_markTermS y.poly (wr (m + 1))).2 + 1))) S36 hs0 hB (j := 3) rfl rfl rfl Tryz.sizeOf3 rfl rfl (c2 := [Value.int .i64 m, u0, Value.int .i64 ((PF.laws_markTermS y.poly (wr (m + 1))).2), Value.int .i64 (wr ((PF.laws_markTermS y.poly (wr (m + 1))).2 + 1)), Value.int .i64 y.x, Value.int .i64 y.y]) rfl
  have h47 := wr38.kept (j := 1) rfl h40 eTerm_flat o46
  refine FL.act rfl rfl (E.store rfl rfl run44) ?_
  refine FL.nil (FW.seq (FW.region ?_))
  refine FL.v (E.move (v := Value.int .i64 (wr ((PF.laws_markTermS y.poly (wr (m + 1))).2 + 1))) rfl) ?_
  refine FL.v (E.add rfl rfl) ?_
  refine FL.v (E.assign (v := Value.int .i64 (wr ((wr ((PF.laws_markTermS y.poly (wr (m + 1))).2 + 1)) + 1))) rfl) ?_
  refine FL.nil (FW.seq (FW.region ?_))
  refine FL.v (E.move kv) ?_
  refine FL.v (E.move kc) ?_
  refine FL.v (E.move (v := Value.int .i64 (wr ((wr ((PF.laws_markTermS y.poly (wr (m + 1))).2 + 1)) + 1))) rfl) ?_
  refine FL.v (E.indexAddr te55 rfl rfl hpt) ?_
  refine FL.v (E.fieldAddr tf129_4 rfl) ?_
  obtain ⟨w48, H49, run51, S50, wr52, o53⟩ := wr45.poke (P := Tryz.prog) (t := 3) (u := Value.int .i64 (wr ((wr ((PF.laws_markTermS y.poly (wr (m + 1))).2 + 1)) + 1))) S43 hs0 hB (j := 4) rfl rfl rfl Tryz.sizeOf3 rfl rfl (c2 := [Value.int .i64 m, u0, Value.int .i64 ((PF.laws_markTermS y.poly (wr (m + 1))).2), Value.int .i64 (wr ((PF.laws_markTermS y.poly (wr (m + 1))).2 + 1)), Value.int .i64 (wr ((wr ((PF.laws_markTermS y.poly (wr (m + 1))).2 + 1)) + 1)), Value.int .i64 y.y]) rfl
  have h54 := wr45.kept (j := 1) rfl h47 eTerm_flat o53
  refine FL.act rfl rfl (E.store rfl rfl run51) ?_
  refine FL.nil (FW.seq (FW.region ?_))
  refine FL.v (E.move (v := Value.int .i64 (wr ((wr ((PF.laws_markTermS y.poly (wr (m + 1))).2 + 1)) + 1))) rfl) ?_
  refine FL.v (E.add rfl rfl) ?_
  refine FL.v (E.assign (v := Value.int .i64 (wr ((wr ((wr ((PF.laws_markTermS y.poly (wr (m + 1))).2 + 1)) + 1)) + 1))) rfl) ?_
  refine FL.nil (FW.seq (FW.region ?_))
  refine FL.v (E.move kv) ?_
  refine FL.v (E.move kc) ?_
  refine FL.v (E.move (v := Value.int .i64 (wr ((wr ((wr ((PF.laws_markTermS y.poly (wr (m + 1))).2 + 1)) + 1)) + 1))) rfl) ?_
  refine FL.v (E.indexAddr te55 rfl rfl hpt) ?_
  refine FL.v (E.fieldAddr tf129_5 rfl) ?_
  obtain ⟨w55, H56, run58, S57, wr59, o60⟩ := wr52.poke (P := Tryz.prog) (t := 3) (u := Value.int .i64 (wr ((wr ((wr ((PF.laws_markTermS y.poly (wr (m + 1))).2 + 1)) + 1)) + 1))) S50 hs0 hB (j := 5) rfl rfl rfl Tryz.sizeOf3 rfl rfl (c2 := [Value.int .i64 m, u0, Value.int .i64 ((PF.laws_markTermS y.poly (wr (m + 1))).2), Value.int .i64 (wr ((PF.laws_markTermS y.poly (wr (m + 1))).2 + 1)), Value.int .i64 (wr ((wr ((PF.laws_markTermS y.poly (wr (m + 1))).2 + 1)) + 1)), Value.int .i64 (wr ((wr ((wr ((PF.laws_markTermS y.poly (wr (m + 1))).2 + 1)) + 1)) + 1))]) rfl
  have h61 := wr52.kept (j := 1) rfl h54 eTerm_flat o60
  refine FL.act rfl rfl (E.store rfl rfl run58) ?_
  refine FL.nil (FW.region ?_)
  refine FL.v (E.move (v := Value.int .i64 (wr ((wr ((wr ((PF.laws_markTermS y.poly (wr (m + 1))).2 + 1)) + 1)) + 1))) rfl) ?_
  refine FL.v (E.add rfl rfl) ?_
  refine FL.v (E.assign (v := Value.int .i64 (wr ((wr ((wr ((wr ((PF.laws_markTermS y.poly (wr (m + 1))).2 + 1)) + 1)) + 1)) + 1))) rfl) ?_
  refine FL.nil (FW.region ?_)
  refine FL.v (E.move kc) ?_
  refine FL.v (E.add rfl rfl) ?_
  refine FL.v (E.assign (v := Value.int .i64 (wr (((i : Nat) : Int) + 1))) rfl) ?_
  refine FL.nil ?_
  obtain ⟨c2, n2, hb2, ho2⟩ := n1.round ePcStep_loc hy (by decide) hpt wr59 (y' := (PcStep.mk m ((PF.laws_markTermS y.poly (wr (m + 1))).1) ((PF.laws_markTermS y.poly (wr (m + 1))).2) (wr ((PF.laws_markTermS y.poly (wr (m + 1))).2 + 1)) (wr ((wr ((PF.laws_markTermS y.poly (wr (m + 1))).2 + 1)) + 1)) (wr ((wr ((wr ((PF.laws_markTermS y.poly (wr (m + 1))).2 + 1)) + 1)) + 1)))) ⟨_, rfl, h61⟩
  exact ⟨rfl, _, _, S57, n2, hb2.trans hb, fun b q1 q2 => (ho2 b q1 (by rw [hb]; exact q2)).trans (ho b q1 q2), kv, rfl, nat_succ rfl (lt_of_get hx) hle⟩
 ·
  rintro f1 w1 ⟨H1, c1, S1, n1, hb, ho, kv, kk, kc⟩
  refine FW.seq (FW.seq (FW.region ?_))
  refine FL.v (E.move kc) ?_
  refine FL.v (E.move kv) ?_
  refine FL.v (E.len te55 rfl hln) ?_
  refine FL.v (E.lss rfl rfl) ?_
  refine FL.nil ?_
  refine FW.condF rfl dlt_len ?_
  refine FW.exit ?_
  exact ⟨nofun, rfl, _, _, S1, n1, hb, ho, kv, kk⟩
 ·
  rintro e f2 w2 ⟨rfl, H2, c2, S2, n2, hb, ho, kv, kk⟩
  refine FW.seq (FW.region ?_)
  refine FL.v (E.move kk) ?_
  refine FL.v (E.assign (v := Value.int .i64 ((markFrom (fun y m => ((PcStep.mk m ((PF.laws_markTermS y.poly (wr (m + 1))).1) ((PF.laws_markTermS y.poly (wr (m + 1))).2) (wr ((PF.laws_markTermS y.poly (wr (m + 1))).2 + 1)) (wr ((wr ((PF.laws_markTermS y.poly (wr (m + 1))).2 + 1)) + 1)) (wr ((wr ((wr ((PF.laws_markTermS y.poly (wr (m + 1))).2 + 1)) + 1)) + 1))), (wr ((wr ((wr ((wr ((PF.laws_markTermS y.poly (wr (m + 1))).2 + 1)) + 1)) + 1)) + 1)))) a0 a1).2)) rfl) ?_
  refine FL.nil ?_
  refine FW.ret ?_
  exact ⟨.inr rfl, res1 rfl rfl ⟨_, _, rfl, S2, n2, hb, fun b q1 q2 => weak (F := fun b => b ∉ bl [v0] ∧ b ∉ bl c0) (fun b q => ho b q.1 q.2) b ⟨q1, q2⟩⟩⟩

theorem w_laws_heldTermS {Ha : GH} {wa : World} (hs : Sl Ha wa) (v0 : Value) (a0 : List Term) (p0 : RSl Ha eTerm 2 v0 a0) (a1 : Int) {r : Int} (hp : (PF.laws_heldTermS a0 a1) = some r) :
  Calls Tryz.prog 60 #[v0, Value.int .i64 a1] wa (Sc Ha wa (Value.int .i64 r)) := by
 unfold PF.laws_heldTermS at hp
 have S0 := St.init hs
 refine calls_go (N := 31) (args := [v0, Value.int .i64 a1]) Tryz.func60 rfl rfl rfl ?_
 refine FW.seq (FW.region ?_)
 refine FL.v (E.assign (v := Value.int .i64 0) rfl) ?_
 refine FL.nil (FW.seq (FW.seq (FW.region ?_)))
 refine FL.v (E.assign (v := Value.int .i64 0) rfl) ?_
 refine FL.nil ?_
 obtain ⟨q22, hq, hp⟩ := bndR hp
 refine FW.block ?_
 refine FW.mono (FW.forL (S := Int) (X := Int) (fun (i22 : Nat) (s22 : Int) f w => ∃ H : GH, St Ha wa H w [] ∧ Inc Ha H ∧ f 5 = Value.int .i64 ((i22 : Nat) : Int) ∧ f 0 = v0 ∧ f 1 = Value.int .i64 s22) (fun q e f w => match q with | .go s22 => e = Exit.exit 0 ∧ (∃ H : GH, St Ha wa H w [] ∧ Inc Ha H ∧ f 1 = Value.int .i64 s22) | .rt x => ((e = Exit.ret) ∧ (fun e f w => (e = Exit.normal ∨ e = Exit.ret) ∧ ∀ a, Fr (δ := []) 31 a f → ∃ v, (results Tryz.f60 a.tmps).run Tryz.prog w = .ok v w ∧ (Sc Ha wa (Value.int .i64 x)) (.returned v) w) e f w)) hq ⟨_, S0, (Inc.rfl _), rfl, rfl, rfl⟩ ?_ ?_) ?_
 ·
  clear hp hq
  rintro i22 y21 s22 f49 w48 ⟨H45, S46, i47, k50, k51, k52⟩ hx22 o67 hp
  refine FW.seq (FW.seq (FW.region ?_))
  refine FL.v (E.move k50) ?_
  refine FL.v (E.move k51) ?_
  refine FL.v (E.lenP te68 rfl p0) ?_
  refine FL.v (E.lssT rfl rfl (lss_len hx22)) ?_
  refine FL.nil ?_
  refine FW.condT rfl rfl ?_
  refine FW.skip (FW.seq (FW.block (FW.seq (FW.seq (FW.region ?_)))))
  refine FL.v (E.move k51) ?_
  refine FL.v (E.move k50) ?_
  obtain ⟨p53, cs54, pt55, l56, at57, rel58⟩ := p0.at (ix_nat hx22)
  obtain rfl := eTerm_open rel58
  refine FL.v (E.indexAddr te68 rfl rfl pt55) ?_
  refine FL.v (E.fieldAddr tf147_0 rfl) ?_
  refine FL.v (E.load rfl (run_load1 Tryz.isAgg3 ((at57.mono i47).now S46.sl) rfl)) ?_
  refine FL.v (E.move k52) ?_
  refine FL.v (E.neq rfl rfl) ?_
  refine FL.nil ?_
  rcases ifB hp with ⟨c59, hp⟩ | ⟨c59, hp⟩
  ·
   refine FW.condT rfl c59 ?_
   refine FW.seq (FW.region ?_)
   refine FL.v (E.assign (v := Value.int .i64 (-1)) rfl) ?_
   refine FL.nil ?_
   refine FW.ret ?_
   obtain rfl := Option.some.inj hp
   exact ⟨nofun, rfl, ⟨.inr rfl, res1 rfl rfl ⟨rfl, S46.back⟩⟩⟩
  ·
   refine FW.condF rfl c59 ?_
   refine FW.skip (FW.seq (FW.region ?_))
   refine FL.v (E.move k52) ?_
   refine FL.v (E.add rfl rfl) ?_
   refine FL.v (E.assign (v := Value.int .i64 (wr (s22 + 1))) rfl) ?_
   refine FL.nil (FW.seq (FW.seq (FW.region ?_)))
   refine FL.v (E.move k51) ?_
   refine FL.v (E.move k50) ?_
   obtain ⟨p60, cs61, pt62, l63, at64, rel65⟩ := p0.at (ix_nat hx22)
   obtain rfl := eTerm_open rel65
   refine FL.v (E.indexAddr te68 rfl rfl pt62) ?_
   refine FL.v (E.fieldAddr tf147_1 rfl) ?_
   refine FL.v (E.load rfl (run_load1 Tryz.isAgg3 ((at64.mono i47).now S46.sl) rfl)) ?_
   refine FL.v (E.move (v := Value.int .i64 (wr (s22 + 1))) rfl) ?_
   refine FL.v (E.neq rfl rfl) ?_
   refine FL.nil ?_
   rcases ifB hp with ⟨c66, hp⟩ | ⟨c66, hp⟩
   ·
    refine FW.condT rfl c66 ?_
    refine FW.seq (FW.region ?_)
    refine FL.v (E.assign (v := Value.int .i64 (-1)) rfl) ?_
    refine FL.nil ?_
    refine FW.ret ?_
    obtain rfl := Option.some.inj hp
    exact ⟨nofun, rfl, ⟨.inr rfl, res1 rfl rfl ⟨rfl, S46.back⟩⟩⟩
   ·
    refine FW.condF rfl c66 ?_
    refine FW.skip (FW.region ?_)
    refine FL.v (E.move (v := Value.int .i64 (wr (s22 + 1))) rfl) ?_
    refine FL.v (E.add rfl rfl) ?_
    refine FL.v (E.assign (v := Value.int .i64 (wr ((wr (s22 + 1)) + 1))) rfl) ?_
    refine FL.nil (FW.region ?_)
    refine FL.v (E.move k50) ?_
    refine FL.v (E.add rfl rfl) ?_
    refine FL.v (E.assign (v := Value.int .i64 (wr (((i22 : Nat) : Int) + 1))) rfl) ?_
    refine FL.nil ?_
    obtain rfl := Option.some.inj hp
    exact ⟨rfl, ⟨_, S46, i47, (nat_succ rfl (lt_of_get hx22) (p0.mono i47).le), k51, rfl⟩⟩
 ·
  clear hp hq
  rintro s22 f78 w77 ⟨H74, S75, i76, k79, k80, k81⟩
  refine FW.seq (FW.seq (FW.region ?_))
  refine FL.v (E.move k79) ?_
  refine FL.v (E.move k80) ?_
  refine FL.v (E.lenP te68 rfl p0) ?_
  refine FL.v (E.lss rfl rfl) ?_
  refine FL.nil ?_
  refine FW.condF rfl dlt_len ?_
  refine FW.exit ?_
  exact ⟨nofun, rfl, ⟨_, S75, i76, k81⟩⟩
 ·
  clear hq
  intro e f72 w71 hD
  rcases q22 with s22 | x22
  ·
   obtain ⟨rfl, hD⟩ := hD
   obtain ⟨H68, S69, i70, k73⟩ := hD
   replace hp := el_go hp
   refine FW.seq (FW.region ?_)
   refine FL.v (E.move k73) ?_
   refine FL.v (E.assign (v := Value.int .i64 s22) rfl) ?_
   refine FL.nil ?_
   refine FW.ret ?_
   obtain rfl := Option.some.inj hp
   exact ⟨.inr rfl, res1 rfl rfl ⟨rfl, S69.back⟩⟩
  ·
   obtain ⟨he, hL⟩ := hD
   replace hp := el_rt hp
   obtain rfl := Option.some.inj hp
   subst he
   exact hL

set_option maxHeartbeats 4000000 in
theorem w_laws_heldPcStepS {Ha : GH} {wa : World} (hs : Sl Ha wa) (v0 : Value) (a0 : List PcStep) (p0 : RSl Ha ePcStep 6 v0 a0) (a1 : Int) {r : Int} (hp : (PF.laws_heldPcStepS a0 a1) = some r) :
  Calls Tryz.prog 47 #[v0, Value.int .i64 a1] wa (Sc Ha wa (Value.int .i64 r)) := by
 unfold PF.laws_heldPcStepS at hp
 have S0 := St.init hs
 refine calls_go (N := 67) (args := [v0, Value.int .i64 a1]) Tryz.func47 rfl rfl rfl ?_
 refine FW.seq (FW.region ?_)
 refine FL.v (E.assign (v := Value.int .i64 0) rfl) ?_
 refine FL.nil (FW.seq (FW.seq (FW.region ?_)))
 refine FL.v (E.assign (v := Value.int .i64 0) rfl) ?_
 refine FL.nil ?_
 obtain ⟨q22, hq, hp⟩ := bndR hp
 refine FW.block ?_
 refine FW.mono (FW.forL (S := Int) (X := Int) (fun (i22 : Nat) (s22 : Int) f w => ∃ H : GH, St Ha wa H w [] ∧ Inc Ha H ∧ f 5 = Value.int .i64 ((i22 : Nat) : Int) ∧ f 0 = v0 ∧ f 1 = Value.int .i64 s22) (fun q e f w => match q with | .go s22 => e = Exit.exit 0 ∧ (∃ H : GH, St Ha wa H w [] ∧ Inc Ha H ∧ f 1 = Value.int .i64 s22) | .rt x => ((e = Exit.ret) ∧ (fun e f w => (e = Exit.normal ∨ e = Exit.ret) ∧ ∀ a, Fr (δ := []) 67 a f → ∃ v, (results Tryz.f47 a.tmps).run Tryz.prog w = .ok v w ∧ (Sc Ha wa (Value.int .i64 x)) (.returned v) w) e f w)) hq ⟨_, S0, (Inc.rfl _), rfl, rfl, rfl⟩ ?_ ?_) ?_
 ·
  clear hp hq
  rintro i22 y21 s22 f94 w93 ⟨H90, S91, i92, k95, k96, k97⟩ hx22 o157 hp
  refine FW.seq (FW.seq (FW.region ?_))
  refine FL.v (E.move k95) ?_
  refine FL.v (E.move k96) ?_
  refine FL.v (E.lenP te55 rfl p0) ?_
  refine FL.v (E.lssT rfl rfl (lss_len hx22)) ?_
  refine FL.nil ?_
  refine FW.condT rfl rfl ?_
  refine FW.skip (FW.seq (FW.block (FW.seq (FW.seq (FW.region ?_)))))
  refine FL.v (E.move k96) ?_
  refine FL.v (E.move k95) ?_
  obtain ⟨p98, cs99, pt100, l101, at102, rel103⟩ := p0.at (ix_nat hx22)
  obtain ⟨v104, rfl, h105⟩ := ePcStep_open rel103
  refine FL.v (E.indexAddr te55 rfl rfl pt100) ?_
  refine FL.v (E.fieldAddr tf129_0 rfl) ?_
  refine FL.v (E.load rfl (run_load1 Tryz.isAgg3 ((at102.mono i92).now S91.sl) rfl)) ?_
  refine FL.v (E.move k97) ?_
  refine FL.v (E.neq rfl rfl) ?_
  refine FL.nil ?_
  rcases ifB hp with ⟨c106, hp⟩ | ⟨c106, hp⟩
  ·
   refine FW.condT rfl c106 ?_
   refine FW.seq (FW.region ?_)
   refine FL.v (E.assign (v := Value.int .i64 (-1)) rfl) ?_
   refine FL.nil ?_
   refine FW.ret ?_
   obtain rfl := Option.some.inj hp
   exact ⟨nofun, rfl, ⟨.inr rfl, res1 rfl rfl ⟨rfl, S91.back⟩⟩⟩
  ·
   refine FW.condF rfl c106 ?_
   refine FW.skip (FW.seq (FW.region ?_))
   refine FL.v (E.move k97) ?_
   refine FL.v (E.add rfl rfl) ?_
   refine FL.v (E.assign (v := Value.int .i64 (wr (s22 + 1))) rfl) ?_
   refine FL.nil (FW.seq (FW.region ?_))
   refine FL.v (E.move k96) ?_
   refine FL.v (E.move k95) ?_
   obtain ⟨p107, cs108, pt109, l110, at111, rel112⟩ := p0.at (ix_nat hx22)
   obtain ⟨v113, rfl, h114⟩ := ePcStep_open rel112
   refine FL.v (E.indexAddr te55 rfl rfl pt109) ?_
   refine FL.v (E.fieldAddr tf129_1 rfl) ?_
   refine FL.v (E.load rfl (run_load1 Tryz.isAgg68 ((at111.mono i92).now S91.sl) rfl)) ?_
   refine FL.v (E.move (v := Value.int .i64 (wr (s22 + 1))) rfl) ?_
   obtain ⟨r115, hr116, hp⟩ := bnd hp
   refine FL.call rfl rfl rfl (E.call Tryz.call60 (A2 rfl rfl)) (w_laws_heldTermS S91.sl v113 y21.poly (h114.mono i92) (wr (s22 + 1)) hr116) ?_
   rintro e w117 ⟨rfl, r118⟩
   refine ⟨_, rfl, ?_⟩
   have S119 := S91.call r118
   refine FL.v (E.assign (v := Value.int .i64 r115) rfl) ?_
   refine FL.nil (FW.seq (FW.seq (FW.region ?_)))
   refine FL.v (E.move (v := Value.int .i64 r115) rfl) ?_
   refine FL.v (E.lss rfl rfl) ?_
   refine FL.nil ?_
   rcases ifB hp with ⟨c120, hp⟩ | ⟨c120, hp⟩
   ·
    refine FW.condT rfl c120 ?_
    refine FW.seq (FW.region ?_)
    refine FL.v (E.assign (v := Value.int .i64 (-1)) rfl) ?_
    refine FL.nil ?_
    refine FW.ret ?_
    obtain rfl := Option.some.inj hp
    exact ⟨nofun, rfl, ⟨.inr rfl, res1 rfl rfl ⟨rfl, S119.back⟩⟩⟩
   ·
    refine FW.condF rfl c120 ?_
    refine FW.skip (FW.seq (FW.seq (FW.region ?_)))
    refine FL.v (E.move k96) ?_
    refine FL.v (E.move k95) ?_
    obtain ⟨p121, cs122, pt123, l124, at125, rel126⟩ := p0.at (ix_nat hx22)
    obtain ⟨v127, rfl, h128⟩ := ePcStep_open rel126
    refine FL.v (E.indexAddr te55 rfl rfl pt123) ?_
    refine FL.v (E.fieldAddr tf129_2 rfl) ?_
    refine FL.v (E.load rfl (run_load1 Tryz.isAgg3 ((at125.mono i92).now S119.sl) rfl)) ?_
    refine FL.v (E.move (v := Value.int .i64 r115) rfl) ?_
    refine FL.v (E.neq rfl rfl) ?_
    refine FL.nil ?_
    rcases ifB hp with ⟨c129, hp⟩ | ⟨c129, hp⟩
    ·
     refine FW.condT rfl c129 ?_
     refine FW.seq (FW.region ?_)
     refine FL.v (E.assign (v := Value.int .i64 (-1)) rfl) ?_
     refine FL.nil ?_
     refine FW.ret ?_
     obtain rfl := Option.some.inj hp
     exact ⟨nofun, rfl, ⟨.inr rfl, res1 rfl rfl ⟨rfl, S119.back⟩⟩⟩
    ·
     refine FW.condF rfl c129 ?_
     refine FW.skip (FW.seq (FW.region ?_))
     refine FL.v (E.move (v := Value.int .i64 r115) rfl) ?_
     refine FL.v (E.add rfl rfl) ?_
     refine FL.v (E.assign (v := Value.int .i64 (wr (r115 + 1))) rfl) ?_
     refine FL.nil (FW.seq (FW.seq (FW.region ?_)))
     refine FL.v (E.move k96) ?_
     refine FL.v (E.move k95) ?_
     obtain ⟨p130, cs131, pt132, l133, at134, rel135⟩ := p0.at (ix_nat hx22)
     obtain ⟨v136, rfl, h137⟩ := ePcStep_open rel135
     refine FL.v (E.indexAddr te55 rfl rfl pt132) ?_
     refine FL.v (E.fieldAddr tf129_3 rfl) ?_
     refine FL.v (E.load rfl (run_load1 Tryz.isAgg3 ((at134.mono i92).now S119.sl) rfl)) ?_
     refine FL.v (E.move (v := Value.int .i64 (wr (r115 + 1))) rfl) ?_
     refine FL.v (E.neq rfl rfl) ?_
     refine FL.nil ?_
     rcases ifB hp with ⟨c138, hp⟩ | ⟨c138, hp⟩
     ·
      refine FW.condT rfl c138 ?_
      refine FW.seq (FW.region ?_)
      refine FL.v (E.assign (v := Value.int .i64 (-1)) rfl) ?_
      refine FL.nil ?_
      refine FW.ret ?_
      obtain rfl := Option.some.inj hp
      exact ⟨nofun, rfl, ⟨.inr rfl, res1 rfl rfl ⟨rfl, S119.back⟩⟩⟩
     ·
      refine FW.condF rfl c138 ?_
      refine FW.skip (FW.seq (FW.region ?_))
      refine FL.v (E.move (v := Value.int .i64 (wr (r115 + 1))) rfl) ?_
      refine FL.v (E.add rfl rfl) ?_
      refine FL.v (E.assign (v := Value.int .i64 (wr ((wr (r115 + 1)) + 1))) rfl) ?_
      refine FL.nil (FW.seq (FW.seq (FW.region ?_)))
      refine FL.v (E.move k96) ?_
      refine FL.v (E.move k95) ?_
      obtain ⟨p139, cs140, pt141, l142, at143, rel144⟩ := p0.at (ix_nat hx22)
      obtain ⟨v145, rfl, h146⟩ := ePcStep_open rel144
      refine FL.v (E.indexAddr te55 rfl rfl pt141) ?_
      refine FL.v (E.fieldAddr tf129_4 rfl) ?_
      refine FL.v (E.load rfl (run_load1 Tryz.isAgg3 ((at143.mono i92).now S119.sl) rfl)) ?_
      refine FL.v (E.move (v := Value.int .i64 (wr ((wr (r115 + 1)) + 1))) rfl) ?_
      refine FL.v (E.neq rfl rfl) ?_
      refine FL.nil ?_
      rcases ifB hp with ⟨c147, hp⟩ | ⟨c147, hp⟩
      ·
       refine FW.condT rfl c147 ?_
       refine FW.seq (FW.region ?_)
       refine FL.v (E.assign (v := Value.int .i64 (-1)) rfl) ?_
       refine FL.nil ?_
       refine FW.ret ?_
       obtain rfl := Option.some.inj hp
       exact ⟨nofun, rfl, ⟨.inr rfl, res1 rfl rfl ⟨rfl, S119.back⟩⟩⟩
      ·
       refine FW.condF rfl c147 ?_
       refine FW.skip (FW.seq (FW.region ?_))
       refine FL.v (E.move (v := Value.int .i64 (wr ((wr (r115 + 1)) + 1))) rfl) ?_
       refine FL.v (E.add rfl rfl) ?_
       refine FL.v (E.assign (v := Value.int .i64 (wr ((wr ((wr (r115 + 1)) + 1)) + 1))) rfl) ?_
       refine FL.nil (FW.seq (FW.seq (FW.region ?_)))
       refine FL.v (E.move k96) ?_
       refine FL.v (E.move k95) ?_
       obtain ⟨p148, cs149, pt150, l151, at152, rel153⟩ := p0.at (ix_nat hx22)
       obtain ⟨v154, rfl, h155⟩ := ePcStep_open rel153
       refine FL.v (E.indexAddr te55 rfl rfl pt150) ?_
       refine FL.v (E.fieldAddr tf129_5 rfl) ?_
       refine FL.v (E.load rfl (run_load1 Tryz.isAgg3 ((at152.mono i92).now S119.sl) rfl)) ?_
       refine FL.v (E.move (v := Value.int .i64 (wr ((wr ((wr (r115 + 1)) + 1)) + 1))) rfl) ?_
       refine FL.v (E.neq rfl rfl) ?_
       refine FL.nil ?_
       rcases ifB hp with ⟨c156, hp⟩ | ⟨c156, hp⟩
       ·
        refine FW.condT rfl c156 ?_
        refine FW.seq (FW.region ?_)
        refine FL.v (E.assign (v := Value.int .i64 (-1)) rfl) ?_
        refine FL.nil ?_
        refine FW.ret ?_
        obtain rfl := Option.some.inj hp
        exact ⟨nofun, rfl, ⟨.inr rfl, res1 rfl rfl ⟨rfl, S119.back⟩⟩⟩
       ·
        refine FW.condF rfl c156 ?_
        refine FW.skip (FW.region ?_)
        refine FL.v (E.move (v := Value.int .i64 (wr ((wr ((wr (r115 + 1)) + 1)) + 1))) rfl) ?_
        refine FL.v (E.add rfl rfl) ?_
        refine FL.v (E.assign (v := Value.int .i64 (wr ((wr ((wr ((wr (r115 + 1)) + 1)) + 1)) + 1))) rfl) ?_
        refine FL.nil (FW.region ?_)
        refine FL.v (E.move k95) ?_
        refine FL.v (E.add rfl rfl) ?_
        refine FL.v (E.assign (v := Value.int .i64 (wr (((i22 : Nat) : Int) + 1))) rfl) ?_
        refine FL.nil ?_
        obtain rfl := Option.some.inj hp
        exact ⟨rfl, ⟨_, S119, i92, (nat_succ rfl (lt_of_get hx22) (p0.mono i92).le), k96, rfl⟩⟩
 ·
  clear hp hq
  rintro s22 f168 w167 ⟨H164, S165, i166, k169, k170, k171⟩
  refine FW.seq (FW.seq (FW.region ?_))
  refine FL.v (E.move k169) ?_
  refine FL.v (E.move k170) ?_
  refine FL.v (E.lenP te55 rfl p0) ?_
  refine FL.v (E.lss rfl rfl) ?_
  refine FL.nil ?_
  refine FW.condF rfl dlt_len ?_
  refine FW.exit ?_
  exact ⟨nofun, rfl, ⟨_, S165, i166, k171⟩⟩
 ·
  clear hq
  intro e f162 w161 hD
  rcases q22 with s22 | x22
  ·
   obtain ⟨rfl, hD⟩ := hD
   obtain ⟨H158, S159, i160, k163⟩ := hD
   replace hp := el_go hp
   refine FW.seq (FW.region ?_)
   refine FL.v (E.move k163) ?_
   refine FL.v (E.assign (v := Value.int .i64 s22) rfl) ?_
   refine FL.nil ?_
   refine FW.ret ?_
   obtain rfl := Option.some.inj hp
   exact ⟨.inr rfl, res1 rfl rfl ⟨rfl, S159.back⟩⟩
  ·
   obtain ⟨he, hL⟩ := hD
   replace hp := el_rt hp
   obtain rfl := Option.some.inj hp
   subst he
   exact hL

set_option maxHeartbeats 4000000 in
theorem w_laws_FnExactResToPc {Ha : GH} {wa : World} (hs : Sl Ha wa) (a0 : Int) (a1 : Cnf) (v1_1 : Value) (p1_1 : RSl Ha (eL eI 1) 1 v1_1 a1.clauses) (v2 : Value) (a2 : List ResStep) (p2 : RSl Ha eResStep 4 v2 a2) {r : Bool} (hp : (PF.laws_FnExactResToPc a0 a1 a2) = some r) :
  Calls Tryz.prog 9 #[Value.int .i64 a0, Value.agg #[Value.int .i64 a1.vars, v1_1], v2] wa (Sc Ha wa (Value.bool r)) := by
 unfold PF.laws_FnExactResToPc at hp
 have S0 := St.init hs
 refine calls_go (N := 124) (args := [Value.int .i64 a0, Value.agg #[Value.int .i64 a1.vars, v1_1], v2]) Tryz.func9 rfl rfl rfl ?_
 refine FW.seq (FW.region ?_)
 obtain ⟨w21, run22, S23, z24⟩ := S0.boxB (P := Tryz.prog) 24 [Value.int .i64 a1.vars, v1_1] (v := Value.agg #[Value.int .i64 a1.vars, v1_1]) rfl (ones_cons rfl (ones_cons p1_1.one ones_nil))
 refine FL.v (E.box rfl run22) ?_
 obtain ⟨H25, S26, i27, at28⟩ := S23.sealBoxB (i := 0) (l' := []) rfl rfl
 refine FL.v (E.assign (v := Value.bool false) rfl) ?_
 refine FL.nil (FW.seq (FW.region ?_))
 refine FL.v (E.assign (v := Value.int .i64 1048576) rfl) ?_
 refine FL.nil (FW.seq (FW.region ?_))
 refine FL.v (E.load rfl (run_loadA Tryz.isAgg24 Tryz.sizeOf24 ((at28.mono sgI).now S26.sl) rfl)) ?_
 refine FL.v (E.move (v := Value.int .i64 1048576) rfl) ?_
 obtain ⟨r29, hr30, hp⟩ := bnd hp
 refine FL.call rfl rfl rfl (E.call Tryz.call15 (A2 rfl rfl)) (w_laws_szCnf S26.sl a1 v1_1 (p1_1.mono i27) 1048576 hr30) ?_
 rintro e w31 ⟨rfl, r32⟩
 refine ⟨_, rfl, ?_⟩
 have S33 := S26.call r32
 have z34 := r32.bel.size
 refine FL.v (E.assign (v := Value.int .i64 r29) rfl) ?_
 refine FL.nil (FW.seq (FW.seq (FW.region ?_)))
 refine FL.v (E.move (v := Value.int .i64 r29) rfl) ?_
 refine FL.v (E.lss rfl rfl) ?_
 refine FL.nil ?_
 rcases ifB hp with ⟨c35, hp⟩ | ⟨c35, hp⟩
 ·
  refine FW.condT rfl c35 ?_
  refine FW.seq (FW.region ?_)
  refine FL.v (E.assign (v := Value.bool true) rfl) ?_
  refine FL.nil ?_
  refine FW.ret ?_
  obtain rfl := Option.some.inj hp
  exact ⟨.inr rfl, res1 rfl rfl ⟨rfl, S33.back⟩⟩
 ·
  refine FW.condF rfl c35 ?_
  refine FW.skip (FW.seq (FW.region ?_))
  refine FL.v (E.move (v := v2) rfl) ?_
  refine FL.v (E.move (v := Value.int .i64 r29) rfl) ?_
  obtain ⟨r36, hr37, hp⟩ := bnd hp
  refine FL.call rfl rfl rfl (E.call Tryz.call16 (A2 rfl rfl)) (w_laws_szResStepS S33.sl v2 a2 (p2.mono i27) r29 hr37) ?_
  rintro e w38 ⟨rfl, r39⟩
  refine ⟨_, rfl, ?_⟩
  have S40 := S33.call r39
  have z41 := r39.bel.size
  refine FL.v (E.assign (v := Value.int .i64 r36) rfl) ?_
  refine FL.nil (FW.seq (FW.seq (FW.region ?_)))
  refine FL.v (E.move (v := Value.int .i64 r36) rfl) ?_
  refine FL.v (E.lss rfl rfl) ?_
  refine FL.nil ?_
  rcases ifB hp with ⟨c42, hp⟩ | ⟨c42, hp⟩
  ·
   refine FW.condT rfl c42 ?_
   refine FW.seq (FW.region ?_)
   refine FL.v (E.assign (v := Value.bool true) rfl) ?_
   refine FL.nil ?_
   refine FW.ret ?_
   obtain rfl := Option.some.inj hp
   exact ⟨.inr rfl, res1 rfl rfl ⟨rfl, S40.back⟩⟩
  ·
   refine FW.condF rfl c42 ?_
   refine FW.skip (FW.seq (FW.region ?_))
   refine FL.v (E.move (v := Value.int .i64 a0) rfl) ?_
   refine FL.v (E.load rfl (run_loadA Tryz.isAgg24 Tryz.sizeOf24 ((at28.mono sgI).now S40.sl) rfl)) ?_
   obtain ⟨r43, hr44, hp⟩ := bnd hp
   refine FL.call rfl rfl rfl (E.call Tryz.call18 (A1 rfl)) (w_laws_toCnf S40.sl a1 v1_1 (p1_1.mono i27) hr44) ?_
   rintro e w46 ⟨H45, v49, rfl, r48, ⟨c52, ns51⟩⟩
   refine ⟨_, rfl, ?_⟩
   have h50 := ns51.rsl
   have nv53 : New H25 [v49] := New.of_up S40.sl h50.dom
   have S47 := S40.call r48
   have z54 := r48.bel.size
   have h50 := h50.mono (sg_of S47.sl)
   have ns51 := ns51.mono (sg_of S47.sl)
   refine FL.v (E.move (v := v2) rfl) ?_
   obtain ⟨r55, hr56, hp⟩ := bnd hp
   refine FL.call rfl rfl rfl (E.call Tryz.call19 (A1 rfl)) (w_laws_toResStepS S47.sl v2 a2 (p2.mono (i27.tr r48.inc)) hr56) ?_
   rintro e w58 ⟨H57, v61, n62, cs63, rfl, r60, els64, nd65⟩
   refine ⟨_, rfl, ?_⟩
   have nv66 : New H45 cs63 := New.of_up S47.sl els64.dom
   obtain ⟨H67, r68, i69, ns72, nv71⟩ := r60.sealRowN (i := 0) (l' := []) rfl els64 nd65 (by decide) rfl
   have h70 := ns72.rsl
   have S59 := S47.call r68.run
   have z73 := r68.run.bel.size
   have h70 := h70.mono (sg_of S59.sl)
   have ns72 := ns72.mono (sg_of S59.sl)
   obtain ⟨r74, hr75, hp⟩ := bnd hp
   refine FL.call rfl rfl rfl (E.call Tryz.call43 (A3 rfl rfl rfl)) (w_spec_ResToPc S59.sl a0 r43 v49 (h50.mono (sgI.tr r68.run.inc)) v61 r55 (h70.mono sgI) hr75) ?_
   rintro e w77 ⟨H76, v80, rfl, r79, ⟨c83, ns82⟩⟩
   refine ⟨_, rfl, ?_⟩
   have h81 := ns82.rsl
   have nv84 : New H67 [v80] := New.of_up S59.sl h81.dom
   have S78 := S59.call r79
   have z85 := r79.bel.size
   have h81 := h81.mono (sg_of S78.sl)
   have ns82 := ns82.mono (sg_of S78.sl)
   refine FL.v (E.move (v := Value.tuple #[v80, Value.bool r74.2]) rfl) ?_
   refine FL.v (E.extract (i := 0) rfl rfl) ?_
   refine FL.v (E.extract (i := 1) rfl rfl) ?_
   refine FL.v (E.assign (v := v80) rfl) ?_
   refine FL.v (E.assign (v := Value.bool r74.2) rfl) ?_
   refine FL.nil (FW.seq (FW.region ?_))
   refine FL.v (E.load rfl (run_loadA Tryz.isAgg24 Tryz.sizeOf24 ((at28.mono (sgI.tr ((r48.inc.tr r68.run.inc).tr r79.inc))).now S78.sl) rfl)) ?_
   obtain ⟨r86, hr87, hp⟩ := bnd hp
   refine FL.call rfl rfl rfl (E.call Tryz.call18 (A1 rfl)) (w_laws_toCnf S78.sl a1 v1_1 (p1_1.mono (((i27.tr r48.inc).tr r68.run.inc).tr r79.inc)) hr87) ?_
   rintro e w89 ⟨H88, v92, rfl, r91, ⟨c95, ns94⟩⟩
   refine ⟨_, rfl, ?_⟩
   have h93 := ns94.rsl
   have nv96 : New H76 [v92] := New.of_up S78.sl h93.dom
   have S90 := S78.call r91
   have z97 := r91.bel.size
   have h93 := h93.mono (sg_of S90.sl)
   have ns94 := ns94.mono (sg_of S90.sl)
   obtain ⟨w98, run99, S100, z101⟩ := S90.allocB (P := Tryz.prog) 31 [Value.int .i64 0, Value.slice none 0 0] Tryz.zeroValue31 rfl (ones_cons rfl (ones_cons rfl ones_nil))
   refine FL.v (E.alloc run99) ?_
   obtain ⟨w102, run103, S104, z105⟩ := S100.store0B (P := Tryz.prog) (t := 31) (i := 0) (cs' := [Value.int .i64 r86.vars, v92]) (l' := [.box w89.heap.size 31 [Value.int .i64 r86.vars, v92]]) (v := Value.agg #[Value.int .i64 r86.vars, v92]) (c := [Value.int .i64 r86.vars, v92]) rfl Tryz.sizeOf31 rfl rfl (ones_cons rfl (ones_cons h93.one ones_nil)) (Nat.le_of_ble_eq_true rfl) rfl rfl
   refine FL.act rfl rfl (E.store rfl rfl run103) ?_
   obtain ⟨H106, S107, i108, at109⟩ := S104.sealBoxB (i := 0) (l' := []) rfl rfl
   refine FL.nil (FW.seq (FW.region ?_))
   refine FL.v (E.move (v := v2) rfl) ?_
   obtain ⟨r110, hr111, hp⟩ := bnd hp
   refine FL.call rfl rfl rfl (E.call Tryz.call19 (A1 rfl)) (w_laws_toResStepS S107.sl v2 a2 (p2.mono (((((i27.tr r48.inc).tr r68.run.inc).tr r79.inc).tr r91.inc).tr i108)) hr111) ?_
   rintro e w113 ⟨H112, v116, n117, cs118, rfl, r115, els119, nd120⟩
   refine ⟨_, rfl, ?_⟩
   have nv121 : New H106 cs118 := New.of_up S107.sl els119.dom
   obtain ⟨H122, r123, i124, ns127, nv126⟩ := r115.sealRowN (i := 0) (l' := []) rfl els119 nd120 (by decide) rfl
   have h125 := ns127.rsl
   have S114 := S107.call r123.run
   have z128 := r123.run.bel.size
   have h125 := h125.mono (sg_of S114.sl)
   have ns127 := ns127.mono (sg_of S114.sl)
   refine FL.v (E.assign (v := v116) rfl) ?_
   refine FL.nil (FW.seq (FW.region ?_))
   refine FL.v (E.move (v := Value.int .i64 a0) rfl) ?_
   refine FL.v (E.load rfl (run_loadA Tryz.isAgg31 Tryz.sizeOf31 ((at109.mono (sgI.tr r123.run.inc)).now S114.sl) rfl)) ?_
   refine FL.v (E.move (v := v116) rfl) ?_
   obtain ⟨r129, hr130, hp⟩ := bnd hp
   refine FL.call rfl rfl rfl (E.call Tryz.call44 (A3 rfl rfl rfl)) (w_impl_ResToPc S114.sl a0 r86 v92 (h93.mono (sgI.tr (i108.tr r123.run.inc))) v116 r110 (h125.mono sgI) hr130) ?_
   rintro e w132 ⟨H131, v135, rfl, r134, ⟨c138, ns137⟩⟩
   refine ⟨_, rfl, ?_⟩
   have h136 := ns137.rsl
   have nv139 : New H122 [v135] := New.of_up S114.sl h136.dom
   have S133 := S114.call r134
   have z140 := r134.bel.size
   have h136 := h136.mono (sg_of S133.sl)
   have ns137 := ns137.mono (sg_of S133.sl)
   refine FL.v (E.move (v := Value.tuple #[v135, Value.bool r129.2]) rfl) ?_
   refine FL.v (E.extract (i := 0) rfl rfl) ?_
   refine FL.v (E.extract (i := 1) rfl rfl) ?_
   refine FL.v (E.assign (v := v135) rfl) ?_
   refine FL.v (E.assign (v := Value.bool r129.2) rfl) ?_
   refine FL.nil (FW.seq (FW.seq (FW.region ?_)))
   refine FL.v (E.move (v := v135) rfl) ?_
   refine FL.v (E.move (v := v80) rfl) ?_
   obtain ⟨r141, hr142, hp⟩ := bnd hp
   refine FL.call rfl rfl rfl (E.call Tryz.call45 (A2 rfl rfl)) (w_laws_eqPcStepS S133.sl v135 r129.1 (h136.mono sgI) v80 r74.1 (h81.mono (sgI.tr (((r91.inc.tr i108).tr r123.run.inc).tr r134.inc))) hr142) ?_
   rintro e w143 ⟨rfl, r144⟩
   refine ⟨_, rfl, ?_⟩
   have S145 := S133.call r144
   have z146 := r144.bel.size
   refine FL.v (E.not rfl) ?_
   refine FL.v (E.move (v := Value.bool (!r141)) rfl) ?_
   refine FL.cut 4 (fun f w => ∃ H : GH, St Ha wa H w [] ∧ Inc H131 H ∧ f 0 = Value.int .i64 a0 ∧ f 2 = v2 ∧ f 4 = Value.pointer (some ⟨wa.heap.size, 0, none⟩) ∧ f 8 = v80 ∧ f 9 = Value.bool r74.2 ∧ f 10 = Value.pointer (some ⟨w89.heap.size, 0, none⟩) ∧ f 11 = v116 ∧ f 12 = v135 ∧ f 13 = Value.bool r129.2 ∧ f 57 = Value.bool (bif (!r141) then true else (!(r129.2 == r74.2)))) ?_ ?_
   ·
    rcases bcase (!r141) with c153 | c153
    ·
     refine FL.skip (wF_no rfl rfl rfl c153) rfl ?_
     refine FL.skip (wF_no rfl rfl rfl c153) rfl ?_
     refine FL.skip (wF_no rfl rfl rfl c153) rfl ?_
     refine FL.v (E.pickT rfl c153 rfl) ?_
     exact FL.nil ⟨rfl, _, S145, (Inc.rfl _), rfl, rfl, rfl, rfl, rfl, rfl, rfl, rfl, rfl, (congrArg Value.bool (bifT c153).symm)⟩
    ·
     refine FL.val (wF_yes rfl rfl rfl c153) rfl rfl (E.move (v := Value.bool r129.2) rfl) ?_
     refine FL.val (wF_yes rfl rfl rfl c153) rfl rfl (E.move (v := Value.bool r74.2) rfl) ?_
     refine FL.val (wF_yes rfl rfl rfl c153) rfl rfl (E.neqB Tryz.runUnderlying4 rfl rfl) ?_
     refine FL.v (E.pickF rfl c153 rfl) ?_
     exact FL.nil ⟨rfl, _, S145, (Inc.rfl _), rfl, rfl, rfl, rfl, rfl, rfl, rfl, rfl, rfl, (congrArg Value.bool (bifF c153).symm)⟩
   rintro f152 w151 ⟨H148, S149, i150, k154, k155, k156, k157, k158, k159, k160, k161, k162, k163⟩
   refine FL.nil ?_
   rcases ifB hp with ⟨c164, hp⟩ | ⟨c164, hp⟩
   ·
    refine FW.condT k163 c164 ?_
    refine FW.seq (FW.region ?_)
    refine FL.v (E.assign (v := Value.bool false) rfl) ?_
    refine FL.nil ?_
    refine FW.ret ?_
    obtain rfl := Option.some.inj hp
    exact ⟨.inr rfl, res1 rfl rfl ⟨rfl, S149.back⟩⟩
   ·
    refine FW.condF k163 c164 ?_
    refine FW.skip (FW.seq (FW.seq ?_))
    obtain ⟨r147, hr168, hp⟩ := bnd hp
    obtain ⟨r179, hr180, hp⟩ := bnd hp
    refine FW.drawB (Sl H148) (fun f w => ∃ H : GH, St Ha wa H w [] ∧ Inc H148 H ∧ f 0 = Value.int .i64 a0 ∧ f 2 = v2 ∧ f 4 = Value.pointer (some ⟨wa.heap.size, 0, none⟩) ∧ f 8 = v80 ∧ f 9 = Value.bool r74.2 ∧ f 10 = Value.pointer (some ⟨w89.heap.size, 0, none⟩) ∧ f 11 = v116 ∧ f 12 = v135 ∧ f 13 = Value.bool r129.2 ∧ f 62 = Value.bool (!r179)) (by kernel_rfl) S149.sl ?_ ?_
    ·
     intro w165 r166
     have S167 := S149.call r166
     refine FB.t (i := 0) (bs 5 1) rfl (SP.nil S167.sl) rfl (fun w' hw' => (E.load k159 (run_loadA Tryz.isAgg31 Tryz.sizeOf31 ((at109.mono (sgI.tr ((r123.run.inc.tr r134.inc).tr i150))).now hw') rfl))) ?_
     refine FB.t (i := 1) (bs 5 3) rfl (SP.nil S167.sl) rfl (fun w' hw' => (E.load k156 (run_loadA Tryz.isAgg24 Tryz.sizeOf24 ((at28.mono (sgI.tr (((((((r48.inc.tr r68.run.inc).tr r79.inc).tr r91.inc).tr i108).tr r123.run.inc).tr r134.inc).tr i150))).now hw') rfl))) ?_
     refine FB.all1 (i := 2) (by kernel_rfl) ?_
     ·
      refine FC.call (l' := (bs 5 7)) rfl (by kernel_rfl) rfl rfl rfl (E.call Tryz.call18 (A1 rfl)) (w_laws_toCnf S167.sl a1 v1_1 (p1_1.mono ((((((((i27.tr r48.inc).tr r68.run.inc).tr r79.inc).tr r91.inc).tr i108).tr r123.run.inc).tr r134.inc).tr i150)) hr168) ?_
      rintro e w170 ⟨H169, v173, rfl, r172, ⟨c176, ns175⟩⟩
      refine ⟨_, rfl, ?_⟩
      have h174 := ns175.rsl
      have nv177 : New H148 [v173] := New.of_up S167.sl h174.dom
      have S171 := S167.call r172
      have z178 := r172.bel.size
      have h174 := h174.mono (sg_of S171.sl)
      have ns175 := ns175.mono (sg_of S171.sl)
      refine ⟨(SP.nil (Sl.of_inc r172.inc S171.sl)), ?_⟩
      refine FB.all1 (i := 3) (by kernel_rfl) ?_
      ·
       refine FC.call (l' := (bs 5 15)) rfl (by kernel_rfl) rfl rfl rfl (E.call Tryz.call22 (A2 rfl rfl)) (w_laws_eqCnf S171.sl r86 v92 (h93.mono (sgI.tr ((((i108.tr r123.run.inc).tr r134.inc).tr i150).tr r172.inc))) r147 v173 (h174.mono sgI) hr180) ?_
       rintro e w181 ⟨rfl, r182⟩
       refine ⟨_, rfl, ?_⟩
       have S183 := S171.call r182
       have z184 := r182.bel.size
       refine ⟨(SP.nil (Sl.of_inc r172.inc S183.sl)), ?_⟩
       refine FB.t (i := 4) (bs 5 31) rfl (SP.nil (Sl.of_inc r172.inc S183.sl)) rfl (fun w' hw' => (E.not rfl)) ?_
       exact FB.done (by kernel_rfl) ⟨_, S183, r172.inc, k154, k155, k156, k157, k158, k159, k160, k161, k162, rfl⟩
    ·
     rintro f189 w188 ⟨H185, S186, i187, k190, k191, k192, k193, k194, k195, k196, k197, k198, k199⟩
     rcases ifB hp with ⟨c200, hp⟩ | ⟨c200, hp⟩
     ·
      refine FW.condT k199 c200 ?_
      refine FW.seq (FW.region ?_)
      refine FL.v (E.assign (v := Value.bool false) rfl) ?_
      refine FL.nil ?_
      refine FW.ret ?_
      obtain rfl := Option.some.inj hp
      exact ⟨.inr rfl, res1 rfl rfl ⟨rfl, S186.back⟩⟩
     ·
      refine FW.condF k199 c200 ?_
      refine FW.skip (FW.seq (FW.seq (FW.region ?_)))
      refine FL.v (E.move k196) ?_
      refine FL.v (E.move k191) ?_
      obtain ⟨r201, hr202, hp⟩ := bnd hp
      refine FL.call rfl rfl rfl (E.call Tryz.call19 (A1 rfl)) (w_laws_toResStepS S186.sl v2 a2 (p2.mono (((((((((i27.tr r48.inc).tr r68.run.inc).tr r79.inc).tr r91.inc).tr i108).tr r123.run.inc).tr r134.inc).tr i150).tr i187)) hr202) ?_
      rintro e w204 ⟨H203, v207, n208, cs209, rfl, r206, els210, nd211⟩
      refine ⟨_, rfl, ?_⟩
      have nv212 : New H185 cs209 := New.of_up S186.sl els210.dom
      obtain ⟨H213, r214, i215, ns218, nv217⟩ := r206.sealRowN (i := 0) (l' := []) rfl els210 nd211 (by decide) rfl
      have h216 := ns218.rsl
      have S205 := S186.call r214.run
      have z219 := r214.run.bel.size
      have h216 := h216.mono (sg_of S205.sl)
      have ns218 := ns218.mono (sg_of S205.sl)
      obtain ⟨r220, hr221, hp⟩ := bnd hp
      refine FL.call rfl rfl rfl (E.call Tryz.call21 (A2 rfl rfl)) (w_laws_eqResStepS S205.sl v116 r110 (h125.mono (sgI.tr (((r134.inc.tr i150).tr i187).tr r214.run.inc))) v207 r201 (h216.mono sgI) hr221) ?_
      rintro e w222 ⟨rfl, r223⟩
      refine ⟨_, rfl, ?_⟩
      have S224 := S205.call r223
      have z225 := r223.bel.size
      refine FL.v (E.not rfl) ?_
      refine FL.nil ?_
      rcases ifB hp with ⟨c226, hp⟩ | ⟨c226, hp⟩
      ·
       refine FW.condT rfl c226 ?_
       refine FW.seq (FW.region ?_)
       refine FL.v (E.assign (v := Value.bool false) rfl) ?_
       refine FL.nil ?_
       refine FW.ret ?_
       obtain rfl := Option.some.inj hp
       exact ⟨.inr rfl, res1 rfl rfl ⟨rfl, S224.back⟩⟩
      ·
       refine FW.condF rfl c226 ?_
       refine FW.skip (FW.seq (FW.region ?_))
       refine FL.v (E.assign (v := Value.int .i64 1) rfl) ?_
       refine FL.nil (FW.seq (FW.region ?_))
       refine FL.v (E.load k195 (run_loadA Tryz.isAgg31 Tryz.sizeOf31 ((at109.mono (sgI.tr ((((r123.run.inc.tr r134.inc).tr i150).tr i187).tr r214.run.inc))).now S224.sl) rfl)) ?_
       refine FL.v (E.move (v := Value.int .i64 1) rfl) ?_
       refine FL.call rfl rfl rfl (E.call Tryz.call23 (A2 rfl rfl)) (w_laws_markCnf S224 hs r86 v92 c95 (ns94.mono (sg_up (by omega) (((((i108.tr r123.run.inc).tr r134.inc).tr i150).tr i187).tr r214.run.inc))) 1) ?_
       rintro e w228 ⟨H227, c233, rfl, S229, ns235, hb234, o231⟩
       refine ⟨_, rfl, ?_⟩
       have o232 := (ns94.mono (sg_mono (hi := w89.heap.size) (((((i108.tr r123.run.inc).tr r134.inc).tr i150).tr i187).tr r214.run.inc))).outside o231
       have ns235 := ns94.span (eL_loc eI_flat) (by omega) ns235 hb234
       have h230 := ns235.rsl
       have f236 := at28.mono ((sg_mono (lo := wa.heap.size) (hi := wa.heap.size + 1) (((((((((r48.inc.tr r68.run.inc).tr r79.inc).tr r91.inc).tr i108).tr r123.run.inc).tr r134.inc).tr i150).tr i187).tr r214.run.inc)).tr (sg_keep o232 (by omega)))
       have f237 := h81.mono ((sg_mono (lo := w58.heap.size) (hi := w77.heap.size) ((((((r91.inc.tr i108).tr r123.run.inc).tr r134.inc).tr i150).tr i187).tr r214.run.inc)).tr (sg_keep o232 (by omega)))
       have f238 := ns82.mono ((sg_mono (lo := w58.heap.size) (hi := w77.heap.size) ((((((r91.inc.tr i108).tr r123.run.inc).tr r134.inc).tr i150).tr i187).tr r214.run.inc)).tr (sg_keep o232 (by omega)))
       have f239 := at109.mono ((sg_mono (lo := w89.heap.size) (hi := w89.heap.size + 1) ((((r123.run.inc.tr r134.inc).tr i150).tr i187).tr r214.run.inc)).tr (sg_keep o232 (by omega)))
       have f240 := h125.mono ((sg_mono (lo := w102.heap.size) (hi := w113.heap.size) (((r134.inc.tr i150).tr i187).tr r214.run.inc)).tr (sg_keep o232 (by omega)))
       have f241 := ns127.mono ((sg_mono (lo := w102.heap.size) (hi := w113.heap.size) (((r134.inc.tr i150).tr i187).tr r214.run.inc)).tr (sg_keep o232 (by omega)))
       have f242 := h136.mono ((sg_mono (lo := w113.heap.size) (hi := w132.heap.size) ((i150.tr i187).tr r214.run.inc)).tr (sg_keep o232 (by omega)))
       have f243 := ns137.mono ((sg_mono (lo := w113.heap.size) (hi := w132.heap.size) ((i150.tr i187).tr r214.run.inc)).tr (sg_keep o232 (by omega)))
       refine FL.v (E.assign (v := Value.int .i64 ((PF.laws_markCnf r86 1).2)) rfl) ?_
       refine FL.nil (FW.seq (FW.region ?_))
       refine FL.v (E.move k196) ?_
       refine FL.v (E.move (v := Value.int .i64 ((PF.laws_markCnf r86 1).2)) rfl) ?_
       refine FL.call rfl rfl rfl (E.call Tryz.call24 (A2 rfl rfl)) (w_laws_markResStepS S229 hs v116 r110 cs118 (f241.mono (sg_up (by omega) (Inc.rfl _))) ((PF.laws_markCnf r86 1).2)) ?_
       rintro e w245 ⟨H244, c250, rfl, S246, ns252, hb251, o248⟩
       refine ⟨_, rfl, ?_⟩
       have o249 := (f241.mono (sg_mono (hi := w113.heap.size) (Inc.rfl _))).outside o248
       have ns252 := f241.span eResStep_loc (by omega) ns252 hb251
       have h247 := ns252.rsl
       have f253 := f236.mono ((sg_mono (lo := wa.heap.size) (hi := wa.heap.size + 1) (Inc.rfl _)).tr (sg_keep o249 (by omega)))
       have f254 := f237.mono ((sg_mono (lo := w58.heap.size) (hi := w77.heap.size) (Inc.rfl _)).tr (sg_keep o249 (by omega)))
       have f255 := f238.mono ((sg_mono (lo := w58.heap.size) (hi := w77.heap.size) (Inc.rfl _)).tr (sg_keep o249 (by omega)))
       have f256 := f239.mono ((sg_mono (lo := w89.heap.size) (hi := w89.heap.size + 1) (Inc.rfl _)).tr (sg_keep o249 (by omega)))
       have f257 := h230.mono ((sg_mono (lo := w77.heap.size) (hi := w89.heap.size) (Inc.rfl _)).tr (sg_keep o249 (by omega)))
       have f258 := ns235.mono ((sg_mono (lo := w77.heap.size) (hi := w89.heap.size) (Inc.rfl _)).tr (sg_keep o249 (by omega)))
       have f259 := f242.mono ((sg_mono (lo := w113.heap.size) (hi := w132.heap.size) (Inc.rfl _)).tr (sg_keep o249 (by omega)))
       have f260 := f243.mono ((sg_mono (lo := w113.heap.size) (hi := w132.heap.size) (Inc.rfl _)).tr (sg_keep o249 (by omega)))
       refine FL.v (E.assign (v := Value.int .i64 ((PF.laws_markResStepS r110 ((PF.laws_markCnf r86 1).2)).2)) rfl) ?_
       refine FL.nil (FW.seq (FW.seq (FW.region ?_)))
       refine FL.v (E.move (v := Value.int .i64 ((PF.laws_markResStepS r110 ((PF.laws_markCnf r86 1).2)).2)) rfl) ?_
       refine FL.v (E.lss rfl rfl) ?_
       refine FL.v (E.move (v := Value.bool (decide ((PF.laws_markResStepS r110 ((PF.laws_markCnf r86 1).2)).2 < 0))) rfl) ?_
       obtain ⟨t261, hqt261, hp⟩ := bnd hp
       refine FL.cut 5 (fun f w => ∃ H : GH, St Ha wa H w [] ∧ Inc H244 H ∧ f 0 = Value.int .i64 a0 ∧ f 2 = v2 ∧ f 4 = Value.pointer (some ⟨wa.heap.size, 0, none⟩) ∧ f 8 = v80 ∧ f 9 = Value.bool r74.2 ∧ f 12 = v135 ∧ f 13 = Value.bool r129.2 ∧ f 81 = Value.bool t261) ?_ ?_
       ·
        clear hp; have hp := hqt261; clear hqt261
        rcases ifB hp with ⟨c267, hp⟩ | ⟨c267, hp⟩
        ·
         refine FL.skip (wF_no rfl rfl rfl c267) rfl ?_
         refine FL.skip (wF_no rfl rfl rfl c267) rfl ?_
         refine FL.skip (wF_no rfl rfl rfl c267) rfl ?_
         refine FL.skip (wF_no rfl rfl rfl c267) rfl ?_
         obtain rfl := Option.some.inj hp
         refine FL.v (E.pickT rfl c267 rfl) ?_
         exact FL.nil ⟨rfl, _, S246, (Inc.rfl _), k190, k191, k192, k193, k194, k197, k198, rfl⟩
        ·
         refine FL.val (wF_yes rfl rfl rfl c267) rfl rfl (E.move k197) ?_
         refine FL.val (wF_yes rfl rfl rfl c267) rfl rfl (E.move k193) ?_
         obtain ⟨r268, hr269, hp⟩ := bnd hp
         refine FL.call (wF_yes rfl rfl rfl c267) rfl rfl (E.call Tryz.call45 (A2 rfl rfl)) (w_laws_eqPcStepS S246.sl v135 r129.1 (f259.mono sgI) v80 r74.1 (f254.mono sgI) hr269) ?_
         rintro e w270 ⟨rfl, r271⟩
         refine ⟨_, rfl, ?_⟩
         have S272 := S246.call r271
         have z273 := r271.bel.size
         refine FL.val (wF_yes rfl rfl rfl c267) rfl rfl (E.not rfl) ?_
         obtain rfl := Option.some.inj hp
         refine FL.v (E.pickF rfl c267 rfl) ?_
         exact FL.nil ⟨rfl, _, S272, (Inc.rfl _), k190, k191, k192, k193, k194, k197, k198, rfl⟩
       rintro f266 w265 ⟨H262, S263, i264, k274, k275, k276, k277, k278, k279, k280, k281⟩
       refine FL.v (E.move k281) ?_
       refine FL.cut 4 (fun f w => ∃ H : GH, St Ha wa H w [] ∧ Inc H262 H ∧ f 0 = Value.int .i64 a0 ∧ f 2 = v2 ∧ f 4 = Value.pointer (some ⟨wa.heap.size, 0, none⟩) ∧ f 8 = v80 ∧ f 9 = Value.bool r74.2 ∧ f 12 = v135 ∧ f 86 = Value.bool (bif t261 then true else (!(r129.2 == r74.2)))) ?_ ?_
       ·
        rcases bcase t261 with c287 | c287
        ·
         refine FL.skip (wF_no rfl rfl rfl c287) rfl ?_
         refine FL.skip (wF_no rfl rfl rfl c287) rfl ?_
         refine FL.skip (wF_no rfl rfl rfl c287) rfl ?_
         refine FL.v (E.pickT rfl c287 rfl) ?_
         exact FL.nil ⟨rfl, _, S263, (Inc.rfl _), k274, k275, k276, k277, k278, k279, (congrArg Value.bool (bifT c287).symm)⟩
        ·
         refine FL.val (wF_yes rfl rfl rfl c287) rfl rfl (E.move k280) ?_
         refine FL.val (wF_yes rfl rfl rfl c287) rfl rfl (E.move k278) ?_
         refine FL.val (wF_yes rfl rfl rfl c287) rfl rfl (E.neqB Tryz.runUnderlying4 rfl rfl) ?_
         refine FL.v (E.pickF rfl c287 rfl) ?_
         exact FL.nil ⟨rfl, _, S263, (Inc.rfl _), k274, k275, k276, k277, k278, k279, (congrArg Value.bool (bifF c287).symm)⟩
       rintro f286 w285 ⟨H282, S283, i284, k288, k289, k290, k291, k292, k293, k294⟩
       refine FL.nil ?_
       rcases ifB hp with ⟨c295, hp⟩ | ⟨c295, hp⟩
       ·
        refine FW.condT k294 c295 ?_
        refine FW.seq (FW.region ?_)
        refine FL.v (E.assign (v := Value.bool false) rfl) ?_
        refine FL.nil ?_
        refine FW.ret ?_
        obtain rfl := Option.some.inj hp
        exact ⟨.inr rfl, res1 rfl rfl ⟨rfl, S283.back⟩⟩
       ·
        refine FW.condF k294 c295 ?_
        refine FW.skip (FW.seq (FW.region ?_))
        refine FL.v (E.assign (v := Value.int .i64 1) rfl) ?_
        refine FL.nil (FW.seq (FW.region ?_))
        refine FL.v (E.move k293) ?_
        refine FL.v (E.move (v := Value.int .i64 1) rfl) ?_
        refine FL.call rfl rfl rfl (E.call Tryz.call46 (A2 rfl rfl)) (w_laws_markPcStepS S283 hs v135 r129.1 c138 (f260.mono (sg_up (by omega) (i264.tr i284))) 1) ?_
        rintro e w297 ⟨H296, c302, rfl, S298, ns304, hb303, o300⟩
        refine ⟨_, rfl, ?_⟩
        have o301 := (f260.mono (sg_mono (hi := w132.heap.size) (i264.tr i284))).outside o300
        have ns304 := f260.span ePcStep_loc (by omega) ns304 hb303
        have h299 := ns304.rsl
        have f305 := f253.mono ((sg_mono (lo := wa.heap.size) (hi := wa.heap.size + 1) (i264.tr i284)).tr (sg_keep o301 (by omega)))
        have f306 := f254.mono ((sg_mono (lo := w58.heap.size) (hi := w77.heap.size) (i264.tr i284)).tr (sg_keep o301 (by omega)))
        have f307 := f255.mono ((sg_mono (lo := w58.heap.size) (hi := w77.heap.size) (i264.tr i284)).tr (sg_keep o301 (by omega)))
        refine FL.v (E.assign (v := Value.int .i64 ((PF.laws_markPcStepS r129.1 1).2)) rfl) ?_
        refine FL.nil (FW.seq (FW.region ?_))
        refine FL.v (E.assign (v := Value.int .i64 1) rfl) ?_
        refine FL.nil (FW.seq (FW.region ?_))
        refine FL.v (E.move k293) ?_
        refine FL.v (E.move (v := Value.int .i64 1) rfl) ?_
        obtain ⟨r308, hr309, hp⟩ := bnd hp
        refine FL.call rfl rfl rfl (E.call Tryz.call47 (A2 rfl rfl)) (w_laws_heldPcStepS S298.sl v135 ((PF.laws_markPcStepS r129.1 1).1) (h299.mono sgI) 1 hr309) ?_
        rintro e w310 ⟨rfl, r311⟩
        refine ⟨_, rfl, ?_⟩
        have S312 := S298.call r311
        have z313 := r311.bel.size
        refine FL.v (E.assign (v := Value.int .i64 r308) rfl) ?_
        refine FL.nil (FW.seq (FW.seq (FW.region ?_)))
        refine FL.v (E.move (v := Value.int .i64 r308) rfl) ?_
        refine FL.v (E.lss rfl rfl) ?_
        refine FL.nil ?_
        rcases ifB hp with ⟨c314, hp⟩ | ⟨c314, hp⟩
        ·
         refine FW.condT rfl c314 ?_
         refine FW.seq (FW.region ?_)
         refine FL.v (E.assign (v := Value.bool false) rfl) ?_
         refine FL.nil ?_
         refine FW.ret ?_
         obtain rfl := Option.some.inj hp
         exact ⟨.inr rfl, res1 rfl rfl ⟨rfl, S312.back⟩⟩
        ·
         refine FW.condF rfl c314 ?_
         refine FW.skip (FW.seq (FW.seq (FW.region ?_)))
         refine FL.v (E.move (v := Value.int .i64 r308) rfl) ?_
         refine FL.v (E.move (v := Value.int .i64 ((PF.laws_markPcStepS r129.1 1).2)) rfl) ?_
         refine FL.v (E.neq rfl rfl) ?_
         refine FL.nil ?_
         rcases ifB hp with ⟨c315, hp⟩ | ⟨c315, hp⟩
         ·
          refine FW.condT rfl c315 ?_
          refine FW.seq (FW.region ?_)
          refine FL.v (E.assign (v := Value.bool false) rfl) ?_
          refine FL.nil ?_
          refine FW.ret ?_
          obtain rfl := Option.some.inj hp
          exact ⟨.inr rfl, res1 rfl rfl ⟨rfl, S312.back⟩⟩
         ·
          refine FW.condF rfl c315 ?_
          refine FW.skip (FW.seq (FW.region ?_))
          refine FL.v (E.move k288) ?_
          refine FL.v (E.load k290 (run_loadA Tryz.isAgg24 Tryz.sizeOf24 ((f305.mono sgI).now S312.sl) rfl)) ?_
          obtain ⟨r316, hr317, hp⟩ := bnd hp
          refine FL.call rfl rfl rfl (E.call Tryz.call18 (A1 rfl)) (w_laws_toCnf S312.sl a1 v1_1 (p1_1.mono S298.inc) hr317) ?_
          rintro e w319 ⟨H318, v322, rfl, r321, ⟨c325, ns324⟩⟩
          refine ⟨_, rfl, ?_⟩
          have h323 := ns324.rsl
          have nv326 : New H296 [v322] := New.of_up S312.sl h323.dom
          have S320 := S312.call r321
          have z327 := r321.bel.size
          have h323 := h323.mono (sg_of S320.sl)
          have ns324 := ns324.mono (sg_of S320.sl)
          refine FL.v (E.move k289) ?_
          obtain ⟨r328, hr329, hp⟩ := bnd hp
          refine FL.call rfl rfl rfl (E.call Tryz.call19 (A1 rfl)) (w_laws_toResStepS S320.sl v2 a2 (p2.mono (S298.inc.tr r321.inc)) hr329) ?_
          rintro e w331 ⟨H330, v334, n335, cs336, rfl, r333, els337, nd338⟩
          refine ⟨_, rfl, ?_⟩
          have nv339 : New H318 cs336 := New.of_up S320.sl els337.dom
          obtain ⟨H340, r341, i342, ns345, nv344⟩ := r333.sealRowN (i := 0) (l' := []) rfl els337 nd338 (by decide) rfl
          have h343 := ns345.rsl
          have S332 := S320.call r341.run
          have z346 := r341.run.bel.size
          have h343 := h343.mono (sg_of S332.sl)
          have ns345 := ns345.mono (sg_of S332.sl)
          obtain ⟨r347, hr348, hp⟩ := bnd hp
          refine FL.call rfl rfl rfl (E.call Tryz.call44 (A3 rfl rfl rfl)) (w_impl_ResToPc S332.sl a0 r316 v322 (h323.mono (sgI.tr r341.run.inc)) v334 r328 (h343.mono sgI) hr348) ?_
          rintro e w350 ⟨H349, v353, rfl, r352, ⟨c356, ns355⟩⟩
          refine ⟨_, rfl, ?_⟩
          have h354 := ns355.rsl
          have nv357 : New H340 [v353] := New.of_up S332.sl h354.dom
          have S351 := S332.call r352
          have z358 := r352.bel.size
          have h354 := h354.mono (sg_of S351.sl)
          have ns355 := ns355.mono (sg_of S351.sl)
          refine FL.v (E.move (v := Value.tuple #[v353, Value.bool r347.2]) rfl) ?_
          refine FL.v (E.extract (i := 0) rfl rfl) ?_
          refine FL.v (E.extract (i := 1) rfl rfl) ?_
          refine FL.v (E.assign (v := v353) rfl) ?_
          refine FL.v (E.assign (v := Value.bool r347.2) rfl) ?_
          refine FL.nil (FW.seq (FW.seq (FW.region ?_)))
          refine FL.v (E.move (v := v353) rfl) ?_
          refine FL.v (E.move k291) ?_
          obtain ⟨r359, hr360, hp⟩ := bnd hp
          refine FL.call rfl rfl rfl (E.call Tryz.call45 (A2 rfl rfl)) (w_laws_eqPcStepS S351.sl v353 r347.1 (h354.mono sgI) v80 r74.1 (f306.mono (sgI.tr ((r321.inc.tr r341.run.inc).tr r352.inc))) hr360) ?_
          rintro e w361 ⟨rfl, r362⟩
          refine ⟨_, rfl, ?_⟩
          have S363 := S351.call r362
          have z364 := r362.bel.size
          refine FL.v (E.not rfl) ?_
          refine FL.v (E.move (v := Value.bool (!r359)) rfl) ?_
          refine FL.cut 4 (fun f w => ∃ H : GH, St Ha wa H w [] ∧ Inc H349 H ∧ f 12 = v135 ∧ f 15 = Value.int .i64 ((PF.laws_markPcStepS r129.1 1).2) ∧ f 115 = Value.bool (bif (!r359) then true else (!(r347.2 == r74.2)))) ?_ ?_
          ·
           rcases bcase (!r359) with c370 | c370
           ·
            refine FL.skip (wF_no rfl rfl rfl c370) rfl ?_
            refine FL.skip (wF_no rfl rfl rfl c370) rfl ?_
            refine FL.skip (wF_no rfl rfl rfl c370) rfl ?_
            refine FL.v (E.pickT rfl c370 rfl) ?_
            exact FL.nil ⟨rfl, _, S363, (Inc.rfl _), k293, rfl, (congrArg Value.bool (bifT c370).symm)⟩
           ·
            refine FL.val (wF_yes rfl rfl rfl c370) rfl rfl (E.move (v := Value.bool r347.2) rfl) ?_
            refine FL.val (wF_yes rfl rfl rfl c370) rfl rfl (E.move k292) ?_
            refine FL.val (wF_yes rfl rfl rfl c370) rfl rfl (E.neqB Tryz.runUnderlying4 rfl rfl) ?_
            refine FL.v (E.pickF rfl c370 rfl) ?_
            exact FL.nil ⟨rfl, _, S363, (Inc.rfl _), k293, rfl, (congrArg Value.bool (bifF c370).symm)⟩
          rintro f369 w368 ⟨H365, S366, i367, k371, k372, k373⟩
          refine FL.nil ?_
          rcases ifB hp with ⟨c374, hp⟩ | ⟨c374, hp⟩
          ·
           refine FW.condT k373 c374 ?_
           refine FW.seq (FW.region ?_)
           refine FL.v (E.assign (v := Value.bool false) rfl) ?_
           refine FL.nil ?_
           refine FW.ret ?_
           obtain rfl := Option.some.inj hp
           exact ⟨.inr rfl, res1 rfl rfl ⟨rfl, S366.back⟩⟩
          ·
           refine FW.condF k373 c374 ?_
           refine FW.skip (FW.seq (FW.region ?_))
           refine FL.v (E.assign (v := Value.int .i64 1) rfl) ?_
           refine FL.nil (FW.seq (FW.region ?_))
           refine FL.v (E.move k371) ?_
           refine FL.v (E.move (v := Value.int .i64 1) rfl) ?_
           obtain ⟨r375, hr376, hp⟩ := bnd hp
           refine FL.call rfl rfl rfl (E.call Tryz.call47 (A2 rfl rfl)) (w_laws_heldPcStepS S366.sl v135 ((PF.laws_markPcStepS r129.1 1).1) (h299.mono (sgI.tr (((r321.inc.tr r341.run.inc).tr r352.inc).tr i367))) 1 hr376) ?_
           rintro e w377 ⟨rfl, r378⟩
           refine ⟨_, rfl, ?_⟩
           have S379 := S366.call r378
           have z380 := r378.bel.size
           refine FL.v (E.assign (v := Value.int .i64 r375) rfl) ?_
           refine FL.nil (FW.seq (FW.seq (FW.region ?_)))
           refine FL.v (E.move (v := Value.int .i64 r375) rfl) ?_
           refine FL.v (E.lss rfl rfl) ?_
           refine FL.nil ?_
           rcases ifB hp with ⟨c381, hp⟩ | ⟨c381, hp⟩
           ·
            refine FW.condT rfl c381 ?_
            refine FW.seq (FW.region ?_)
            refine FL.v (E.assign (v := Value.bool false) rfl) ?_
            refine FL.nil ?_
            refine FW.ret ?_
            obtain rfl := Option.some.inj hp
            exact ⟨.inr rfl, res1 rfl rfl ⟨rfl, S379.back⟩⟩
           ·
            refine FW.condF rfl c381 ?_
            refine FW.skip (FW.seq (FW.seq (FW.region ?_)))
            refine FL.v (E.move (v := Value.int .i64 r375) rfl) ?_
            refine FL.v (E.move k372) ?_
            refine FL.v (E.neq rfl rfl) ?_
            refine FL.nil ?_
            rcases ifB hp with ⟨c382, hp⟩ | ⟨c382, hp⟩
            ·
             refine FW.condT rfl c382 ?_
             refine FW.seq (FW.region ?_)
             refine FL.v (E.assign (v := Value.bool false) rfl) ?_
             refine FL.nil ?_
             refine FW.ret ?_
             obtain rfl := Option.some.inj hp
             exact ⟨.inr rfl, res1 rfl rfl ⟨rfl, S379.back⟩⟩
            ·
             refine FW.condF rfl c382 ?_
             refine FW.skip (FW.seq (FW.region ?_))
             refine FL.v (E.assign (v := Value.bool true) rfl) ?_
             refine FL.nil ?_
             refine FW.ret ?_
             obtain rfl := Option.some.inj hp
             exact ⟨.inr rfl, res1 rfl rfl ⟨rfl, S379.back⟩⟩

end Go.Proofs
