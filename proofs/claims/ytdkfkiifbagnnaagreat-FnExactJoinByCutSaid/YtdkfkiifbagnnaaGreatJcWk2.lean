/- Part of the walks and plain laws behind the claim: it proves helpers, under no condition beyond their own. -/
import Derived.Test.YtdkfkiifbagnnaaGreatJcWk1
set_option linter.unusedVariables false
set_option maxRecDepth 100000
namespace Go.Proofs
open Go.Mr Go.Pu Go.PF Go.RowKit

@[reducible] def p_spec_l23Uses (Ha : GH) (wa : World) (r : (List Int)) : Ending → World → Prop :=
 fun e w' => ∃ H' : GH, ∃ v0 : Value, ∃ n0 : Nat, ∃ c0 : List Value, e = .returned (v0) ∧ St Ha wa H' w' [.row 3 1 v0 n0 c0] ∧ Els (up wa.heap.size H') eI 1 c0 r
set_option maxHeartbeats 4000000 in
theorem w_spec_l23Uses {Ha : GH} {wa : World} (hs : Sl Ha wa) (a0 : SeqStep) (v0_0 : Value) (p0_0 : RSl Ha eS 1 v0_0 a0.seq.left) (v0_1 : Value) (p0_1 : RSl Ha eS 1 v0_1 a0.seq.right) :
  Calls Tryz.prog 59 #[Value.agg #[v0_0, v0_1, Value.int .i64 a0.rule, Value.string a0.main, Value.int .i64 a0.a, Value.int .i64 a0.b]] wa (p_spec_l23Uses Ha wa (PF.spec_l23Uses a0)) := by
 obtain ⟨r, hp⟩ : ∃ r, (PF.spec_l23Uses a0) = r := ⟨_, rfl⟩
 rw [hp]
 unfold PF.spec_l23Uses at hp
 have S0 := St.init hs
 refine calls_go (N := 21) (args := [Value.agg #[v0_0, v0_1, Value.int .i64 a0.rule, Value.string a0.main, Value.int .i64 a0.a, Value.int .i64 a0.b]]) Tryz.func59 rfl rfl rfl ?_
 refine FW.seq (FW.region ?_)
 obtain ⟨b21, w22, run23, S24⟩ := S0.box (P := Tryz.prog) 74 [v0_0, v0_1, Value.int .i64 a0.rule, Value.string a0.main, Value.int .i64 a0.a, Value.int .i64 a0.b] (v := Value.agg #[v0_0, v0_1, Value.int .i64 a0.rule, Value.string a0.main, Value.int .i64 a0.a, Value.int .i64 a0.b]) rfl (ones_cons p0_0.one (ones_cons p0_1.one (ones_cons rfl (ones_cons rfl (ones_cons rfl (ones_cons rfl ones_nil))))))
 refine FL.v (E.box rfl run23) ?_
 obtain ⟨H25, S26, i27, at28⟩ := S24.sealBox (i := 0) (l' := []) rfl rfl
 refine FL.v (E.assign (v := Value.slice none 0 0) rfl) ?_
 refine FL.nil (FW.seq (FW.seq (FW.region ?_)))
 refine FL.v (E.fieldAddr tf74_1 rfl) ?_
 refine FL.v (E.load rfl (run_load1 Tryz.isAgg3 (at28.now S26.sl) rfl)) ?_
 refine FL.nil (FW.block (FW.seq (FW.region ?_)))
 refine FL.v (E.eql rfl rfl) ?_
 refine FL.v (E.assign (v := Value.bool (a0.rule == 1)) rfl) ?_
 refine FL.nil ?_
 rcases ifT hp with ⟨c29, hp⟩ | ⟨c29, hp⟩
 ·
  refine FW.condT rfl c29 ?_
  refine FW.seq (FW.region ?_)
  obtain ⟨v30, w31, run32, S33⟩ := S26.buildSlice (P := Tryz.prog) te82 [] (parts := #[]) (cells := []) rfl szs_nil fc_nil ones_nil (Nat.le_of_ble_eq_true rfl)
  have els34 : Els (up wa.heap.size H25) eI 1 [] [] := Els.nil
  refine FL.v (E.buildSlice (B0) run32) ?_
  refine FL.v (E.assign (v := v30) rfl) ?_
  refine FL.nil ?_
  refine FW.ret ?_
  obtain rfl := hp
  exact ⟨.inr rfl, res1 rfl rfl ⟨_, _, _, _, rfl, S33, els34⟩⟩
 ·
  refine FW.condF rfl c29 ?_
  refine FW.seq (FW.seq (FW.region ?_))
  refine FL.v (E.eql rfl rfl) ?_
  refine FL.v (E.assign (v := Value.bool (a0.rule == 5)) rfl) ?_
  refine FL.nil ?_
  rcases ifT hp with ⟨c35, hp⟩ | ⟨c35, hp⟩
  ·
   refine FW.condT rfl c35 ?_
   refine FW.skip ?_
   refine FW.condT rfl c35 ?_
   refine FW.seq (FW.region ?_)
   refine FL.v (E.fieldAddr tf74_3 rfl) ?_
   refine FL.v (E.load rfl (run_load1 Tryz.isAgg3 (at28.now S26.sl) rfl)) ?_
   refine FL.v (E.fieldAddr tf74_4 rfl) ?_
   refine FL.v (E.load rfl (run_load1 Tryz.isAgg3 (at28.now S26.sl) rfl)) ?_
   obtain ⟨v36, w37, run38, S39, els40⟩ := S26.ints (P := Tryz.prog) te82 (up wa.heap.size H25) 2 [a0.a, a0.b]
   refine FL.v (E.buildSlice (B2 rfl rfl) run38) ?_
   refine FL.v (E.assign (v := v36) rfl) ?_
   refine FL.nil ?_
   refine FW.ret ?_
   obtain rfl := hp
   exact ⟨.inr rfl, res1 rfl rfl ⟨_, _, _, _, rfl, S39, els40⟩⟩
  ·
   refine FW.condF rfl c35 ?_
   refine FW.seq (FW.region ?_)
   refine FL.v (E.eql rfl rfl) ?_
   refine FL.v (E.assign (v := Value.bool (a0.rule == 6)) rfl) ?_
   refine FL.nil ?_
   rcases ifT hp with ⟨c41, hp⟩ | ⟨c41, hp⟩
   ·
    refine FW.condT rfl c41 ?_
    refine FW.skip ?_
    refine FW.condT rfl c41 ?_
    refine FW.seq (FW.region ?_)
    refine FL.v (E.fieldAddr tf74_3 rfl) ?_
    refine FL.v (E.load rfl (run_load1 Tryz.isAgg3 (at28.now S26.sl) rfl)) ?_
    refine FL.v (E.fieldAddr tf74_4 rfl) ?_
    refine FL.v (E.load rfl (run_load1 Tryz.isAgg3 (at28.now S26.sl) rfl)) ?_
    obtain ⟨v42, w43, run44, S45, els46⟩ := S26.ints (P := Tryz.prog) te82 (up wa.heap.size H25) 2 [a0.a, a0.b]
    refine FL.v (E.buildSlice (B2 rfl rfl) run44) ?_
    refine FL.v (E.assign (v := v42) rfl) ?_
    refine FL.nil ?_
    refine FW.ret ?_
    obtain rfl := hp
    exact ⟨.inr rfl, res1 rfl rfl ⟨_, _, _, _, rfl, S45, els46⟩⟩
   ·
    refine FW.condF rfl c41 ?_
    refine FW.seq (FW.region ?_)
    refine FL.v (E.eql rfl rfl) ?_
    refine FL.v (E.assign (v := Value.bool (a0.rule == 8)) rfl) ?_
    refine FL.nil ?_
    rcases ifT hp with ⟨c47, hp⟩ | ⟨c47, hp⟩
    ·
     refine FW.condT rfl c47 ?_
     refine FW.skip ?_
     refine FW.condT rfl c47 ?_
     refine FW.seq (FW.region ?_)
     refine FL.v (E.fieldAddr tf74_3 rfl) ?_
     refine FL.v (E.load rfl (run_load1 Tryz.isAgg3 (at28.now S26.sl) rfl)) ?_
     refine FL.v (E.fieldAddr tf74_4 rfl) ?_
     refine FL.v (E.load rfl (run_load1 Tryz.isAgg3 (at28.now S26.sl) rfl)) ?_
     obtain ⟨v48, w49, run50, S51, els52⟩ := S26.ints (P := Tryz.prog) te82 (up wa.heap.size H25) 2 [a0.a, a0.b]
     refine FL.v (E.buildSlice (B2 rfl rfl) run50) ?_
     refine FL.v (E.assign (v := v48) rfl) ?_
     refine FL.nil ?_
     refine FW.ret ?_
     obtain rfl := hp
     exact ⟨.inr rfl, res1 rfl rfl ⟨_, _, _, _, rfl, S51, els52⟩⟩
    ·
     refine FW.condF rfl c47 ?_
     refine FW.region ?_
     refine FL.v (E.eql rfl rfl) ?_
     refine FL.v (E.assign (v := Value.bool (a0.rule == 11)) rfl) ?_
     refine FL.nil ?_
     rcases ifT hp with ⟨c53, hp⟩ | ⟨c53, hp⟩
     ·
      refine FW.condT rfl c53 ?_
      refine FW.seq (FW.region ?_)
      refine FL.v (E.fieldAddr tf74_3 rfl) ?_
      refine FL.v (E.load rfl (run_load1 Tryz.isAgg3 (at28.now S26.sl) rfl)) ?_
      refine FL.v (E.fieldAddr tf74_4 rfl) ?_
      refine FL.v (E.load rfl (run_load1 Tryz.isAgg3 (at28.now S26.sl) rfl)) ?_
      obtain ⟨v54, w55, run56, S57, els58⟩ := S26.ints (P := Tryz.prog) te82 (up wa.heap.size H25) 2 [a0.a, a0.b]
      refine FL.v (E.buildSlice (B2 rfl rfl) run56) ?_
      refine FL.v (E.assign (v := v54) rfl) ?_
      refine FL.nil ?_
      refine FW.ret ?_
      obtain rfl := hp
      exact ⟨.inr rfl, res1 rfl rfl ⟨_, _, _, _, rfl, S57, els58⟩⟩
     ·
      refine FW.condF rfl c53 ?_
      refine FW.skip (FW.seq (FW.region ?_))
      refine FL.v (E.fieldAddr tf74_3 rfl) ?_
      refine FL.v (E.load rfl (run_load1 Tryz.isAgg3 (at28.now S26.sl) rfl)) ?_
      obtain ⟨v59, w60, run61, S62, els63⟩ := S26.ints (P := Tryz.prog) te82 (up wa.heap.size H25) 1 [a0.a]
      refine FL.v (E.buildSlice (B1 rfl) run61) ?_
      refine FL.v (E.assign (v := v59) rfl) ?_
      refine FL.nil ?_
      refine FW.ret ?_
      obtain rfl := hp
      exact ⟨.inr rfl, res1 rfl rfl ⟨_, _, _, _, rfl, S62, els63⟩⟩

@[reducible] def p_spec_l25Behind (Ha : GH) (wa : World) (r : (List SeqStep)) : Ending → World → Prop :=
 fun e w' => ∃ H' : GH, ∃ v0 : Value, ∃ n0 : Nat, ∃ c0 : List Value, e = .returned (v0) ∧ St Ha wa H' w' [.row 74 6 v0 n0 c0] ∧ Els (up wa.heap.size H') eSeqStep 6 c0 r ∧ (bl c0).Nodup
set_option maxHeartbeats 4000000 in
theorem w_spec_l25Behind {Ha : GH} {wa : World} (hs : Sl Ha wa) (v0 : Value) (a0 : List SeqStep) (p0 : RSl Ha eSeqStep 6 v0 a0) (v1 : Value) (a1 : List SeqStep) (p1 : RSl Ha eSeqStep 6 v1 a1) {r : (List SeqStep)} (hp : (PF.spec_l25Behind a0 a1) = some r) :
  Calls Tryz.prog 64 #[v0, v1] wa (p_spec_l25Behind Ha wa r) := by
 unfold PF.spec_l25Behind at hp
 have S0 := St.init hs
 refine calls_go (N := 69) (args := [v0, v1]) Tryz.func64 rfl rfl rfl ?_
 refine FW.seq (FW.region ?_)
 refine FL.v (E.assign (v := Value.slice none 0 0) rfl) ?_
 refine FL.nil (FW.seq (FW.region ?_))
 obtain ⟨v21, w22, run23, S24⟩ := S0.buildSlice (P := Tryz.prog) te24 [] (parts := #[]) (cells := []) rfl szs_nil fc_nil ones_nil (Nat.le_of_ble_eq_true rfl)
 have els25 : Els (up wa.heap.size Ha) eSeqStep 6 [] [] := Els.nil
 refine FL.v (E.buildSlice (B0) run23) ?_
 refine FL.v (E.assign (v := v21) rfl) ?_
 refine FL.nil (FW.seq (FW.seq (FW.region ?_)))
 refine FL.v (E.assign (v := Value.int .i64 0) rfl) ?_
 refine FL.nil ?_
 obtain ⟨q27, hq, hp⟩ := bndR hp
 refine FW.block ?_
 refine FW.mono (FW.forL (S := (List SeqStep)) (X := Empty) (fun (i27 : Nat) (s27 : (List SeqStep)) f w => ∃ H : GH, ∃ v28 : Value, ∃ n29 : Nat, ∃ cs30 : List Value, St Ha wa H w [.row 74 6 v28 n29 cs30] ∧ Inc Ha H ∧ Els (up wa.heap.size H) eSeqStep 6 cs30 s27 ∧ (bl cs30).Nodup ∧ f 6 = Value.int .i64 ((i27 : Nat) : Int) ∧ f 0 = v0 ∧ f 1 = v1 ∧ f 5 = v28) (fun (q : Rs (List SeqStep) Empty) e f w => match q with | .go s27 => e = Exit.exit 0 ∧ (∃ H : GH, ∃ v28 : Value, ∃ n29 : Nat, ∃ cs30 : List Value, St Ha wa H w [.row 74 6 v28 n29 cs30] ∧ Inc Ha H ∧ Els (up wa.heap.size H) eSeqStep 6 cs30 s27 ∧ (bl cs30).Nodup ∧ f 0 = v0 ∧ f 1 = v1 ∧ f 5 = v28) | .rt x => x.elim) hq ⟨_, _, _, _, S24, (Inc.rfl _), els25, (show (bl []).Nodup from List.nodup_nil), rfl, rfl, rfl, rfl⟩ ?_ ?_) ?_
 ·
  clear hp hq
  rintro i27 y26 s27 f108 w107 ⟨H104, v28, n29, cs30, S105, i106, els31, nd32, k109, k110, k111, k112⟩ hx27 o175 hp
  refine FW.seq (FW.seq (FW.region ?_))
  refine FL.v (E.move k109) ?_
  refine FL.v (E.move k110) ?_
  refine FL.v (E.lenP te24 rfl p0) ?_
  refine FL.v (E.lssT rfl rfl (lss_len hx27)) ?_
  refine FL.nil ?_
  refine FW.condT rfl rfl ?_
  refine FW.skip (FW.seq (FW.block (FW.seq (FW.region ?_))))
  refine FL.v (E.move k110) ?_
  refine FL.v (E.move k109) ?_
  obtain ⟨p113, cs114, pt115, l116, at117, rel118⟩ := p0.at (ix_nat hx27)
  obtain ⟨v119, v121, rfl, h120, h122⟩ := eSeqStep_open rel118
  refine FL.v (E.indexAddr te24 rfl rfl pt115) ?_
  refine FL.v (E.load rfl (run_loadA Tryz.isAgg74 Tryz.sizeOf74 ((at117.mono i106).now S105.sl) rfl)) ?_
  obtain ⟨b123, w124, run125, S126⟩ := S105.alloc (P := Tryz.prog) 74 [Value.slice none 0 0, Value.slice none 0 0, Value.int .i64 0, Value.string ByteArray.empty, Value.int .i64 0, Value.int .i64 0] Tryz.zeroValue74 rfl (ones_cons rfl (ones_cons rfl (ones_cons rfl (ones_cons rfl (ones_cons rfl (ones_cons rfl ones_nil))))))
  refine FL.v (E.alloc run125) ?_
  obtain ⟨w127, run128, S129⟩ := S126.store0 (P := Tryz.prog) (t := 74) (i := 0) (cs' := [v119, v121, Value.int .i64 y26.rule, Value.string y26.main, Value.int .i64 y26.a, Value.int .i64 y26.b]) (l' := [.box b123 74 [v119, v121, Value.int .i64 y26.rule, Value.string y26.main, Value.int .i64 y26.a, Value.int .i64 y26.b], .row 74 6 v28 n29 cs30]) (v := Value.agg #[v119, v121, Value.int .i64 y26.rule, Value.string y26.main, Value.int .i64 y26.a, Value.int .i64 y26.b]) (c := [v119, v121, Value.int .i64 y26.rule, Value.string y26.main, Value.int .i64 y26.a, Value.int .i64 y26.b]) rfl Tryz.sizeOf74 rfl rfl (ones_cons h120.one (ones_cons h122.one (ones_cons rfl (ones_cons rfl (ones_cons rfl (ones_cons rfl ones_nil)))))) (Nat.le_of_ble_eq_true rfl) rfl rfl
  refine FL.act rfl rfl (E.store rfl rfl run128) ?_
  refine FL.nil (FW.seq (FW.region ?_))
  refine FL.v (E.fieldAddr tf74_0 rfl) ?_
  refine FL.v (E.load rfl (run_loadA Tryz.isAgg68 Tryz.sizeOf68 ((S129.box_now (i := 0) rfl).sub (j := 0) (n := 2) (c := [v119, v121]) rfl) rfl)) ?_
  obtain ⟨r130, hr131, hp⟩ := bnd hp
  refine FL.call rfl rfl rfl (E.call Tryz.call60 (A1 rfl)) (w_spec_l23Own S129.sl y26.seq v119 (h120.mono i106) v121 (h122.mono i106) hr131) ?_
  rintro e w133 ⟨H132, v136, v142, rfl, r135, ⟨c139, c145, ns138, ns144, ap148⟩⟩
  refine ⟨_, rfl, ?_⟩
  have h137 := ns138.rsl
  have nv140 : New H104 c139 := New.of_up S129.sl (fun b hb => ns138.dom b (.inr hb))
  have nv141 : New H104 [v136] := New.of_up S129.sl h137.dom
  have h137 := h137.mono (up_le S129.size)
  have ns138 := ns138.mono (up_le S129.size)
  have h143 := ns144.rsl
  have nv146 : New H104 c145 := New.of_up S129.sl (fun b hb => ns144.dom b (.inr hb))
  have nv147 : New H104 [v142] := New.of_up S129.sl h143.dom
  have h143 := h143.mono (up_le S129.size)
  have ns144 := ns144.mono (up_le S129.size)
  have S134 := S129.call r135
  refine FL.v (E.fieldAddr tf74_0 rfl) ?_
  obtain ⟨w149, run150, S151⟩ := S134.store (P := Tryz.prog) (t := 68) (i := 0) (j := 0) (cs' := [v136, v142, Value.int .i64 y26.rule, Value.string y26.main, Value.int .i64 y26.a, Value.int .i64 y26.b]) (l' := [.box b123 74 [v136, v142, Value.int .i64 y26.rule, Value.string y26.main, Value.int .i64 y26.a, Value.int .i64 y26.b], .row 74 6 v28 n29 cs30]) (v := Value.agg #[v136, v142]) (c := [v136, v142]) rfl Tryz.sizeOf68 rfl rfl (ones_cons h137.one (ones_cons h143.one ones_nil)) (Nat.le_of_ble_eq_true rfl) rfl rfl
  refine FL.act rfl rfl (E.store rfl rfl run150) ?_
  obtain ⟨H152, S153, i154, at155⟩ := S151.sealBox (i := 0) (l' := [.row 74 6 v28 n29 cs30]) rfl rfl
  refine FL.nil (FW.region ?_)
  refine FL.v (E.move k112) ?_
  refine FL.v (E.load rfl (run_loadA Tryz.isAgg74 Tryz.sizeOf74 (at155.now S153.sl) rfl)) ?_
  obtain ⟨v156, w157, run158, S159⟩ := S153.buildSlice (P := Tryz.prog) te24 [Value.agg #[v136, v142, Value.int .i64 y26.rule, Value.string y26.main, Value.int .i64 y26.a, Value.int .i64 y26.b]] (parts := #[(0, Value.agg #[v136, v142, Value.int .i64 y26.rule, Value.string y26.main, Value.int .i64 y26.a, Value.int .i64 y26.b])]) (cells := [v136, v142, Value.int .i64 y26.rule, Value.string y26.main, Value.int .i64 y26.a, Value.int .i64 y26.b]) rfl (szs_cons rfl szs_nil) (fc_cons rfl fc_nil) (ones_cons h137.one (ones_cons h143.one (ones_cons rfl (ones_cons rfl (ones_cons rfl (ones_cons rfl ones_nil)))))) (Nat.le_of_ble_eq_true rfl)
  have els160 : Els (up wa.heap.size H152) eSeqStep 6 [v136, v142, Value.int .i64 y26.rule, Value.string y26.main, Value.int .i64 y26.a, Value.int .i64 y26.b] [(SeqStep.mk r130 y26.rule y26.main y26.a y26.b)] := (Els.snoc (H := (up wa.heap.size H152)) (E := eSeqStep) (k := 6) (c := [v136, v142, Value.int .i64 y26.rule, Value.string y26.main, Value.int .i64 y26.a, Value.int .i64 y26.b]) (x := (SeqStep.mk r130 y26.rule y26.main y26.a y26.b)) Els.nil rfl ⟨_, _, rfl, (h137.mono (up_mono i154)), (h143.mono (up_mono i154))⟩)
  have nd161 : (bl [v136, v142, Value.int .i64 y26.rule, Value.string y26.main, Value.int .i64 y26.a, Value.int .i64 y26.b]).Nodup := by exact nd_two ap148.dis
  have nv162 : New H104 [v136, v142, Value.int .i64 y26.rule, Value.string y26.main, Value.int .i64 y26.a, Value.int .i64 y26.b] := by exact (New.two nv141 nv147)
  refine FL.v (E.buildSlice (B1 rfl) run158) ?_
  obtain ⟨xs163, hz164, hp⟩ := bnd hp
  obtain ⟨v165, w168, n166, cs167, run169, S170, els171, ce172⟩ := S159.appendO (P := Tryz.prog) te24 (i := 1) (j := 0) rfl (els31.mono (up_mono (r135.inc.tr i154))) rfl els160 hz164
  have S170 : St Ha wa H152 w168 [.row 74 6 v156 1 [v136, v142, Value.int .i64 y26.rule, Value.string y26.main, Value.int .i64 y26.a, Value.int .i64 y26.b], .row 74 6 v165 n166 cs167] := S170
  have nd173 : (bl cs167).Nodup := by rw [ce172]; exact nd_app nd32 nd161 (Els.dom (els31.mono (upI.tr (Inc.rfl _)))) (by exact nv162)
  have S174 : St Ha wa H152 w168 [.row 74 6 v165 n166 cs167] := S170.drop 0
  refine FL.v (E.append rfl rfl run169) ?_
  refine FL.v (E.assign (v := v165) rfl) ?_
  refine FL.nil (FW.region ?_)
  refine FL.v (E.move k109) ?_
  refine FL.v (E.add rfl rfl) ?_
  refine FL.v (E.assign (v := Value.int .i64 (wr (((i27 : Nat) : Int) + 1))) rfl) ?_
  refine FL.nil ?_
  obtain rfl := Option.some.inj hp
  exact ⟨rfl, ⟨_, _, _, _, S174, ((i106.tr r135.inc).tr i154), els171, nd173, (nat_succ rfl (lt_of_get hx27) (p0.mono ((i106.tr r135.inc).tr i154)).le), k110, k111, rfl⟩⟩
 ·
  clear hp hq
  rintro s27 f475 w474 ⟨H471, v28, n29, cs30, S472, i473, els31, nd32, k476, k477, k478, k479⟩
  refine FW.seq (FW.seq (FW.region ?_))
  refine FL.v (E.move k476) ?_
  refine FL.v (E.move k477) ?_
  refine FL.v (E.lenP te24 rfl p0) ?_
  refine FL.v (E.lss rfl rfl) ?_
  refine FL.nil ?_
  refine FW.condF rfl dlt_len ?_
  refine FW.exit ?_
  exact ⟨nofun, rfl, ⟨_, _, _, _, S472, i473, els31, nd32, k477, k478, k479⟩⟩
 ·
  clear hq
  intro e f180 w179 hD
  rcases q27 with s27 | x27
  ·
   obtain ⟨rfl, hD⟩ := hD
   obtain ⟨H176, v28, n29, cs30, S177, i178, els31, nd32, k181, k182, k183⟩ := hD
   replace hp := el_go hp
   refine FW.seq (FW.seq (FW.region ?_))
   refine FL.v (E.assign (v := Value.int .i64 0) rfl) ?_
   refine FL.nil ?_
   obtain ⟨q185, hq, hp⟩ := bndR hp
   refine FW.block ?_
   refine FW.mono (FW.forL (S := (List SeqStep)) (X := Empty) (fun (i185 : Nat) (s185 : (List SeqStep)) f w => ∃ H : GH, ∃ v186 : Value, ∃ n187 : Nat, ∃ cs188 : List Value, St Ha wa H w [.row 74 6 v186 n187 cs188] ∧ Inc H176 H ∧ Els (up wa.heap.size H) eSeqStep 6 cs188 s185 ∧ (bl cs188).Nodup ∧ f 8 = Value.int .i64 ((i185 : Nat) : Int) ∧ f 0 = v0 ∧ f 1 = v1 ∧ f 5 = v186) (fun (q : Rs (List SeqStep) Empty) e f w => match q with | .go s185 => e = Exit.exit 2 ∧ (∃ H : GH, ∃ v186 : Value, ∃ n187 : Nat, ∃ cs188 : List Value, St Ha wa H w [.row 74 6 v186 n187 cs188] ∧ Inc H176 H ∧ Els (up wa.heap.size H) eSeqStep 6 cs188 s185 ∧ (bl cs188).Nodup ∧ f 5 = v186) | .rt x => x.elim) hq ⟨_, _, _, _, S177, (Inc.rfl _), els31, nd32, rfl, k181, k182, k183⟩ ?_ ?_) ?_
   ·
    clear hp hq
    rintro i185 y184 s185 f311 w310 ⟨H307, v186, n187, cs188, S308, i309, els189, nd190, k312, k313, k314, k315⟩ hx185 o455 hp
    refine FW.seq (FW.seq (FW.region ?_))
    refine FL.v (E.move k312) ?_
    refine FL.v (E.move k314) ?_
    refine FL.v (E.lenP te24 rfl p1) ?_
    refine FL.v (E.lssT rfl rfl (lss_len hx185)) ?_
    refine FL.nil ?_
    refine FW.condT rfl rfl ?_
    refine FW.skip (FW.seq (FW.block (FW.seq (FW.region ?_))))
    refine FL.v (E.move k314) ?_
    refine FL.v (E.move k312) ?_
    obtain ⟨p316, cs317, pt318, l319, at320, rel321⟩ := p1.at (ix_nat hx185)
    obtain ⟨v322, v324, rfl, h323, h325⟩ := eSeqStep_open rel321
    refine FL.v (E.indexAddr te24 rfl rfl pt318) ?_
    refine FL.v (E.load rfl (run_loadA Tryz.isAgg74 Tryz.sizeOf74 ((at320.mono (i178.tr i309)).now S308.sl) rfl)) ?_
    obtain ⟨b326, w327, run328, S329⟩ := S308.alloc (P := Tryz.prog) 74 [Value.slice none 0 0, Value.slice none 0 0, Value.int .i64 0, Value.string ByteArray.empty, Value.int .i64 0, Value.int .i64 0] Tryz.zeroValue74 rfl (ones_cons rfl (ones_cons rfl (ones_cons rfl (ones_cons rfl (ones_cons rfl (ones_cons rfl ones_nil))))))
    refine FL.v (E.alloc run328) ?_
    obtain ⟨w330, run331, S332⟩ := S329.store0 (P := Tryz.prog) (t := 74) (i := 0) (cs' := [v322, v324, Value.int .i64 y184.rule, Value.string y184.main, Value.int .i64 y184.a, Value.int .i64 y184.b]) (l' := [.box b326 74 [v322, v324, Value.int .i64 y184.rule, Value.string y184.main, Value.int .i64 y184.a, Value.int .i64 y184.b], .row 74 6 v186 n187 cs188]) (v := Value.agg #[v322, v324, Value.int .i64 y184.rule, Value.string y184.main, Value.int .i64 y184.a, Value.int .i64 y184.b]) (c := [v322, v324, Value.int .i64 y184.rule, Value.string y184.main, Value.int .i64 y184.a, Value.int .i64 y184.b]) rfl Tryz.sizeOf74 rfl rfl (ones_cons h323.one (ones_cons h325.one (ones_cons rfl (ones_cons rfl (ones_cons rfl (ones_cons rfl ones_nil)))))) (Nat.le_of_ble_eq_true rfl) rfl rfl
    refine FL.act rfl rfl (E.store rfl rfl run331) ?_
    refine FL.nil (FW.seq (FW.region ?_))
    refine FL.v (E.fieldAddr tf74_0 rfl) ?_
    refine FL.v (E.load rfl (run_loadA Tryz.isAgg68 Tryz.sizeOf68 ((S332.box_now (i := 0) rfl).sub (j := 0) (n := 2) (c := [v322, v324]) rfl) rfl)) ?_
    obtain ⟨r333, hr334, hp⟩ := bnd hp
    refine FL.call rfl rfl rfl (E.call Tryz.call60 (A1 rfl)) (w_spec_l23Own S332.sl y184.seq v322 (h323.mono (i178.tr i309)) v324 (h325.mono (i178.tr i309)) hr334) ?_
    rintro e w336 ⟨H335, v339, v345, rfl, r338, ⟨c342, c348, ns341, ns347, ap351⟩⟩
    refine ⟨_, rfl, ?_⟩
    have h340 := ns341.rsl
    have nv343 : New H307 c342 := New.of_up S332.sl (fun b hb => ns341.dom b (.inr hb))
    have nv344 : New H307 [v339] := New.of_up S332.sl h340.dom
    have h340 := h340.mono (up_le S332.size)
    have ns341 := ns341.mono (up_le S332.size)
    have h346 := ns347.rsl
    have nv349 : New H307 c348 := New.of_up S332.sl (fun b hb => ns347.dom b (.inr hb))
    have nv350 : New H307 [v345] := New.of_up S332.sl h346.dom
    have h346 := h346.mono (up_le S332.size)
    have ns347 := ns347.mono (up_le S332.size)
    have S337 := S332.call r338
    refine FL.v (E.fieldAddr tf74_0 rfl) ?_
    obtain ⟨w352, run353, S354⟩ := S337.store (P := Tryz.prog) (t := 68) (i := 0) (j := 0) (cs' := [v339, v345, Value.int .i64 y184.rule, Value.string y184.main, Value.int .i64 y184.a, Value.int .i64 y184.b]) (l' := [.box b326 74 [v339, v345, Value.int .i64 y184.rule, Value.string y184.main, Value.int .i64 y184.a, Value.int .i64 y184.b], .row 74 6 v186 n187 cs188]) (v := Value.agg #[v339, v345]) (c := [v339, v345]) rfl Tryz.sizeOf68 rfl rfl (ones_cons h340.one (ones_cons h346.one ones_nil)) (Nat.le_of_ble_eq_true rfl) rfl rfl
    refine FL.act rfl rfl (E.store rfl rfl run353) ?_
    refine FL.nil (FW.seq (FW.region ?_))
    refine FL.v (E.load rfl (run_loadA Tryz.isAgg74 Tryz.sizeOf74 (S354.box_now (i := 0) rfl) rfl)) ?_
    refine FL.call rfl rfl rfl (E.call Tryz.call59 (A1 rfl)) (w_spec_l23Uses S354.sl (SeqStep.mk r333 y184.rule y184.main y184.a y184.b) v339 (h340.mono upI) v345 (h346.mono upI)) ?_
    rintro e w356 ⟨H355, v359, n360, cs361, rfl, r358, els362⟩
    refine ⟨_, rfl, ?_⟩
    have els362 := els362.mono (up_le S354.size)
    have S357 := S354.join (l' := [.row 3 1 v359 n360 cs361, .box b326 74 [v339, v345, Value.int .i64 y184.rule, Value.string y184.main, Value.int .i64 y184.a, Value.int .i64 y184.b], .row 74 6 v186 n187 cs188]) r358 rfl
    refine FL.v (E.assign (v := v359) rfl) ?_
    refine FL.nil (FW.seq (FW.seq (FW.region ?_)))
    refine FL.v (E.move (v := v359) rfl) ?_
    refine FL.v (E.lenO te82 rfl S357 (i := 0) rfl els362 (by decide)) ?_
    refine FL.v (E.gtr rfl rfl) ?_
    refine FL.nil ?_
    rcases ifB hp with ⟨c363, hp⟩ | ⟨c363, hp⟩
    ·
     refine FW.condT rfl c363 ?_
     refine FW.region ?_
     refine FL.v (E.fieldAddr tf74_3 rfl) ?_
     refine FL.v (E.load rfl (run_load1 Tryz.isAgg3 (S357.box_now (i := 1) rfl) rfl)) ?_
     refine FL.v (E.move k313) ?_
     refine FL.v (E.lenP te24 rfl p0) ?_
     refine FL.v (E.add rfl rfl) ?_
     refine FL.v (E.fieldAddr tf74_3 rfl) ?_
     obtain ⟨w364, run365, S366⟩ := S357.store (P := Tryz.prog) (t := 3) (i := 1) (j := 4) (cs' := [v339, v345, Value.int .i64 y184.rule, Value.string y184.main, Value.int .i64 (wr (y184.a + (len a0))), Value.int .i64 y184.b]) (l' := [.row 3 1 v359 n360 cs361, .box b326 74 [v339, v345, Value.int .i64 y184.rule, Value.string y184.main, Value.int .i64 (wr (y184.a + (len a0))), Value.int .i64 y184.b], .row 74 6 v186 n187 cs188]) (v := Value.int .i64 (wr (y184.a + (len a0)))) (c := [Value.int .i64 (wr (y184.a + (len a0)))]) rfl Tryz.sizeOf3 rfl rfl (ones_cons rfl ones_nil) (Nat.le_of_ble_eq_true rfl) rfl rfl
     refine FL.act rfl rfl (E.store rfl rfl run365) ?_
     refine FL.nil (FW.seq (FW.seq (FW.region ?_)))
     refine FL.v (E.move (v := v359) rfl) ?_
     refine FL.v (E.lenO te82 rfl S366 (i := 0) rfl els362 (by decide)) ?_
     refine FL.v (E.gtr rfl rfl) ?_
     refine FL.nil ?_
     rcases ifB hp with ⟨c367, hp⟩ | ⟨c367, hp⟩
     ·
      refine FW.condT rfl c367 ?_
      refine FW.region ?_
      refine FL.v (E.fieldAddr tf74_4 rfl) ?_
      refine FL.v (E.load rfl (run_load1 Tryz.isAgg3 (S366.box_now (i := 1) rfl) rfl)) ?_
      refine FL.v (E.move k313) ?_
      refine FL.v (E.lenP te24 rfl p0) ?_
      refine FL.v (E.add rfl rfl) ?_
      refine FL.v (E.fieldAddr tf74_4 rfl) ?_
      obtain ⟨w368, run369, S370⟩ := S366.store (P := Tryz.prog) (t := 3) (i := 1) (j := 5) (cs' := [v339, v345, Value.int .i64 y184.rule, Value.string y184.main, Value.int .i64 (wr (y184.a + (len a0))), Value.int .i64 (wr (y184.b + (len a0)))]) (l' := [.row 3 1 v359 n360 cs361, .box b326 74 [v339, v345, Value.int .i64 y184.rule, Value.string y184.main, Value.int .i64 (wr (y184.a + (len a0))), Value.int .i64 (wr (y184.b + (len a0)))], .row 74 6 v186 n187 cs188]) (v := Value.int .i64 (wr (y184.b + (len a0)))) (c := [Value.int .i64 (wr (y184.b + (len a0)))]) rfl Tryz.sizeOf3 rfl rfl (ones_cons rfl ones_nil) (Nat.le_of_ble_eq_true rfl) rfl rfl
      refine FL.act rfl rfl (E.store rfl rfl run369) ?_
      obtain ⟨H371, S372, i373, at374⟩ := S370.sealBox (i := 1) (l' := [.row 3 1 v359 n360 cs361, .row 74 6 v186 n187 cs188]) rfl rfl
      refine FL.nil (FW.region ?_)
      refine FL.v (E.move k315) ?_
      refine FL.v (E.load rfl (run_loadA Tryz.isAgg74 Tryz.sizeOf74 (at374.now S372.sl) rfl)) ?_
      obtain ⟨v375, w376, run377, S378⟩ := S372.buildSlice (P := Tryz.prog) te24 [Value.agg #[v339, v345, Value.int .i64 y184.rule, Value.string y184.main, Value.int .i64 (wr (y184.a + (len a0))), Value.int .i64 (wr (y184.b + (len a0)))]] (parts := #[(0, Value.agg #[v339, v345, Value.int .i64 y184.rule, Value.string y184.main, Value.int .i64 (wr (y184.a + (len a0))), Value.int .i64 (wr (y184.b + (len a0)))])]) (cells := [v339, v345, Value.int .i64 y184.rule, Value.string y184.main, Value.int .i64 (wr (y184.a + (len a0))), Value.int .i64 (wr (y184.b + (len a0)))]) rfl (szs_cons rfl szs_nil) (fc_cons rfl fc_nil) (ones_cons h340.one (ones_cons h346.one (ones_cons rfl (ones_cons rfl (ones_cons rfl (ones_cons rfl ones_nil)))))) (Nat.le_of_ble_eq_true rfl)
      have els379 : Els (up wa.heap.size H371) eSeqStep 6 [v339, v345, Value.int .i64 y184.rule, Value.string y184.main, Value.int .i64 (wr (y184.a + (len a0))), Value.int .i64 (wr (y184.b + (len a0)))] [(SeqStep.mk r333 y184.rule y184.main (wr (y184.a + (len a0))) (wr (y184.b + (len a0))))] := (Els.snoc (H := (up wa.heap.size H371)) (E := eSeqStep) (k := 6) (c := [v339, v345, Value.int .i64 y184.rule, Value.string y184.main, Value.int .i64 (wr (y184.a + (len a0))), Value.int .i64 (wr (y184.b + (len a0)))]) (x := (SeqStep.mk r333 y184.rule y184.main (wr (y184.a + (len a0))) (wr (y184.b + (len a0))))) Els.nil rfl ⟨_, _, rfl, (h340.mono (up_mono (r358.run.inc.tr i373))), (h346.mono (up_mono (r358.run.inc.tr i373)))⟩)
      have nd380 : (bl [v339, v345, Value.int .i64 y184.rule, Value.string y184.main, Value.int .i64 (wr (y184.a + (len a0))), Value.int .i64 (wr (y184.b + (len a0)))]).Nodup := by exact nd_two ap351.dis
      have nv381 : New H307 [v339, v345, Value.int .i64 y184.rule, Value.string y184.main, Value.int .i64 (wr (y184.a + (len a0))), Value.int .i64 (wr (y184.b + (len a0)))] := by exact (New.two nv344 nv350)
      refine FL.v (E.buildSlice (B1 rfl) run377) ?_
      obtain ⟨xs382, hz383, hp⟩ := bnd hp
      obtain ⟨v384, w387, n385, cs386, run388, S389, els390, ce391⟩ := S378.appendO (P := Tryz.prog) te24 (i := 2) (j := 0) rfl (els189.mono (up_mono ((r338.inc.tr r358.run.inc).tr i373))) rfl els379 hz383
      have S389 : St Ha wa H371 w387 [.row 74 6 v375 1 [v339, v345, Value.int .i64 y184.rule, Value.string y184.main, Value.int .i64 (wr (y184.a + (len a0))), Value.int .i64 (wr (y184.b + (len a0)))], .row 3 1 v359 n360 cs361, .row 74 6 v384 n385 cs386] := S389
      have nd392 : (bl cs386).Nodup := by rw [ce391]; exact nd_app nd190 nd380 (Els.dom (els189.mono (upI.tr (Inc.rfl _)))) (by exact nv381)
      have S393 : St Ha wa H371 w387 [.row 3 1 v359 n360 cs361, .row 74 6 v384 n385 cs386] := S389.drop 0
      refine FL.v (E.append rfl rfl run388) ?_
      refine FL.v (E.assign (v := v384) rfl) ?_
      refine FL.nil (FW.region ?_)
      refine FL.v (E.move k312) ?_
      refine FL.v (E.add rfl rfl) ?_
      refine FL.v (E.assign (v := Value.int .i64 (wr (((i185 : Nat) : Int) + 1))) rfl) ?_
      refine FL.nil ?_
      obtain rfl := Option.some.inj hp
      exact ⟨rfl, ⟨_, _, _, _, (S393.sel [1] (by decide) rfl), (((i309.tr r338.inc).tr r358.run.inc).tr i373), els390, nd392, (nat_succ rfl (lt_of_get hx185) (p1.mono ((((i178.tr i309).tr r338.inc).tr r358.run.inc).tr i373)).le), k313, k314, rfl⟩⟩
     ·
      refine FW.condF rfl c367 ?_
      refine FW.skip (FW.region ?_)
      refine FL.v (E.move k315) ?_
      refine FL.v (E.load rfl (run_loadA Tryz.isAgg74 Tryz.sizeOf74 (S366.box_now (i := 1) rfl) rfl)) ?_
      obtain ⟨v394, w395, run396, S397⟩ := S366.buildSlice (P := Tryz.prog) te24 [Value.agg #[v339, v345, Value.int .i64 y184.rule, Value.string y184.main, Value.int .i64 (wr (y184.a + (len a0))), Value.int .i64 y184.b]] (parts := #[(0, Value.agg #[v339, v345, Value.int .i64 y184.rule, Value.string y184.main, Value.int .i64 (wr (y184.a + (len a0))), Value.int .i64 y184.b])]) (cells := [v339, v345, Value.int .i64 y184.rule, Value.string y184.main, Value.int .i64 (wr (y184.a + (len a0))), Value.int .i64 y184.b]) rfl (szs_cons rfl szs_nil) (fc_cons rfl fc_nil) (ones_cons h340.one (ones_cons h346.one (ones_cons rfl (ones_cons rfl (ones_cons rfl (ones_cons rfl ones_nil)))))) (Nat.le_of_ble_eq_true rfl)
      have els398 : Els (up wa.heap.size H355) eSeqStep 6 [v339, v345, Value.int .i64 y184.rule, Value.string y184.main, Value.int .i64 (wr (y184.a + (len a0))), Value.int .i64 y184.b] [(SeqStep.mk r333 y184.rule y184.main (wr (y184.a + (len a0))) y184.b)] := (Els.snoc (H := (up wa.heap.size H355)) (E := eSeqStep) (k := 6) (c := [v339, v345, Value.int .i64 y184.rule, Value.string y184.main, Value.int .i64 (wr (y184.a + (len a0))), Value.int .i64 y184.b]) (x := (SeqStep.mk r333 y184.rule y184.main (wr (y184.a + (len a0))) y184.b)) Els.nil rfl ⟨_, _, rfl, (h340.mono (up_mono r358.run.inc)), (h346.mono (up_mono r358.run.inc))⟩)
      have nd399 : (bl [v339, v345, Value.int .i64 y184.rule, Value.string y184.main, Value.int .i64 (wr (y184.a + (len a0))), Value.int .i64 y184.b]).Nodup := by exact nd_two ap351.dis
      have nv400 : New H307 [v339, v345, Value.int .i64 y184.rule, Value.string y184.main, Value.int .i64 (wr (y184.a + (len a0))), Value.int .i64 y184.b] := by exact (New.two nv344 nv350)
      refine FL.v (E.buildSlice (B1 rfl) run396) ?_
      obtain ⟨xs401, hz402, hp⟩ := bnd hp
      obtain ⟨v403, w406, n404, cs405, run407, S408, els409, ce410⟩ := S397.appendO (P := Tryz.prog) te24 (i := 3) (j := 0) rfl (els189.mono (up_mono (r338.inc.tr r358.run.inc))) rfl els398 hz402
      have S408 : St Ha wa H355 w406 [.row 74 6 v394 1 [v339, v345, Value.int .i64 y184.rule, Value.string y184.main, Value.int .i64 (wr (y184.a + (len a0))), Value.int .i64 y184.b], .row 3 1 v359 n360 cs361, .box b326 74 [v339, v345, Value.int .i64 y184.rule, Value.string y184.main, Value.int .i64 (wr (y184.a + (len a0))), Value.int .i64 y184.b], .row 74 6 v403 n404 cs405] := S408
      have nd411 : (bl cs405).Nodup := by rw [ce410]; exact nd_app nd190 nd399 (Els.dom (els189.mono (upI.tr (Inc.rfl _)))) (by exact nv400)
      have S412 : St Ha wa H355 w406 [.row 3 1 v359 n360 cs361, .box b326 74 [v339, v345, Value.int .i64 y184.rule, Value.string y184.main, Value.int .i64 (wr (y184.a + (len a0))), Value.int .i64 y184.b], .row 74 6 v403 n404 cs405] := S408.drop 0
      refine FL.v (E.append rfl rfl run407) ?_
      refine FL.v (E.assign (v := v403) rfl) ?_
      refine FL.nil (FW.region ?_)
      refine FL.v (E.move k312) ?_
      refine FL.v (E.add rfl rfl) ?_
      refine FL.v (E.assign (v := Value.int .i64 (wr (((i185 : Nat) : Int) + 1))) rfl) ?_
      refine FL.nil ?_
      obtain rfl := Option.some.inj hp
      exact ⟨rfl, ⟨_, _, _, _, (S412.sel [2] (by decide) rfl), ((i309.tr r338.inc).tr r358.run.inc), els409, nd411, (nat_succ rfl (lt_of_get hx185) (p1.mono (((i178.tr i309).tr r338.inc).tr r358.run.inc)).le), k313, k314, rfl⟩⟩
    ·
     refine FW.condF rfl c363 ?_
     refine FW.skip (FW.seq (FW.seq (FW.region ?_)))
     refine FL.v (E.move (v := v359) rfl) ?_
     refine FL.v (E.lenO te82 rfl S357 (i := 0) rfl els362 (by decide)) ?_
     refine FL.v (E.gtr rfl rfl) ?_
     refine FL.nil ?_
     rcases ifB hp with ⟨c413, hp⟩ | ⟨c413, hp⟩
     ·
      refine FW.condT rfl c413 ?_
      refine FW.region ?_
      refine FL.v (E.fieldAddr tf74_4 rfl) ?_
      refine FL.v (E.load rfl (run_load1 Tryz.isAgg3 (S357.box_now (i := 1) rfl) rfl)) ?_
      refine FL.v (E.move k313) ?_
      refine FL.v (E.lenP te24 rfl p0) ?_
      refine FL.v (E.add rfl rfl) ?_
      refine FL.v (E.fieldAddr tf74_4 rfl) ?_
      obtain ⟨w414, run415, S416⟩ := S357.store (P := Tryz.prog) (t := 3) (i := 1) (j := 5) (cs' := [v339, v345, Value.int .i64 y184.rule, Value.string y184.main, Value.int .i64 y184.a, Value.int .i64 (wr (y184.b + (len a0)))]) (l' := [.row 3 1 v359 n360 cs361, .box b326 74 [v339, v345, Value.int .i64 y184.rule, Value.string y184.main, Value.int .i64 y184.a, Value.int .i64 (wr (y184.b + (len a0)))], .row 74 6 v186 n187 cs188]) (v := Value.int .i64 (wr (y184.b + (len a0)))) (c := [Value.int .i64 (wr (y184.b + (len a0)))]) rfl Tryz.sizeOf3 rfl rfl (ones_cons rfl ones_nil) (Nat.le_of_ble_eq_true rfl) rfl rfl
      refine FL.act rfl rfl (E.store rfl rfl run415) ?_
      refine FL.nil (FW.region ?_)
      refine FL.v (E.move k315) ?_
      refine FL.v (E.load rfl (run_loadA Tryz.isAgg74 Tryz.sizeOf74 (S416.box_now (i := 1) rfl) rfl)) ?_
      obtain ⟨v417, w418, run419, S420⟩ := S416.buildSlice (P := Tryz.prog) te24 [Value.agg #[v339, v345, Value.int .i64 y184.rule, Value.string y184.main, Value.int .i64 y184.a, Value.int .i64 (wr (y184.b + (len a0)))]] (parts := #[(0, Value.agg #[v339, v345, Value.int .i64 y184.rule, Value.string y184.main, Value.int .i64 y184.a, Value.int .i64 (wr (y184.b + (len a0)))])]) (cells := [v339, v345, Value.int .i64 y184.rule, Value.string y184.main, Value.int .i64 y184.a, Value.int .i64 (wr (y184.b + (len a0)))]) rfl (szs_cons rfl szs_nil) (fc_cons rfl fc_nil) (ones_cons h340.one (ones_cons h346.one (ones_cons rfl (ones_cons rfl (ones_cons rfl (ones_cons rfl ones_nil)))))) (Nat.le_of_ble_eq_true rfl)
      have els421 : Els (up wa.heap.size H355) eSeqStep 6 [v339, v345, Value.int .i64 y184.rule, Value.string y184.main, Value.int .i64 y184.a, Value.int .i64 (wr (y184.b + (len a0)))] [(SeqStep.mk r333 y184.rule y184.main y184.a (wr (y184.b + (len a0))))] := (Els.snoc (H := (up wa.heap.size H355)) (E := eSeqStep) (k := 6) (c := [v339, v345, Value.int .i64 y184.rule, Value.string y184.main, Value.int .i64 y184.a, Value.int .i64 (wr (y184.b + (len a0)))]) (x := (SeqStep.mk r333 y184.rule y184.main y184.a (wr (y184.b + (len a0))))) Els.nil rfl ⟨_, _, rfl, (h340.mono (up_mono r358.run.inc)), (h346.mono (up_mono r358.run.inc))⟩)
      have nd422 : (bl [v339, v345, Value.int .i64 y184.rule, Value.string y184.main, Value.int .i64 y184.a, Value.int .i64 (wr (y184.b + (len a0)))]).Nodup := by exact nd_two ap351.dis
      have nv423 : New H307 [v339, v345, Value.int .i64 y184.rule, Value.string y184.main, Value.int .i64 y184.a, Value.int .i64 (wr (y184.b + (len a0)))] := by exact (New.two nv344 nv350)
      refine FL.v (E.buildSlice (B1 rfl) run419) ?_
      obtain ⟨xs424, hz425, hp⟩ := bnd hp
      obtain ⟨v426, w429, n427, cs428, run430, S431, els432, ce433⟩ := S420.appendO (P := Tryz.prog) te24 (i := 3) (j := 0) rfl (els189.mono (up_mono (r338.inc.tr r358.run.inc))) rfl els421 hz425
      have S431 : St Ha wa H355 w429 [.row 74 6 v417 1 [v339, v345, Value.int .i64 y184.rule, Value.string y184.main, Value.int .i64 y184.a, Value.int .i64 (wr (y184.b + (len a0)))], .row 3 1 v359 n360 cs361, .box b326 74 [v339, v345, Value.int .i64 y184.rule, Value.string y184.main, Value.int .i64 y184.a, Value.int .i64 (wr (y184.b + (len a0)))], .row 74 6 v426 n427 cs428] := S431
      have nd434 : (bl cs428).Nodup := by rw [ce433]; exact nd_app nd190 nd422 (Els.dom (els189.mono (upI.tr (Inc.rfl _)))) (by exact nv423)
      have S435 : St Ha wa H355 w429 [.row 3 1 v359 n360 cs361, .box b326 74 [v339, v345, Value.int .i64 y184.rule, Value.string y184.main, Value.int .i64 y184.a, Value.int .i64 (wr (y184.b + (len a0)))], .row 74 6 v426 n427 cs428] := S431.drop 0
      refine FL.v (E.append rfl rfl run430) ?_
      refine FL.v (E.assign (v := v426) rfl) ?_
      refine FL.nil (FW.region ?_)
      refine FL.v (E.move k312) ?_
      refine FL.v (E.add rfl rfl) ?_
      refine FL.v (E.assign (v := Value.int .i64 (wr (((i185 : Nat) : Int) + 1))) rfl) ?_
      refine FL.nil ?_
      obtain rfl := Option.some.inj hp
      exact ⟨rfl, ⟨_, _, _, _, (S435.sel [2] (by decide) rfl), ((i309.tr r338.inc).tr r358.run.inc), els432, nd434, (nat_succ rfl (lt_of_get hx185) (p1.mono (((i178.tr i309).tr r338.inc).tr r358.run.inc)).le), k313, k314, rfl⟩⟩
     ·
      refine FW.condF rfl c413 ?_
      refine FW.skip (FW.region ?_)
      refine FL.v (E.move k315) ?_
      refine FL.v (E.load rfl (run_loadA Tryz.isAgg74 Tryz.sizeOf74 (S357.box_now (i := 1) rfl) rfl)) ?_
      obtain ⟨v436, w437, run438, S439⟩ := S357.buildSlice (P := Tryz.prog) te24 [Value.agg #[v339, v345, Value.int .i64 y184.rule, Value.string y184.main, Value.int .i64 y184.a, Value.int .i64 y184.b]] (parts := #[(0, Value.agg #[v339, v345, Value.int .i64 y184.rule, Value.string y184.main, Value.int .i64 y184.a, Value.int .i64 y184.b])]) (cells := [v339, v345, Value.int .i64 y184.rule, Value.string y184.main, Value.int .i64 y184.a, Value.int .i64 y184.b]) rfl (szs_cons rfl szs_nil) (fc_cons rfl fc_nil) (ones_cons h340.one (ones_cons h346.one (ones_cons rfl (ones_cons rfl (ones_cons rfl (ones_cons rfl ones_nil)))))) (Nat.le_of_ble_eq_true rfl)
      have els440 : Els (up wa.heap.size H355) eSeqStep 6 [v339, v345, Value.int .i64 y184.rule, Value.string y184.main, Value.int .i64 y184.a, Value.int .i64 y184.b] [(SeqStep.mk r333 y184.rule y184.main y184.a y184.b)] := (Els.snoc (H := (up wa.heap.size H355)) (E := eSeqStep) (k := 6) (c := [v339, v345, Value.int .i64 y184.rule, Value.string y184.main, Value.int .i64 y184.a, Value.int .i64 y184.b]) (x := (SeqStep.mk r333 y184.rule y184.main y184.a y184.b)) Els.nil rfl ⟨_, _, rfl, (h340.mono (up_mono r358.run.inc)), (h346.mono (up_mono r358.run.inc))⟩)
      have nd441 : (bl [v339, v345, Value.int .i64 y184.rule, Value.string y184.main, Value.int .i64 y184.a, Value.int .i64 y184.b]).Nodup := by exact nd_two ap351.dis
      have nv442 : New H307 [v339, v345, Value.int .i64 y184.rule, Value.string y184.main, Value.int .i64 y184.a, Value.int .i64 y184.b] := by exact (New.two nv344 nv350)
      refine FL.v (E.buildSlice (B1 rfl) run438) ?_
      obtain ⟨xs443, hz444, hp⟩ := bnd hp
      obtain ⟨v445, w448, n446, cs447, run449, S450, els451, ce452⟩ := S439.appendO (P := Tryz.prog) te24 (i := 3) (j := 0) rfl (els189.mono (up_mono (r338.inc.tr r358.run.inc))) rfl els440 hz444
      have S450 : St Ha wa H355 w448 [.row 74 6 v436 1 [v339, v345, Value.int .i64 y184.rule, Value.string y184.main, Value.int .i64 y184.a, Value.int .i64 y184.b], .row 3 1 v359 n360 cs361, .box b326 74 [v339, v345, Value.int .i64 y184.rule, Value.string y184.main, Value.int .i64 y184.a, Value.int .i64 y184.b], .row 74 6 v445 n446 cs447] := S450
      have nd453 : (bl cs447).Nodup := by rw [ce452]; exact nd_app nd190 nd441 (Els.dom (els189.mono (upI.tr (Inc.rfl _)))) (by exact nv442)
      have S454 : St Ha wa H355 w448 [.row 3 1 v359 n360 cs361, .box b326 74 [v339, v345, Value.int .i64 y184.rule, Value.string y184.main, Value.int .i64 y184.a, Value.int .i64 y184.b], .row 74 6 v445 n446 cs447] := S450.drop 0
      refine FL.v (E.append rfl rfl run449) ?_
      refine FL.v (E.assign (v := v445) rfl) ?_
      refine FL.nil (FW.region ?_)
      refine FL.v (E.move k312) ?_
      refine FL.v (E.add rfl rfl) ?_
      refine FL.v (E.assign (v := Value.int .i64 (wr (((i185 : Nat) : Int) + 1))) rfl) ?_
      refine FL.nil ?_
      obtain rfl := Option.some.inj hp
      exact ⟨rfl, ⟨_, _, _, _, (S454.sel [2] (by decide) rfl), ((i309.tr r338.inc).tr r358.run.inc), els451, nd453, (nat_succ rfl (lt_of_get hx185) (p1.mono (((i178.tr i309).tr r338.inc).tr r358.run.inc)).le), k313, k314, rfl⟩⟩
   ·
    clear hp hq
    rintro s185 f466 w465 ⟨H462, v186, n187, cs188, S463, i464, els189, nd190, k467, k468, k469, k470⟩
    refine FW.seq (FW.seq (FW.region ?_))
    refine FL.v (E.move k467) ?_
    refine FL.v (E.move k469) ?_
    refine FL.v (E.lenP te24 rfl p1) ?_
    refine FL.v (E.lss rfl rfl) ?_
    refine FL.nil ?_
    refine FW.condF rfl dlt_len ?_
    refine FW.exit ?_
    exact ⟨nofun, rfl, ⟨_, _, _, _, S463, i464, els189, nd190, k470⟩⟩
   ·
    clear hq
    intro e f460 w459 hD
    rcases q185 with s185 | x185
    ·
     obtain ⟨rfl, hD⟩ := hD
     obtain ⟨H456, v186, n187, cs188, S457, i458, els189, nd190, k461⟩ := hD
     replace hp := el_go hp
     refine FW.seq (FW.region ?_)
     refine FL.v (E.move k461) ?_
     refine FL.v (E.assign (v := v186) rfl) ?_
     refine FL.nil ?_
     refine FW.ret ?_
     obtain rfl := Option.some.inj hp
     exact ⟨.inr rfl, res1 rfl rfl ⟨_, _, _, _, rfl, S457, els189, nd190⟩⟩
    ·
     exact x185.elim
  ·
   exact x27.elim

@[reducible] def p_spec_l25Give (Ha : GH) (wa : World) (r : ((List SeqStep) × Bool)) : Ending → World → Prop :=
 fun e w' => ∃ H' : GH, ∃ v0 : Value, e = .returned (Value.tuple #[v0, Value.bool r.2]) ∧ Run wa.heap.size Ha wa H' w' ∧ RSl H' eSeqStep 6 v0 r.1
@[reducible] def p_spec_JoinByCut (Ha : GH) (wa : World) (r : ((List SeqStep) × Bool)) : Ending → World → Prop :=
 fun e w' => ∃ H' : GH, ∃ v0 : Value, ∃ n0 : Nat, ∃ c0 : List Value, e = .returned (Value.tuple #[v0, Value.bool r.2]) ∧ St Ha wa H' w' [.row 74 6 v0 n0 c0] ∧ Els H' eSeqStep 6 c0 r.1
set_option maxHeartbeats 4000000 in
theorem w_spec_JoinByCut {Ha : GH} {wa : World} (hs : Sl Ha wa) (v0 : Value) (a0 : List SeqStep) (p0 : RSl Ha eSeqStep 6 v0 a0) (v1 : Value) (a1 : List SeqStep) (p1 : RSl Ha eSeqStep 6 v1 a1) (a2 : ByteArray) {r : ((List SeqStep) × Bool)} (hp : (PF.spec_JoinByCut a0 a1 a2) = some r) :
  Calls Tryz.prog 22 #[v0, v1, Value.string a2] wa (p_spec_JoinByCut Ha wa r) := by
 unfold PF.spec_JoinByCut at hp
 have S0 := St.init hs
 refine calls_go (N := 63) (args := [v0, v1, Value.string a2]) Tryz.func22 rfl rfl rfl ?_
 refine FW.seq (FW.region ?_)
 refine FL.v (E.assign (v := Value.slice none 0 0) rfl) ?_
 refine FL.v (E.assign (v := Value.bool false) rfl) ?_
 refine FL.nil (FW.seq (FW.seq (FW.region ?_)))
 refine FL.v (E.move (v := v0) rfl) ?_
 obtain ⟨r21, hr22, hp⟩ := bnd hp
 refine FL.call rfl rfl rfl (E.call Tryz.call58 (A1 rfl)) (w_spec_l23Proof S0.sl v0 a0 p0 hr22) ?_
 rintro e w23 ⟨rfl, r24⟩
 refine ⟨_, rfl, ?_⟩
 have S25 := S0.call r24
 refine FL.v (E.not rfl) ?_
 refine FL.v (E.move (v := Value.bool (!r21)) rfl) ?_
 obtain ⟨t31, hqt31, hp⟩ := bnd hp
 refine FL.cut 4 (fun f w => ∃ H : GH, St Ha wa H w [] ∧ Inc Ha H ∧ f 0 = v0 ∧ f 1 = v1 ∧ f 2 = Value.string a2 ∧ f 17 = Value.bool t31) ?_ ?_
 ·
  clear hp; have hp := hqt31; clear hqt31
  rcases ifB hp with ⟨c37, hp⟩ | ⟨c37, hp⟩
  ·
   refine FL.skip (wF_no rfl rfl rfl c37) rfl ?_
   refine FL.skip (wF_no rfl rfl rfl c37) rfl ?_
   refine FL.skip (wF_no rfl rfl rfl c37) rfl ?_
   obtain rfl := Option.some.inj hp
   refine FL.v (E.pickT rfl c37 rfl) ?_
   exact FL.nil ⟨rfl, _, S25, (Inc.rfl _), rfl, rfl, rfl, rfl⟩
  ·
   refine FL.val (wF_yes rfl rfl rfl c37) rfl rfl (E.move (v := v1) rfl) ?_
   obtain ⟨r38, hr39, hp⟩ := bnd hp
   refine FL.call (wF_yes rfl rfl rfl c37) rfl rfl (E.call Tryz.call58 (A1 rfl)) (w_spec_l23Proof S25.sl v1 a1 p1 hr39) ?_
   rintro e w40 ⟨rfl, r41⟩
   refine ⟨_, rfl, ?_⟩
   have S42 := S25.call r41
   refine FL.val (wF_yes rfl rfl rfl c37) rfl rfl (E.not rfl) ?_
   obtain rfl := Option.some.inj hp
   refine FL.v (E.pickF rfl c37 rfl) ?_
   exact FL.nil ⟨rfl, _, S42, (Inc.rfl _), rfl, rfl, rfl, rfl⟩
 rintro f36 w35 ⟨H32, S33, i34, k43, k44, k45, k46⟩
 refine FL.v (E.move k46) ?_
 obtain ⟨t52, hqt52, hp⟩ := bnd hp
 refine FL.cut 4 (fun f w => ∃ H : GH, St Ha wa H w [] ∧ Inc H32 H ∧ f 0 = v0 ∧ f 1 = v1 ∧ f 2 = Value.string a2 ∧ f 22 = Value.bool t52) ?_ ?_
 ·
  clear hp; have hp := hqt52; clear hqt52
  rcases ifB hp with ⟨c58, hp⟩ | ⟨c58, hp⟩
  ·
   refine FL.skip (wF_no rfl rfl rfl c58) rfl ?_
   refine FL.skip (wF_no rfl rfl rfl c58) rfl ?_
   refine FL.skip (wF_no rfl rfl rfl c58) rfl ?_
   obtain rfl := Option.some.inj hp
   refine FL.v (E.pickT rfl c58 rfl) ?_
   exact FL.nil ⟨rfl, _, S33, (Inc.rfl _), k43, k44, k45, rfl⟩
  ·
   refine FL.val (wF_yes rfl rfl rfl c58) rfl rfl (E.move k45) ?_
   obtain ⟨r59, hr60, hp⟩ := bnd hp
   refine FL.call (wF_yes rfl rfl rfl c58) rfl rfl (E.call Tryz.call48 (A1 rfl)) (w_spec_l22Good S33.sl a2 hr60) ?_
   rintro e w61 ⟨rfl, r62⟩
   refine ⟨_, rfl, ?_⟩
   have S63 := S33.call r62
   refine FL.val (wF_yes rfl rfl rfl c58) rfl rfl (E.not rfl) ?_
   obtain rfl := Option.some.inj hp
   refine FL.v (E.pickF rfl c58 rfl) ?_
   exact FL.nil ⟨rfl, _, S63, (Inc.rfl _), k43, k44, k45, rfl⟩
 rintro f57 w56 ⟨H53, S54, i55, k64, k65, k66, k67⟩
 refine FL.nil ?_
 rcases ifB hp with ⟨c68, hp⟩ | ⟨c68, hp⟩
 ·
  refine FW.condT k67 c68 ?_
  refine FW.seq (FW.region ?_)
  obtain ⟨v69, w70, run71, S72⟩ := S54.buildSlice (P := Tryz.prog) te24 [] (parts := #[]) (cells := []) rfl szs_nil fc_nil ones_nil (Nat.le_of_ble_eq_true rfl)
  have els73 : Els (up wa.heap.size H53) eSeqStep 6 [] [] := Els.nil
  refine FL.v (E.buildSlice (B0) run71) ?_
  refine FL.v (E.assign (v := v69) rfl) ?_
  refine FL.v (E.assign (v := Value.bool false) rfl) ?_
  refine FL.nil ?_
  refine FW.ret ?_
  obtain rfl := Option.some.inj hp
  exact ⟨.inr rfl, res2 rfl rfl rfl ⟨_, _, _, _, rfl, S72, (els73.mono upI)⟩⟩
 ·
  refine FW.condF k67 c68 ?_
  refine FW.skip (FW.seq (FW.region ?_))
  refine FL.v (E.move k64) ?_
  refine FL.v (E.move k65) ?_
  obtain ⟨r74, hr75, hp⟩ := bnd hp
  refine FL.call rfl rfl rfl (E.call Tryz.call64 (A2 rfl rfl)) (w_spec_l25Behind S54.sl v0 a0 (p0.mono (i34.tr i55)) v1 a1 (p1.mono (i34.tr i55)) hr75) ?_
  rintro e w77 ⟨H76, v80, n81, cs82, rfl, r79, els83, nd84⟩
  refine ⟨_, rfl, ?_⟩
  have nv85 : New H53 cs82 := New.of_up S54.sl els83.dom
  have els83 := els83.mono (up_le S54.size)
  have S78 := S54.join (l' := [.row 74 6 v80 n81 cs82]) r79 rfl
  refine FL.v (E.assign (v := v80) rfl) ?_
  refine FL.nil (FW.seq ?_)
  obtain ⟨x90, hx91, hp⟩ := bnd hp
  obtain ⟨xs96, hz97, hp⟩ := bnd hp
  obtain ⟨x116, hx117, hp⟩ := bnd hp
  obtain ⟨xs122, hz123, hp⟩ := bnd hp
  refine FW.drawB (Sl H76) (fun f w => ∃ H : GH, ∃ v152 : Value, St Ha wa H w [.row 74 6 v80 n81 cs82] ∧ Inc H76 H ∧ PAt H eSequent v152 (some (Sequent.mk xs96 xs122)) ∧ f 0 = v0 ∧ f 2 = Value.string a2 ∧ f 8 = v80 ∧ f 9 = v152) (by kernel_rfl) S78.sl ?_ ?_
  ·
   intro w86 r87
   have S88 := S78.call r87
   refine FB.t (i := 1) (bs 23 2) rfl (SP.nil S88.sl) rfl (fun w' hw' => (E.move k64)) ?_
   refine FB.t (i := 2) (bs 23 6) rfl (SP.nil S88.sl) rfl (fun w' hw' => (E.move k64)) ?_
   refine FB.t (i := 3) (bs 23 14) rfl (SP.nil S88.sl) rfl (fun w' hw' => (E.lenP te24 rfl p0)) ?_
   refine FB.t (i := 4) (bs 23 30) rfl (SP.nil S88.sl) rfl (fun w' hw' => (E.sub rfl rfl)) ?_
   obtain ⟨p47, cs48, pt49, l50, at51, rel89⟩ := p0.at hx91
   obtain ⟨v92, v94, rfl, h93, h95⟩ := eSeqStep_open rel89
   refine FB.t (i := 5) (bs 23 62) rfl (SP.nil S88.sl) rfl (fun w' hw' => (E.indexAddr te24 rfl rfl pt49)) ?_
   refine FB.t (i := 6) (bs 23 126) rfl (SP.nil S88.sl) rfl (fun w' hw' => (E.fieldAddr tf74_0 rfl)) ?_
   refine FB.t (i := 7) (bs 23 254) rfl (SP.nil S88.sl) rfl (fun w' hw' => (E.fieldAddrN tf68_0 rfl rfl)) ?_
   refine FB.t (i := 8) (bs 23 510) rfl (SP.nil S88.sl) rfl (fun w' hw' => (E.load rfl (run_load1 Tryz.isAgg22 ((at51.mono ((i34.tr i55).tr r79.run.inc)).now hw') rfl))) ?_
   refine FB.t (i := 11) (bs 23 2558) rfl (SP.nil S88.sl) rfl (fun w' hw' => (E.move k65)) ?_
   refine FB.t (i := 12) (bs 23 6654) rfl (SP.nil S88.sl) rfl (fun w' hw' => (E.move k65)) ?_
   refine FB.t (i := 13) (bs 23 14846) rfl (SP.nil S88.sl) rfl (fun w' hw' => (E.lenP te24 rfl p1)) ?_
   refine FB.t (i := 14) (bs 23 31230) rfl (SP.nil S88.sl) rfl (fun w' hw' => (E.sub rfl rfl)) ?_
   obtain ⟨p110, cs111, pt112, l113, at114, rel115⟩ := p1.at hx117
   obtain ⟨v118, v120, rfl, h119, h121⟩ := eSeqStep_open rel115
   refine FB.t (i := 15) (bs 23 63998) rfl (SP.nil S88.sl) rfl (fun w' hw' => (E.indexAddr te24 rfl rfl pt112)) ?_
   refine FB.t (i := 16) (bs 23 129534) rfl (SP.nil S88.sl) rfl (fun w' hw' => (E.fieldAddr tf74_0 rfl)) ?_
   refine FB.t (i := 17) (bs 23 260606) rfl (SP.nil S88.sl) rfl (fun w' hw' => (E.fieldAddrN tf68_1 rfl rfl)) ?_
   refine FB.t (i := 18) (bs 23 522750) rfl (SP.nil S88.sl) rfl (fun w' hw' => (E.load rfl (run_load1 Tryz.isAgg22 ((at114.mono ((i34.tr i55).tr r79.run.inc)).now hw') rfl))) ?_
   refine FB.all3 (i := 0) (j := 10) (k := 21) (by kernel_rfl) ?_ ?_ ?_
   ·
    obtain ⟨v26, w27, run28, S29⟩ := S88.buildSlice (P := Tryz.prog) te22 [] (parts := #[]) (cells := []) rfl szs_nil fc_nil ones_nil (Nat.le_of_ble_eq_true rfl)
    have els30 : Els (up wa.heap.size H76) eS 1 [] [] := Els.nil
    refine FC.val (l' := (bs 23 522751)) rfl (by kernel_rfl) rfl rfl rfl (E.buildSlice (B0) run28) ?_
    refine ⟨(SP.nil S29.sl), ?_⟩
    refine FB.all3 (i := 9) (j := 10) (k := 21) (by kernel_rfl) ?_ ?_ ?_
    ·
     obtain ⟨v98, w101, n99, cs100, run102, S103, els104⟩ := S29.appendP (P := Tryz.prog) (Inc.rfl _) te22 (i := 0) rfl (els30.mono upI) (h93.mono ((i34.tr i55).tr r79.run.inc)) hz97
     have S103 : St Ha wa H76 w101 [.row 9 1 v98 n99 cs100, .row 74 6 v80 n81 cs82] := S103
     have els104 : Els (up wa.heap.size H76) eS 1 cs100 xs96 := els104.any (fun _ _ _ _ h => h)
     refine FC.val (l' := (bs 23 523263)) rfl (by kernel_rfl) rfl rfl rfl (E.append rfl rfl run102) ?_
     refine ⟨(SP.nil S103.sl), ?_⟩
     refine FB.all2 (i := 10) (j := 21) (by kernel_rfl) ?_ ?_
     ·
      obtain ⟨v105, w106, run107, S108⟩ := S103.buildSlice (P := Tryz.prog) te22 [] (parts := #[]) (cells := []) rfl szs_nil fc_nil ones_nil (Nat.le_of_ble_eq_true rfl)
      have els109 : Els (up wa.heap.size H76) eS 1 [] [] := Els.nil
      refine FC.val (l' := (bs 23 524287)) rfl (by kernel_rfl) rfl rfl rfl (E.buildSlice (B0) run107) ?_
      refine ⟨(SP.nil S108.sl), ?_⟩
      refine FB.all2 (i := 19) (j := 21) (by kernel_rfl) ?_ ?_
      ·
       obtain ⟨v124, w127, n125, cs126, run128, S129, els130⟩ := S108.appendP (P := Tryz.prog) (Inc.rfl _) te22 (i := 0) rfl (els109.mono upI) (h121.mono ((i34.tr i55).tr r79.run.inc)) hz123
       have S129 : St Ha wa H76 w127 [.row 9 1 v124 n125 cs126, .row 9 1 v98 n99 cs100, .row 74 6 v80 n81 cs82] := S129
       have els130 : Els (up wa.heap.size H76) eS 1 cs126 xs122 := els130.any (fun _ _ _ _ h => h)
       refine FC.val (l' := (bs 23 1048575)) rfl (by kernel_rfl) rfl rfl rfl (E.append rfl rfl run128) ?_
       refine ⟨(SP.nil S129.sl), ?_⟩
       obtain ⟨H131, S132, i133, h134, nv135⟩ := S129.sealRowU (i := 1) (l' := [.row 9 1 v124 n125 cs126, .row 74 6 v80 n81 cs82]) rfl els104 (by decide) rfl
       obtain ⟨H136, S137, i138, h139, nv140⟩ := S132.sealRowU (i := 0) (l' := [.row 74 6 v80 n81 cs82]) rfl (els130.mono (up_mono i133)) (by decide) rfl
       refine FB.t (i := 20) (bs 23 2097151) rfl (SP.nil S129.sl) rfl (fun w' hw' => (E.build (B2 rfl rfl) (run_build _ 68 #[(0, v98), (1, v124)] #[v98, v124] (by obtain ⟨_, _, rfl⟩ := RSl.ln (h134.mono (upI.tr i138)); obtain ⟨_, _, rfl⟩ := RSl.ln (h139.mono upI); rfl)))) ?_
       refine FB.all1 (i := 21) (by kernel_rfl) ?_
       ·
        obtain ⟨b141, w142, run143, S144⟩ := S137.alloc (P := Tryz.prog) 68 [Value.slice none 0 0, Value.slice none 0 0] Tryz.zeroValue68 rfl (ones_cons rfl (ones_cons rfl ones_nil))
        refine FC.val (l' := (bs 23 4194303)) rfl (by kernel_rfl) rfl rfl rfl (E.alloc run143) ?_
        refine ⟨(SP.nil (Sl.of_inc (i133.tr i138) S144.sl)), ?_⟩
        refine FB.all1 (i := 22) (by kernel_rfl) ?_
        ·
         obtain ⟨w145, run146, S147⟩ := S144.store0 (P := Tryz.prog) (t := 68) (i := 0) (cs' := [v98, v124]) (l' := [.box b141 68 [v98, v124], .row 74 6 v80 n81 cs82]) (v := Value.agg #[v98, v124]) (c := [v98, v124]) rfl Tryz.sizeOf68 rfl rfl (ones_cons h134.one (ones_cons h139.one ones_nil)) (Nat.le_of_ble_eq_true rfl) rfl rfl
         refine FC.act (l' := (bs 23 8388607)) rfl (by kernel_rfl) rfl rfl (E.store rfl rfl run146) ?_
         obtain ⟨H148, S149, i150, at151⟩ := S147.sealBox (i := 0) (l' := [.row 74 6 v80 n81 cs82]) rfl rfl
         refine ⟨(SP.nil (Sl.of_inc ((i133.tr i138).tr i150) S149.sl)), ?_⟩
         exact FB.done (by kernel_rfl) ⟨_, _, S149, ((i133.tr i138).tr i150), (PAt.mk at151 ⟨_, _, rfl, (h134.mono (upI.tr (i138.tr i150))), (h139.mono (upI.tr i150))⟩), k64, k66, rfl, rfl⟩
      ·
       obtain ⟨b141, w142, run143, S144⟩ := S108.alloc (P := Tryz.prog) 68 [Value.slice none 0 0, Value.slice none 0 0] Tryz.zeroValue68 rfl (ones_cons rfl (ones_cons rfl ones_nil))
       refine FC.val (l' := (bs 23 2621439)) rfl (by kernel_rfl) rfl rfl rfl (E.alloc run143) ?_
       refine ⟨(SP.nil S144.sl), ?_⟩
       refine FB.all1 (i := 19) (by kernel_rfl) ?_
       ·
        obtain ⟨v124, w127, n125, cs126, run128, S129, els130⟩ := S144.appendP (P := Tryz.prog) (Inc.rfl _) te22 (i := 1) rfl (els109.mono upI) (h121.mono ((i34.tr i55).tr r79.run.inc)) hz123
        have S129 : St Ha wa H76 w127 [.box b141 68 [Value.slice none 0 0, Value.slice none 0 0], .row 9 1 v124 n125 cs126, .row 9 1 v98 n99 cs100, .row 74 6 v80 n81 cs82] := S129
        have els130 : Els (up wa.heap.size H76) eS 1 cs126 xs122 := els130.any (fun _ _ _ _ h => h)
        refine FC.val (l' := (bs 23 3145727)) rfl (by kernel_rfl) rfl rfl rfl (E.append rfl rfl run128) ?_
        refine ⟨(SP.nil S129.sl), ?_⟩
        obtain ⟨H131, S132, i133, h134, nv135⟩ := S129.sealRowU (i := 2) (l' := [.box b141 68 [Value.slice none 0 0, Value.slice none 0 0], .row 9 1 v124 n125 cs126, .row 74 6 v80 n81 cs82]) rfl els104 (by decide) rfl
        obtain ⟨H136, S137, i138, h139, nv140⟩ := S132.sealRowU (i := 1) (l' := [.box b141 68 [Value.slice none 0 0, Value.slice none 0 0], .row 74 6 v80 n81 cs82]) rfl (els130.mono (up_mono i133)) (by decide) rfl
        refine FB.t (i := 20) (bs 23 4194303) rfl (SP.nil S129.sl) rfl (fun w' hw' => (E.build (B2 rfl rfl) (run_build _ 68 #[(0, v98), (1, v124)] #[v98, v124] (by obtain ⟨_, _, rfl⟩ := RSl.ln (h134.mono (upI.tr i138)); obtain ⟨_, _, rfl⟩ := RSl.ln (h139.mono upI); rfl)))) ?_
        refine FB.all1 (i := 22) (by kernel_rfl) ?_
        ·
         obtain ⟨w145, run146, S147⟩ := S137.store0 (P := Tryz.prog) (t := 68) (i := 0) (cs' := [v98, v124]) (l' := [.box b141 68 [v98, v124], .row 74 6 v80 n81 cs82]) (v := Value.agg #[v98, v124]) (c := [v98, v124]) rfl Tryz.sizeOf68 rfl rfl (ones_cons h134.one (ones_cons h139.one ones_nil)) (Nat.le_of_ble_eq_true rfl) rfl rfl
         refine FC.act (l' := (bs 23 8388607)) rfl (by kernel_rfl) rfl rfl (E.store rfl rfl run146) ?_
         obtain ⟨H148, S149, i150, at151⟩ := S147.sealBox (i := 0) (l' := [.row 74 6 v80 n81 cs82]) rfl rfl
         refine ⟨(SP.nil (Sl.of_inc ((i133.tr i138).tr i150) S149.sl)), ?_⟩
         exact FB.done (by kernel_rfl) ⟨_, _, S149, ((i133.tr i138).tr i150), (PAt.mk at151 ⟨_, _, rfl, (h134.mono (upI.tr (i138.tr i150))), (h139.mono (upI.tr i150))⟩), k64, k66, rfl, rfl⟩
     ·
      obtain ⟨b141, w142, run143, S144⟩ := S103.alloc (P := Tryz.prog) 68 [Value.slice none 0 0, Value.slice none 0 0] Tryz.zeroValue68 rfl (ones_cons rfl (ones_cons rfl ones_nil))
      refine FC.val (l' := (bs 23 2620415)) rfl (by kernel_rfl) rfl rfl rfl (E.alloc run143) ?_
      refine ⟨(SP.nil S144.sl), ?_⟩
      refine FB.all1 (i := 10) (by kernel_rfl) ?_
      ·
       obtain ⟨v105, w106, run107, S108⟩ := S144.buildSlice (P := Tryz.prog) te22 [] (parts := #[]) (cells := []) rfl szs_nil fc_nil ones_nil (Nat.le_of_ble_eq_true rfl)
       have els109 : Els (up wa.heap.size H76) eS 1 [] [] := Els.nil
       refine FC.val (l' := (bs 23 2621439)) rfl (by kernel_rfl) rfl rfl rfl (E.buildSlice (B0) run107) ?_
       refine ⟨(SP.nil S108.sl), ?_⟩
       refine FB.all1 (i := 19) (by kernel_rfl) ?_
       ·
        obtain ⟨v124, w127, n125, cs126, run128, S129, els130⟩ := S108.appendP (P := Tryz.prog) (Inc.rfl _) te22 (i := 0) rfl (els109.mono upI) (h121.mono ((i34.tr i55).tr r79.run.inc)) hz123
        have S129 : St Ha wa H76 w127 [.row 9 1 v124 n125 cs126, .box b141 68 [Value.slice none 0 0, Value.slice none 0 0], .row 9 1 v98 n99 cs100, .row 74 6 v80 n81 cs82] := S129
        have els130 : Els (up wa.heap.size H76) eS 1 cs126 xs122 := els130.any (fun _ _ _ _ h => h)
        refine FC.val (l' := (bs 23 3145727)) rfl (by kernel_rfl) rfl rfl rfl (E.append rfl rfl run128) ?_
        refine ⟨(SP.nil S129.sl), ?_⟩
        obtain ⟨H131, S132, i133, h134, nv135⟩ := S129.sealRowU (i := 2) (l' := [.row 9 1 v124 n125 cs126, .box b141 68 [Value.slice none 0 0, Value.slice none 0 0], .row 74 6 v80 n81 cs82]) rfl els104 (by decide) rfl
        obtain ⟨H136, S137, i138, h139, nv140⟩ := S132.sealRowU (i := 0) (l' := [.box b141 68 [Value.slice none 0 0, Value.slice none 0 0], .row 74 6 v80 n81 cs82]) rfl (els130.mono (up_mono i133)) (by decide) rfl
        refine FB.t (i := 20) (bs 23 4194303) rfl (SP.nil S129.sl) rfl (fun w' hw' => (E.build (B2 rfl rfl) (run_build _ 68 #[(0, v98), (1, v124)] #[v98, v124] (by obtain ⟨_, _, rfl⟩ := RSl.ln (h134.mono (upI.tr i138)); obtain ⟨_, _, rfl⟩ := RSl.ln (h139.mono upI); rfl)))) ?_
        refine FB.all1 (i := 22) (by kernel_rfl) ?_
        ·
         obtain ⟨w145, run146, S147⟩ := S137.store0 (P := Tryz.prog) (t := 68) (i := 0) (cs' := [v98, v124]) (l' := [.box b141 68 [v98, v124], .row 74 6 v80 n81 cs82]) (v := Value.agg #[v98, v124]) (c := [v98, v124]) rfl Tryz.sizeOf68 rfl rfl (ones_cons h134.one (ones_cons h139.one ones_nil)) (Nat.le_of_ble_eq_true rfl) rfl rfl
         refine FC.act (l' := (bs 23 8388607)) rfl (by kernel_rfl) rfl rfl (E.store rfl rfl run146) ?_
         obtain ⟨H148, S149, i150, at151⟩ := S147.sealBox (i := 0) (l' := [.row 74 6 v80 n81 cs82]) rfl rfl
         refine ⟨(SP.nil (Sl.of_inc ((i133.tr i138).tr i150) S149.sl)), ?_⟩
         exact FB.done (by kernel_rfl) ⟨_, _, S149, ((i133.tr i138).tr i150), (PAt.mk at151 ⟨_, _, rfl, (h134.mono (upI.tr (i138.tr i150))), (h139.mono (upI.tr i150))⟩), k64, k66, rfl, rfl⟩
    ·
     obtain ⟨v105, w106, run107, S108⟩ := S29.buildSlice (P := Tryz.prog) te22 [] (parts := #[]) (cells := []) rfl szs_nil fc_nil ones_nil (Nat.le_of_ble_eq_true rfl)
     have els109 : Els (up wa.heap.size H76) eS 1 [] [] := Els.nil
     refine FC.val (l' := (bs 23 523775)) rfl (by kernel_rfl) rfl rfl rfl (E.buildSlice (B0) run107) ?_
     refine ⟨(SP.nil S108.sl), ?_⟩
     refine FB.all2 (i := 9) (j := 21) (by kernel_rfl) ?_ ?_
     ·
      obtain ⟨v98, w101, n99, cs100, run102, S103, els104⟩ := S108.appendP (P := Tryz.prog) (Inc.rfl _) te22 (i := 1) rfl (els30.mono upI) (h93.mono ((i34.tr i55).tr r79.run.inc)) hz97
      have S103 : St Ha wa H76 w101 [.row 9 1 v105 0 [], .row 9 1 v98 n99 cs100, .row 74 6 v80 n81 cs82] := S103
      have els104 : Els (up wa.heap.size H76) eS 1 cs100 xs96 := els104.any (fun _ _ _ _ h => h)
      refine FC.val (l' := (bs 23 524287)) rfl (by kernel_rfl) rfl rfl rfl (E.append rfl rfl run102) ?_
      refine ⟨(SP.nil S103.sl), ?_⟩
      refine FB.all2 (i := 19) (j := 21) (by kernel_rfl) ?_ ?_
      ·
       obtain ⟨v124, w127, n125, cs126, run128, S129, els130⟩ := S103.appendP (P := Tryz.prog) (Inc.rfl _) te22 (i := 0) rfl (els109.mono upI) (h121.mono ((i34.tr i55).tr r79.run.inc)) hz123
       have S129 : St Ha wa H76 w127 [.row 9 1 v124 n125 cs126, .row 9 1 v98 n99 cs100, .row 74 6 v80 n81 cs82] := S129
       have els130 : Els (up wa.heap.size H76) eS 1 cs126 xs122 := els130.any (fun _ _ _ _ h => h)
       refine FC.val (l' := (bs 23 1048575)) rfl (by kernel_rfl) rfl rfl rfl (E.append rfl rfl run128) ?_
       refine ⟨(SP.nil S129.sl), ?_⟩
       obtain ⟨H131, S132, i133, h134, nv135⟩ := S129.sealRowU (i := 1) (l' := [.row 9 1 v124 n125 cs126, .row 74 6 v80 n81 cs82]) rfl els104 (by decide) rfl
       obtain ⟨H136, S137, i138, h139, nv140⟩ := S132.sealRowU (i := 0) (l' := [.row 74 6 v80 n81 cs82]) rfl (els130.mono (up_mono i133)) (by decide) rfl
       refine FB.t (i := 20) (bs 23 2097151) rfl (SP.nil S129.sl) rfl (fun w' hw' => (E.build (B2 rfl rfl) (run_build _ 68 #[(0, v98), (1, v124)] #[v98, v124] (by obtain ⟨_, _, rfl⟩ := RSl.ln (h134.mono (upI.tr i138)); obtain ⟨_, _, rfl⟩ := RSl.ln (h139.mono upI); rfl)))) ?_
       refine FB.all1 (i := 21) (by kernel_rfl) ?_
       ·
        obtain ⟨b141, w142, run143, S144⟩ := S137.alloc (P := Tryz.prog) 68 [Value.slice none 0 0, Value.slice none 0 0] Tryz.zeroValue68 rfl (ones_cons rfl (ones_cons rfl ones_nil))
        refine FC.val (l' := (bs 23 4194303)) rfl (by kernel_rfl) rfl rfl rfl (E.alloc run143) ?_
        refine ⟨(SP.nil (Sl.of_inc (i133.tr i138) S144.sl)), ?_⟩
        refine FB.all1 (i := 22) (by kernel_rfl) ?_
        ·
         obtain ⟨w145, run146, S147⟩ := S144.store0 (P := Tryz.prog) (t := 68) (i := 0) (cs' := [v98, v124]) (l' := [.box b141 68 [v98, v124], .row 74 6 v80 n81 cs82]) (v := Value.agg #[v98, v124]) (c := [v98, v124]) rfl Tryz.sizeOf68 rfl rfl (ones_cons h134.one (ones_cons h139.one ones_nil)) (Nat.le_of_ble_eq_true rfl) rfl rfl
         refine FC.act (l' := (bs 23 8388607)) rfl (by kernel_rfl) rfl rfl (E.store rfl rfl run146) ?_
         obtain ⟨H148, S149, i150, at151⟩ := S147.sealBox (i := 0) (l' := [.row 74 6 v80 n81 cs82]) rfl rfl
         refine ⟨(SP.nil (Sl.of_inc ((i133.tr i138).tr i150) S149.sl)), ?_⟩
         exact FB.done (by kernel_rfl) ⟨_, _, S149, ((i133.tr i138).tr i150), (PAt.mk at151 ⟨_, _, rfl, (h134.mono (upI.tr (i138.tr i150))), (h139.mono (upI.tr i150))⟩), k64, k66, rfl, rfl⟩
      ·
       obtain ⟨b141, w142, run143, S144⟩ := S103.alloc (P := Tryz.prog) 68 [Value.slice none 0 0, Value.slice none 0 0] Tryz.zeroValue68 rfl (ones_cons rfl (ones_cons rfl ones_nil))
       refine FC.val (l' := (bs 23 2621439)) rfl (by kernel_rfl) rfl rfl rfl (E.alloc run143) ?_
       refine ⟨(SP.nil S144.sl), ?_⟩
       refine FB.all1 (i := 19) (by kernel_rfl) ?_
       ·
        obtain ⟨v124, w127, n125, cs126, run128, S129, els130⟩ := S144.appendP (P := Tryz.prog) (Inc.rfl _) te22 (i := 1) rfl (els109.mono upI) (h121.mono ((i34.tr i55).tr r79.run.inc)) hz123
        have S129 : St Ha wa H76 w127 [.box b141 68 [Value.slice none 0 0, Value.slice none 0 0], .row 9 1 v124 n125 cs126, .row 9 1 v98 n99 cs100, .row 74 6 v80 n81 cs82] := S129
        have els130 : Els (up wa.heap.size H76) eS 1 cs126 xs122 := els130.any (fun _ _ _ _ h => h)
        refine FC.val (l' := (bs 23 3145727)) rfl (by kernel_rfl) rfl rfl rfl (E.append rfl rfl run128) ?_
        refine ⟨(SP.nil S129.sl), ?_⟩
        obtain ⟨H131, S132, i133, h134, nv135⟩ := S129.sealRowU (i := 2) (l' := [.box b141 68 [Value.slice none 0 0, Value.slice none 0 0], .row 9 1 v124 n125 cs126, .row 74 6 v80 n81 cs82]) rfl els104 (by decide) rfl
        obtain ⟨H136, S137, i138, h139, nv140⟩ := S132.sealRowU (i := 1) (l' := [.box b141 68 [Value.slice none 0 0, Value.slice none 0 0], .row 74 6 v80 n81 cs82]) rfl (els130.mono (up_mono i133)) (by decide) rfl
        refine FB.t (i := 20) (bs 23 4194303) rfl (SP.nil S129.sl) rfl (fun w' hw' => (E.build (B2 rfl rfl) (run_build _ 68 #[(0, v98), (1, v124)] #[v98, v124] (by obtain ⟨_, _, rfl⟩ := RSl.ln (h134.mono (upI.tr i138)); obtain ⟨_, _, rfl⟩ := RSl.ln (h139.mono upI); rfl)))) ?_
        refine FB.all1 (i := 22) (by kernel_rfl) ?_
        ·
         obtain ⟨w145, run146, S147⟩ := S137.store0 (P := Tryz.prog) (t := 68) (i := 0) (cs' := [v98, v124]) (l' := [.box b141 68 [v98, v124], .row 74 6 v80 n81 cs82]) (v := Value.agg #[v98, v124]) (c := [v98, v124]) rfl Tryz.sizeOf68 rfl rfl (ones_cons h134.one (ones_cons h139.one ones_nil)) (Nat.le_of_ble_eq_true rfl) rfl rfl
         refine FC.act (l' := (bs 23 8388607)) rfl (by kernel_rfl) rfl rfl (E.store rfl rfl run146) ?_
         obtain ⟨H148, S149, i150, at151⟩ := S147.sealBox (i := 0) (l' := [.row 74 6 v80 n81 cs82]) rfl rfl
         refine ⟨(SP.nil (Sl.of_inc ((i133.tr i138).tr i150) S149.sl)), ?_⟩
         exact FB.done (by kernel_rfl) ⟨_, _, S149, ((i133.tr i138).tr i150), (PAt.mk at151 ⟨_, _, rfl, (h134.mono (upI.tr (i138.tr i150))), (h139.mono (upI.tr i150))⟩), k64, k66, rfl, rfl⟩
     ·
      obtain ⟨b141, w142, run143, S144⟩ := S108.alloc (P := Tryz.prog) 68 [Value.slice none 0 0, Value.slice none 0 0] Tryz.zeroValue68 rfl (ones_cons rfl (ones_cons rfl ones_nil))
      refine FC.val (l' := (bs 23 2620927)) rfl (by kernel_rfl) rfl rfl rfl (E.alloc run143) ?_
      refine ⟨(SP.nil S144.sl), ?_⟩
      refine FB.all1 (i := 9) (by kernel_rfl) ?_
      ·
       obtain ⟨v98, w101, n99, cs100, run102, S103, els104⟩ := S144.appendP (P := Tryz.prog) (Inc.rfl _) te22 (i := 2) rfl (els30.mono upI) (h93.mono ((i34.tr i55).tr r79.run.inc)) hz97
       have S103 : St Ha wa H76 w101 [.box b141 68 [Value.slice none 0 0, Value.slice none 0 0], .row 9 1 v105 0 [], .row 9 1 v98 n99 cs100, .row 74 6 v80 n81 cs82] := S103
       have els104 : Els (up wa.heap.size H76) eS 1 cs100 xs96 := els104.any (fun _ _ _ _ h => h)
       refine FC.val (l' := (bs 23 2621439)) rfl (by kernel_rfl) rfl rfl rfl (E.append rfl rfl run102) ?_
       refine ⟨(SP.nil S103.sl), ?_⟩
       refine FB.all1 (i := 19) (by kernel_rfl) ?_
       ·
        obtain ⟨v124, w127, n125, cs126, run128, S129, els130⟩ := S103.appendP (P := Tryz.prog) (Inc.rfl _) te22 (i := 1) rfl (els109.mono upI) (h121.mono ((i34.tr i55).tr r79.run.inc)) hz123
        have S129 : St Ha wa H76 w127 [.box b141 68 [Value.slice none 0 0, Value.slice none 0 0], .row 9 1 v124 n125 cs126, .row 9 1 v98 n99 cs100, .row 74 6 v80 n81 cs82] := S129
        have els130 : Els (up wa.heap.size H76) eS 1 cs126 xs122 := els130.any (fun _ _ _ _ h => h)
        refine FC.val (l' := (bs 23 3145727)) rfl (by kernel_rfl) rfl rfl rfl (E.append rfl rfl run128) ?_
        refine ⟨(SP.nil S129.sl), ?_⟩
        obtain ⟨H131, S132, i133, h134, nv135⟩ := S129.sealRowU (i := 2) (l' := [.box b141 68 [Value.slice none 0 0, Value.slice none 0 0], .row 9 1 v124 n125 cs126, .row 74 6 v80 n81 cs82]) rfl els104 (by decide) rfl
        obtain ⟨H136, S137, i138, h139, nv140⟩ := S132.sealRowU (i := 1) (l' := [.box b141 68 [Value.slice none 0 0, Value.slice none 0 0], .row 74 6 v80 n81 cs82]) rfl (els130.mono (up_mono i133)) (by decide) rfl
        refine FB.t (i := 20) (bs 23 4194303) rfl (SP.nil S129.sl) rfl (fun w' hw' => (E.build (B2 rfl rfl) (run_build _ 68 #[(0, v98), (1, v124)] #[v98, v124] (by obtain ⟨_, _, rfl⟩ := RSl.ln (h134.mono (upI.tr i138)); obtain ⟨_, _, rfl⟩ := RSl.ln (h139.mono upI); rfl)))) ?_
        refine FB.all1 (i := 22) (by kernel_rfl) ?_
        ·
         obtain ⟨w145, run146, S147⟩ := S137.store0 (P := Tryz.prog) (t := 68) (i := 0) (cs' := [v98, v124]) (l' := [.box b141 68 [v98, v124], .row 74 6 v80 n81 cs82]) (v := Value.agg #[v98, v124]) (c := [v98, v124]) rfl Tryz.sizeOf68 rfl rfl (ones_cons h134.one (ones_cons h139.one ones_nil)) (Nat.le_of_ble_eq_true rfl) rfl rfl
         refine FC.act (l' := (bs 23 8388607)) rfl (by kernel_rfl) rfl rfl (E.store rfl rfl run146) ?_
         obtain ⟨H148, S149, i150, at151⟩ := S147.sealBox (i := 0) (l' := [.row 74 6 v80 n81 cs82]) rfl rfl
         refine ⟨(SP.nil (Sl.of_inc ((i133.tr i138).tr i150) S149.sl)), ?_⟩
         exact FB.done (by kernel_rfl) ⟨_, _, S149, ((i133.tr i138).tr i150), (PAt.mk at151 ⟨_, _, rfl, (h134.mono (upI.tr (i138.tr i150))), (h139.mono (upI.tr i150))⟩), k64, k66, rfl, rfl⟩
    ·
     obtain ⟨b141, w142, run143, S144⟩ := S29.alloc (P := Tryz.prog) 68 [Value.slice none 0 0, Value.slice none 0 0] Tryz.zeroValue68 rfl (ones_cons rfl (ones_cons rfl ones_nil))
     refine FC.val (l' := (bs 23 2619903)) rfl (by kernel_rfl) rfl rfl rfl (E.alloc run143) ?_
     refine ⟨(SP.nil S144.sl), ?_⟩
     refine FB.all2 (i := 9) (j := 10) (by kernel_rfl) ?_ ?_
     ·
      obtain ⟨v98, w101, n99, cs100, run102, S103, els104⟩ := S144.appendP (P := Tryz.prog) (Inc.rfl _) te22 (i := 1) rfl (els30.mono upI) (h93.mono ((i34.tr i55).tr r79.run.inc)) hz97
      have S103 : St Ha wa H76 w101 [.box b141 68 [Value.slice none 0 0, Value.slice none 0 0], .row 9 1 v98 n99 cs100, .row 74 6 v80 n81 cs82] := S103
      have els104 : Els (up wa.heap.size H76) eS 1 cs100 xs96 := els104.any (fun _ _ _ _ h => h)
      refine FC.val (l' := (bs 23 2620415)) rfl (by kernel_rfl) rfl rfl rfl (E.append rfl rfl run102) ?_
      refine ⟨(SP.nil S103.sl), ?_⟩
      refine FB.all1 (i := 10) (by kernel_rfl) ?_
      ·
       obtain ⟨v105, w106, run107, S108⟩ := S103.buildSlice (P := Tryz.prog) te22 [] (parts := #[]) (cells := []) rfl szs_nil fc_nil ones_nil (Nat.le_of_ble_eq_true rfl)
       have els109 : Els (up wa.heap.size H76) eS 1 [] [] := Els.nil
       refine FC.val (l' := (bs 23 2621439)) rfl (by kernel_rfl) rfl rfl rfl (E.buildSlice (B0) run107) ?_
       refine ⟨(SP.nil S108.sl), ?_⟩
       refine FB.all1 (i := 19) (by kernel_rfl) ?_
       ·
        obtain ⟨v124, w127, n125, cs126, run128, S129, els130⟩ := S108.appendP (P := Tryz.prog) (Inc.rfl _) te22 (i := 0) rfl (els109.mono upI) (h121.mono ((i34.tr i55).tr r79.run.inc)) hz123
        have S129 : St Ha wa H76 w127 [.row 9 1 v124 n125 cs126, .box b141 68 [Value.slice none 0 0, Value.slice none 0 0], .row 9 1 v98 n99 cs100, .row 74 6 v80 n81 cs82] := S129
        have els130 : Els (up wa.heap.size H76) eS 1 cs126 xs122 := els130.any (fun _ _ _ _ h => h)
        refine FC.val (l' := (bs 23 3145727)) rfl (by kernel_rfl) rfl rfl rfl (E.append rfl rfl run128) ?_
        refine ⟨(SP.nil S129.sl), ?_⟩
        obtain ⟨H131, S132, i133, h134, nv135⟩ := S129.sealRowU (i := 2) (l' := [.row 9 1 v124 n125 cs126, .box b141 68 [Value.slice none 0 0, Value.slice none 0 0], .row 74 6 v80 n81 cs82]) rfl els104 (by decide) rfl
        obtain ⟨H136, S137, i138, h139, nv140⟩ := S132.sealRowU (i := 0) (l' := [.box b141 68 [Value.slice none 0 0, Value.slice none 0 0], .row 74 6 v80 n81 cs82]) rfl (els130.mono (up_mono i133)) (by decide) rfl
        refine FB.t (i := 20) (bs 23 4194303) rfl (SP.nil S129.sl) rfl (fun w' hw' => (E.build (B2 rfl rfl) (run_build _ 68 #[(0, v98), (1, v124)] #[v98, v124] (by obtain ⟨_, _, rfl⟩ := RSl.ln (h134.mono (upI.tr i138)); obtain ⟨_, _, rfl⟩ := RSl.ln (h139.mono upI); rfl)))) ?_
        refine FB.all1 (i := 22) (by kernel_rfl) ?_
        ·
         obtain ⟨w145, run146, S147⟩ := S137.store0 (P := Tryz.prog) (t := 68) (i := 0) (cs' := [v98, v124]) (l' := [.box b141 68 [v98, v124], .row 74 6 v80 n81 cs82]) (v := Value.agg #[v98, v124]) (c := [v98, v124]) rfl Tryz.sizeOf68 rfl rfl (ones_cons h134.one (ones_cons h139.one ones_nil)) (Nat.le_of_ble_eq_true rfl) rfl rfl
         refine FC.act (l' := (bs 23 8388607)) rfl (by kernel_rfl) rfl rfl (E.store rfl rfl run146) ?_
         obtain ⟨H148, S149, i150, at151⟩ := S147.sealBox (i := 0) (l' := [.row 74 6 v80 n81 cs82]) rfl rfl
         refine ⟨(SP.nil (Sl.of_inc ((i133.tr i138).tr i150) S149.sl)), ?_⟩
         exact FB.done (by kernel_rfl) ⟨_, _, S149, ((i133.tr i138).tr i150), (PAt.mk at151 ⟨_, _, rfl, (h134.mono (upI.tr (i138.tr i150))), (h139.mono (upI.tr i150))⟩), k64, k66, rfl, rfl⟩
     ·
      obtain ⟨v105, w106, run107, S108⟩ := S144.buildSlice (P := Tryz.prog) te22 [] (parts := #[]) (cells := []) rfl szs_nil fc_nil ones_nil (Nat.le_of_ble_eq_true rfl)
      have els109 : Els (up wa.heap.size H76) eS 1 [] [] := Els.nil
      refine FC.val (l' := (bs 23 2620927)) rfl (by kernel_rfl) rfl rfl rfl (E.buildSlice (B0) run107) ?_
      refine ⟨(SP.nil S108.sl), ?_⟩
      refine FB.all1 (i := 9) (by kernel_rfl) ?_
      ·
       obtain ⟨v98, w101, n99, cs100, run102, S103, els104⟩ := S108.appendP (P := Tryz.prog) (Inc.rfl _) te22 (i := 2) rfl (els30.mono upI) (h93.mono ((i34.tr i55).tr r79.run.inc)) hz97
       have S103 : St Ha wa H76 w101 [.row 9 1 v105 0 [], .box b141 68 [Value.slice none 0 0, Value.slice none 0 0], .row 9 1 v98 n99 cs100, .row 74 6 v80 n81 cs82] := S103
       have els104 : Els (up wa.heap.size H76) eS 1 cs100 xs96 := els104.any (fun _ _ _ _ h => h)
       refine FC.val (l' := (bs 23 2621439)) rfl (by kernel_rfl) rfl rfl rfl (E.append rfl rfl run102) ?_
       refine ⟨(SP.nil S103.sl), ?_⟩
       refine FB.all1 (i := 19) (by kernel_rfl) ?_
       ·
        obtain ⟨v124, w127, n125, cs126, run128, S129, els130⟩ := S103.appendP (P := Tryz.prog) (Inc.rfl _) te22 (i := 0) rfl (els109.mono upI) (h121.mono ((i34.tr i55).tr r79.run.inc)) hz123
        have S129 : St Ha wa H76 w127 [.row 9 1 v124 n125 cs126, .box b141 68 [Value.slice none 0 0, Value.slice none 0 0], .row 9 1 v98 n99 cs100, .row 74 6 v80 n81 cs82] := S129
        have els130 : Els (up wa.heap.size H76) eS 1 cs126 xs122 := els130.any (fun _ _ _ _ h => h)
        refine FC.val (l' := (bs 23 3145727)) rfl (by kernel_rfl) rfl rfl rfl (E.append rfl rfl run128) ?_
        refine ⟨(SP.nil S129.sl), ?_⟩
        obtain ⟨H131, S132, i133, h134, nv135⟩ := S129.sealRowU (i := 2) (l' := [.row 9 1 v124 n125 cs126, .box b141 68 [Value.slice none 0 0, Value.slice none 0 0], .row 74 6 v80 n81 cs82]) rfl els104 (by decide) rfl
        obtain ⟨H136, S137, i138, h139, nv140⟩ := S132.sealRowU (i := 0) (l' := [.box b141 68 [Value.slice none 0 0, Value.slice none 0 0], .row 74 6 v80 n81 cs82]) rfl (els130.mono (up_mono i133)) (by decide) rfl
        refine FB.t (i := 20) (bs 23 4194303) rfl (SP.nil S129.sl) rfl (fun w' hw' => (E.build (B2 rfl rfl) (run_build _ 68 #[(0, v98), (1, v124)] #[v98, v124] (by obtain ⟨_, _, rfl⟩ := RSl.ln (h134.mono (upI.tr i138)); obtain ⟨_, _, rfl⟩ := RSl.ln (h139.mono upI); rfl)))) ?_
        refine FB.all1 (i := 22) (by kernel_rfl) ?_
        ·
         obtain ⟨w145, run146, S147⟩ := S137.store0 (P := Tryz.prog) (t := 68) (i := 0) (cs' := [v98, v124]) (l' := [.box b141 68 [v98, v124], .row 74 6 v80 n81 cs82]) (v := Value.agg #[v98, v124]) (c := [v98, v124]) rfl Tryz.sizeOf68 rfl rfl (ones_cons h134.one (ones_cons h139.one ones_nil)) (Nat.le_of_ble_eq_true rfl) rfl rfl
         refine FC.act (l' := (bs 23 8388607)) rfl (by kernel_rfl) rfl rfl (E.store rfl rfl run146) ?_
         obtain ⟨H148, S149, i150, at151⟩ := S147.sealBox (i := 0) (l' := [.row 74 6 v80 n81 cs82]) rfl rfl
         refine ⟨(SP.nil (Sl.of_inc ((i133.tr i138).tr i150) S149.sl)), ?_⟩
         exact FB.done (by kernel_rfl) ⟨_, _, S149, ((i133.tr i138).tr i150), (PAt.mk at151 ⟨_, _, rfl, (h134.mono (upI.tr (i138.tr i150))), (h139.mono (upI.tr i150))⟩), k64, k66, rfl, rfl⟩
   ·
    obtain ⟨v105, w106, run107, S108⟩ := S88.buildSlice (P := Tryz.prog) te22 [] (parts := #[]) (cells := []) rfl szs_nil fc_nil ones_nil (Nat.le_of_ble_eq_true rfl)
    have els109 : Els (up wa.heap.size H76) eS 1 [] [] := Els.nil
    refine FC.val (l' := (bs 23 523774)) rfl (by kernel_rfl) rfl rfl rfl (E.buildSlice (B0) run107) ?_
    refine ⟨(SP.nil S108.sl), ?_⟩
    refine FB.all2 (i := 0) (j := 21) (by kernel_rfl) ?_ ?_
    ·
     obtain ⟨v26, w27, run28, S29⟩ := S108.buildSlice (P := Tryz.prog) te22 [] (parts := #[]) (cells := []) rfl szs_nil fc_nil ones_nil (Nat.le_of_ble_eq_true rfl)
     have els30 : Els (up wa.heap.size H76) eS 1 [] [] := Els.nil
     refine FC.val (l' := (bs 23 523775)) rfl (by kernel_rfl) rfl rfl rfl (E.buildSlice (B0) run28) ?_
     refine ⟨(SP.nil S29.sl), ?_⟩
     refine FB.all2 (i := 9) (j := 21) (by kernel_rfl) ?_ ?_
     ·
      obtain ⟨v98, w101, n99, cs100, run102, S103, els104⟩ := S29.appendP (P := Tryz.prog) (Inc.rfl _) te22 (i := 0) rfl (els30.mono upI) (h93.mono ((i34.tr i55).tr r79.run.inc)) hz97
      have S103 : St Ha wa H76 w101 [.row 9 1 v98 n99 cs100, .row 9 1 v105 0 [], .row 74 6 v80 n81 cs82] := S103
      have els104 : Els (up wa.heap.size H76) eS 1 cs100 xs96 := els104.any (fun _ _ _ _ h => h)
      refine FC.val (l' := (bs 23 524287)) rfl (by kernel_rfl) rfl rfl rfl (E.append rfl rfl run102) ?_
      refine ⟨(SP.nil S103.sl), ?_⟩
      refine FB.all2 (i := 19) (j := 21) (by kernel_rfl) ?_ ?_
      ·
       obtain ⟨v124, w127, n125, cs126, run128, S129, els130⟩ := S103.appendP (P := Tryz.prog) (Inc.rfl _) te22 (i := 1) rfl (els109.mono upI) (h121.mono ((i34.tr i55).tr r79.run.inc)) hz123
       have S129 : St Ha wa H76 w127 [.row 9 1 v98 n99 cs100, .row 9 1 v124 n125 cs126, .row 74 6 v80 n81 cs82] := S129
       have els130 : Els (up wa.heap.size H76) eS 1 cs126 xs122 := els130.any (fun _ _ _ _ h => h)
       refine FC.val (l' := (bs 23 1048575)) rfl (by kernel_rfl) rfl rfl rfl (E.append rfl rfl run128) ?_
       refine ⟨(SP.nil S129.sl), ?_⟩
       obtain ⟨H131, S132, i133, h134, nv135⟩ := S129.sealRowU (i := 0) (l' := [.row 9 1 v124 n125 cs126, .row 74 6 v80 n81 cs82]) rfl els104 (by decide) rfl
       obtain ⟨H136, S137, i138, h139, nv140⟩ := S132.sealRowU (i := 0) (l' := [.row 74 6 v80 n81 cs82]) rfl (els130.mono (up_mono i133)) (by decide) rfl
       refine FB.t (i := 20) (bs 23 2097151) rfl (SP.nil S129.sl) rfl (fun w' hw' => (E.build (B2 rfl rfl) (run_build _ 68 #[(0, v98), (1, v124)] #[v98, v124] (by obtain ⟨_, _, rfl⟩ := RSl.ln (h134.mono (upI.tr i138)); obtain ⟨_, _, rfl⟩ := RSl.ln (h139.mono upI); rfl)))) ?_
       refine FB.all1 (i := 21) (by kernel_rfl) ?_
       ·
        obtain ⟨b141, w142, run143, S144⟩ := S137.alloc (P := Tryz.prog) 68 [Value.slice none 0 0, Value.slice none 0 0] Tryz.zeroValue68 rfl (ones_cons rfl (ones_cons rfl ones_nil))
        refine FC.val (l' := (bs 23 4194303)) rfl (by kernel_rfl) rfl rfl rfl (E.alloc run143) ?_
        refine ⟨(SP.nil (Sl.of_inc (i133.tr i138) S144.sl)), ?_⟩
        refine FB.all1 (i := 22) (by kernel_rfl) ?_
        ·
         obtain ⟨w145, run146, S147⟩ := S144.store0 (P := Tryz.prog) (t := 68) (i := 0) (cs' := [v98, v124]) (l' := [.box b141 68 [v98, v124], .row 74 6 v80 n81 cs82]) (v := Value.agg #[v98, v124]) (c := [v98, v124]) rfl Tryz.sizeOf68 rfl rfl (ones_cons h134.one (ones_cons h139.one ones_nil)) (Nat.le_of_ble_eq_true rfl) rfl rfl
         refine FC.act (l' := (bs 23 8388607)) rfl (by kernel_rfl) rfl rfl (E.store rfl rfl run146) ?_
         obtain ⟨H148, S149, i150, at151⟩ := S147.sealBox (i := 0) (l' := [.row 74 6 v80 n81 cs82]) rfl rfl
         refine ⟨(SP.nil (Sl.of_inc ((i133.tr i138).tr i150) S149.sl)), ?_⟩
         exact FB.done (by kernel_rfl) ⟨_, _, S149, ((i133.tr i138).tr i150), (PAt.mk at151 ⟨_, _, rfl, (h134.mono (upI.tr (i138.tr i150))), (h139.mono (upI.tr i150))⟩), k64, k66, rfl, rfl⟩
      ·
       obtain ⟨b141, w142, run143, S144⟩ := S103.alloc (P := Tryz.prog) 68 [Value.slice none 0 0, Value.slice none 0 0] Tryz.zeroValue68 rfl (ones_cons rfl (ones_cons rfl ones_nil))
       refine FC.val (l' := (bs 23 2621439)) rfl (by kernel_rfl) rfl rfl rfl (E.alloc run143) ?_
       refine ⟨(SP.nil S144.sl), ?_⟩
       refine FB.all1 (i := 19) (by kernel_rfl) ?_
       ·
        obtain ⟨v124, w127, n125, cs126, run128, S129, els130⟩ := S144.appendP (P := Tryz.prog) (Inc.rfl _) te22 (i := 2) rfl (els109.mono upI) (h121.mono ((i34.tr i55).tr r79.run.inc)) hz123
        have S129 : St Ha wa H76 w127 [.box b141 68 [Value.slice none 0 0, Value.slice none 0 0], .row 9 1 v98 n99 cs100, .row 9 1 v124 n125 cs126, .row 74 6 v80 n81 cs82] := S129
        have els130 : Els (up wa.heap.size H76) eS 1 cs126 xs122 := els130.any (fun _ _ _ _ h => h)
        refine FC.val (l' := (bs 23 3145727)) rfl (by kernel_rfl) rfl rfl rfl (E.append rfl rfl run128) ?_
        refine ⟨(SP.nil S129.sl), ?_⟩
        obtain ⟨H131, S132, i133, h134, nv135⟩ := S129.sealRowU (i := 1) (l' := [.box b141 68 [Value.slice none 0 0, Value.slice none 0 0], .row 9 1 v124 n125 cs126, .row 74 6 v80 n81 cs82]) rfl els104 (by decide) rfl
        obtain ⟨H136, S137, i138, h139, nv140⟩ := S132.sealRowU (i := 1) (l' := [.box b141 68 [Value.slice none 0 0, Value.slice none 0 0], .row 74 6 v80 n81 cs82]) rfl (els130.mono (up_mono i133)) (by decide) rfl
        refine FB.t (i := 20) (bs 23 4194303) rfl (SP.nil S129.sl) rfl (fun w' hw' => (E.build (B2 rfl rfl) (run_build _ 68 #[(0, v98), (1, v124)] #[v98, v124] (by obtain ⟨_, _, rfl⟩ := RSl.ln (h134.mono (upI.tr i138)); obtain ⟨_, _, rfl⟩ := RSl.ln (h139.mono upI); rfl)))) ?_
        refine FB.all1 (i := 22) (by kernel_rfl) ?_
        ·
         obtain ⟨w145, run146, S147⟩ := S137.store0 (P := Tryz.prog) (t := 68) (i := 0) (cs' := [v98, v124]) (l' := [.box b141 68 [v98, v124], .row 74 6 v80 n81 cs82]) (v := Value.agg #[v98, v124]) (c := [v98, v124]) rfl Tryz.sizeOf68 rfl rfl (ones_cons h134.one (ones_cons h139.one ones_nil)) (Nat.le_of_ble_eq_true rfl) rfl rfl
         refine FC.act (l' := (bs 23 8388607)) rfl (by kernel_rfl) rfl rfl (E.store rfl rfl run146) ?_
         obtain ⟨H148, S149, i150, at151⟩ := S147.sealBox (i := 0) (l' := [.row 74 6 v80 n81 cs82]) rfl rfl
         refine ⟨(SP.nil (Sl.of_inc ((i133.tr i138).tr i150) S149.sl)), ?_⟩
         exact FB.done (by kernel_rfl) ⟨_, _, S149, ((i133.tr i138).tr i150), (PAt.mk at151 ⟨_, _, rfl, (h134.mono (upI.tr (i138.tr i150))), (h139.mono (upI.tr i150))⟩), k64, k66, rfl, rfl⟩
     ·
      obtain ⟨b141, w142, run143, S144⟩ := S29.alloc (P := Tryz.prog) 68 [Value.slice none 0 0, Value.slice none 0 0] Tryz.zeroValue68 rfl (ones_cons rfl (ones_cons rfl ones_nil))
      refine FC.val (l' := (bs 23 2620927)) rfl (by kernel_rfl) rfl rfl rfl (E.alloc run143) ?_
      refine ⟨(SP.nil S144.sl), ?_⟩
      refine FB.all1 (i := 9) (by kernel_rfl) ?_
      ·
       obtain ⟨v98, w101, n99, cs100, run102, S103, els104⟩ := S144.appendP (P := Tryz.prog) (Inc.rfl _) te22 (i := 1) rfl (els30.mono upI) (h93.mono ((i34.tr i55).tr r79.run.inc)) hz97
       have S103 : St Ha wa H76 w101 [.box b141 68 [Value.slice none 0 0, Value.slice none 0 0], .row 9 1 v98 n99 cs100, .row 9 1 v105 0 [], .row 74 6 v80 n81 cs82] := S103
       have els104 : Els (up wa.heap.size H76) eS 1 cs100 xs96 := els104.any (fun _ _ _ _ h => h)
       refine FC.val (l' := (bs 23 2621439)) rfl (by kernel_rfl) rfl rfl rfl (E.append rfl rfl run102) ?_
       refine ⟨(SP.nil S103.sl), ?_⟩
       refine FB.all1 (i := 19) (by kernel_rfl) ?_
       ·
        obtain ⟨v124, w127, n125, cs126, run128, S129, els130⟩ := S103.appendP (P := Tryz.prog) (Inc.rfl _) te22 (i := 2) rfl (els109.mono upI) (h121.mono ((i34.tr i55).tr r79.run.inc)) hz123
        have S129 : St Ha wa H76 w127 [.box b141 68 [Value.slice none 0 0, Value.slice none 0 0], .row 9 1 v98 n99 cs100, .row 9 1 v124 n125 cs126, .row 74 6 v80 n81 cs82] := S129
        have els130 : Els (up wa.heap.size H76) eS 1 cs126 xs122 := els130.any (fun _ _ _ _ h => h)
        refine FC.val (l' := (bs 23 3145727)) rfl (by kernel_rfl) rfl rfl rfl (E.append rfl rfl run128) ?_
        refine ⟨(SP.nil S129.sl), ?_⟩
        obtain ⟨H131, S132, i133, h134, nv135⟩ := S129.sealRowU (i := 1) (l' := [.box b141 68 [Value.slice none 0 0, Value.slice none 0 0], .row 9 1 v124 n125 cs126, .row 74 6 v80 n81 cs82]) rfl els104 (by decide) rfl
        obtain ⟨H136, S137, i138, h139, nv140⟩ := S132.sealRowU (i := 1) (l' := [.box b141 68 [Value.slice none 0 0, Value.slice none 0 0], .row 74 6 v80 n81 cs82]) rfl (els130.mono (up_mono i133)) (by decide) rfl
        refine FB.t (i := 20) (bs 23 4194303) rfl (SP.nil S129.sl) rfl (fun w' hw' => (E.build (B2 rfl rfl) (run_build _ 68 #[(0, v98), (1, v124)] #[v98, v124] (by obtain ⟨_, _, rfl⟩ := RSl.ln (h134.mono (upI.tr i138)); obtain ⟨_, _, rfl⟩ := RSl.ln (h139.mono upI); rfl)))) ?_
        refine FB.all1 (i := 22) (by kernel_rfl) ?_
        ·
         obtain ⟨w145, run146, S147⟩ := S137.store0 (P := Tryz.prog) (t := 68) (i := 0) (cs' := [v98, v124]) (l' := [.box b141 68 [v98, v124], .row 74 6 v80 n81 cs82]) (v := Value.agg #[v98, v124]) (c := [v98, v124]) rfl Tryz.sizeOf68 rfl rfl (ones_cons h134.one (ones_cons h139.one ones_nil)) (Nat.le_of_ble_eq_true rfl) rfl rfl
         refine FC.act (l' := (bs 23 8388607)) rfl (by kernel_rfl) rfl rfl (E.store rfl rfl run146) ?_
         obtain ⟨H148, S149, i150, at151⟩ := S147.sealBox (i := 0) (l' := [.row 74 6 v80 n81 cs82]) rfl rfl
         refine ⟨(SP.nil (Sl.of_inc ((i133.tr i138).tr i150) S149.sl)), ?_⟩
         exact FB.done (by kernel_rfl) ⟨_, _, S149, ((i133.tr i138).tr i150), (PAt.mk at151 ⟨_, _, rfl, (h134.mono (upI.tr (i138.tr i150))), (h139.mono (upI.tr i150))⟩), k64, k66, rfl, rfl⟩
    ·
     obtain ⟨b141, w142, run143, S144⟩ := S108.alloc (P := Tryz.prog) 68 [Value.slice none 0 0, Value.slice none 0 0] Tryz.zeroValue68 rfl (ones_cons rfl (ones_cons rfl ones_nil))
     refine FC.val (l' := (bs 23 2620926)) rfl (by kernel_rfl) rfl rfl rfl (E.alloc run143) ?_
     refine ⟨(SP.nil S144.sl), ?_⟩
     refine FB.all1 (i := 0) (by kernel_rfl) ?_
     ·
      obtain ⟨v26, w27, run28, S29⟩ := S144.buildSlice (P := Tryz.prog) te22 [] (parts := #[]) (cells := []) rfl szs_nil fc_nil ones_nil (Nat.le_of_ble_eq_true rfl)
      have els30 : Els (up wa.heap.size H76) eS 1 [] [] := Els.nil
      refine FC.val (l' := (bs 23 2620927)) rfl (by kernel_rfl) rfl rfl rfl (E.buildSlice (B0) run28) ?_
      refine ⟨(SP.nil S29.sl), ?_⟩
      refine FB.all1 (i := 9) (by kernel_rfl) ?_
      ·
       obtain ⟨v98, w101, n99, cs100, run102, S103, els104⟩ := S29.appendP (P := Tryz.prog) (Inc.rfl _) te22 (i := 0) rfl (els30.mono upI) (h93.mono ((i34.tr i55).tr r79.run.inc)) hz97
       have S103 : St Ha wa H76 w101 [.row 9 1 v98 n99 cs100, .box b141 68 [Value.slice none 0 0, Value.slice none 0 0], .row 9 1 v105 0 [], .row 74 6 v80 n81 cs82] := S103
       have els104 : Els (up wa.heap.size H76) eS 1 cs100 xs96 := els104.any (fun _ _ _ _ h => h)
       refine FC.val (l' := (bs 23 2621439)) rfl (by kernel_rfl) rfl rfl rfl (E.append rfl rfl run102) ?_
       refine ⟨(SP.nil S103.sl), ?_⟩
       refine FB.all1 (i := 19) (by kernel_rfl) ?_
       ·
        obtain ⟨v124, w127, n125, cs126, run128, S129, els130⟩ := S103.appendP (P := Tryz.prog) (Inc.rfl _) te22 (i := 2) rfl (els109.mono upI) (h121.mono ((i34.tr i55).tr r79.run.inc)) hz123
        have S129 : St Ha wa H76 w127 [.row 9 1 v98 n99 cs100, .box b141 68 [Value.slice none 0 0, Value.slice none 0 0], .row 9 1 v124 n125 cs126, .row 74 6 v80 n81 cs82] := S129
        have els130 : Els (up wa.heap.size H76) eS 1 cs126 xs122 := els130.any (fun _ _ _ _ h => h)
        refine FC.val (l' := (bs 23 3145727)) rfl (by kernel_rfl) rfl rfl rfl (E.append rfl rfl run128) ?_
        refine ⟨(SP.nil S129.sl), ?_⟩
        obtain ⟨H131, S132, i133, h134, nv135⟩ := S129.sealRowU (i := 0) (l' := [.box b141 68 [Value.slice none 0 0, Value.slice none 0 0], .row 9 1 v124 n125 cs126, .row 74 6 v80 n81 cs82]) rfl els104 (by decide) rfl
        obtain ⟨H136, S137, i138, h139, nv140⟩ := S132.sealRowU (i := 1) (l' := [.box b141 68 [Value.slice none 0 0, Value.slice none 0 0], .row 74 6 v80 n81 cs82]) rfl (els130.mono (up_mono i133)) (by decide) rfl
        refine FB.t (i := 20) (bs 23 4194303) rfl (SP.nil S129.sl) rfl (fun w' hw' => (E.build (B2 rfl rfl) (run_build _ 68 #[(0, v98), (1, v124)] #[v98, v124] (by obtain ⟨_, _, rfl⟩ := RSl.ln (h134.mono (upI.tr i138)); obtain ⟨_, _, rfl⟩ := RSl.ln (h139.mono upI); rfl)))) ?_
        refine FB.all1 (i := 22) (by kernel_rfl) ?_
        ·
         obtain ⟨w145, run146, S147⟩ := S137.store0 (P := Tryz.prog) (t := 68) (i := 0) (cs' := [v98, v124]) (l' := [.box b141 68 [v98, v124], .row 74 6 v80 n81 cs82]) (v := Value.agg #[v98, v124]) (c := [v98, v124]) rfl Tryz.sizeOf68 rfl rfl (ones_cons h134.one (ones_cons h139.one ones_nil)) (Nat.le_of_ble_eq_true rfl) rfl rfl
         refine FC.act (l' := (bs 23 8388607)) rfl (by kernel_rfl) rfl rfl (E.store rfl rfl run146) ?_
         obtain ⟨H148, S149, i150, at151⟩ := S147.sealBox (i := 0) (l' := [.row 74 6 v80 n81 cs82]) rfl rfl
         refine ⟨(SP.nil (Sl.of_inc ((i133.tr i138).tr i150) S149.sl)), ?_⟩
         exact FB.done (by kernel_rfl) ⟨_, _, S149, ((i133.tr i138).tr i150), (PAt.mk at151 ⟨_, _, rfl, (h134.mono (upI.tr (i138.tr i150))), (h139.mono (upI.tr i150))⟩), k64, k66, rfl, rfl⟩
   ·
    obtain ⟨b141, w142, run143, S144⟩ := S88.alloc (P := Tryz.prog) 68 [Value.slice none 0 0, Value.slice none 0 0] Tryz.zeroValue68 rfl (ones_cons rfl (ones_cons rfl ones_nil))
    refine FC.val (l' := (bs 23 2619902)) rfl (by kernel_rfl) rfl rfl rfl (E.alloc run143) ?_
    refine ⟨(SP.nil S144.sl), ?_⟩
    refine FB.all2 (i := 0) (j := 10) (by kernel_rfl) ?_ ?_
    ·
     obtain ⟨v26, w27, run28, S29⟩ := S144.buildSlice (P := Tryz.prog) te22 [] (parts := #[]) (cells := []) rfl szs_nil fc_nil ones_nil (Nat.le_of_ble_eq_true rfl)
     have els30 : Els (up wa.heap.size H76) eS 1 [] [] := Els.nil
     refine FC.val (l' := (bs 23 2619903)) rfl (by kernel_rfl) rfl rfl rfl (E.buildSlice (B0) run28) ?_
     refine ⟨(SP.nil S29.sl), ?_⟩
     refine FB.all2 (i := 9) (j := 10) (by kernel_rfl) ?_ ?_
     ·
      obtain ⟨v98, w101, n99, cs100, run102, S103, els104⟩ := S29.appendP (P := Tryz.prog) (Inc.rfl _) te22 (i := 0) rfl (els30.mono upI) (h93.mono ((i34.tr i55).tr r79.run.inc)) hz97
      have S103 : St Ha wa H76 w101 [.row 9 1 v98 n99 cs100, .box b141 68 [Value.slice none 0 0, Value.slice none 0 0], .row 74 6 v80 n81 cs82] := S103
      have els104 : Els (up wa.heap.size H76) eS 1 cs100 xs96 := els104.any (fun _ _ _ _ h => h)
      refine FC.val (l' := (bs 23 2620415)) rfl (by kernel_rfl) rfl rfl rfl (E.append rfl rfl run102) ?_
      refine ⟨(SP.nil S103.sl), ?_⟩
      refine FB.all1 (i := 10) (by kernel_rfl) ?_
      ·
       obtain ⟨v105, w106, run107, S108⟩ := S103.buildSlice (P := Tryz.prog) te22 [] (parts := #[]) (cells := []) rfl szs_nil fc_nil ones_nil (Nat.le_of_ble_eq_true rfl)
       have els109 : Els (up wa.heap.size H76) eS 1 [] [] := Els.nil
       refine FC.val (l' := (bs 23 2621439)) rfl (by kernel_rfl) rfl rfl rfl (E.buildSlice (B0) run107) ?_
       refine ⟨(SP.nil S108.sl), ?_⟩
       refine FB.all1 (i := 19) (by kernel_rfl) ?_
       ·
        obtain ⟨v124, w127, n125, cs126, run128, S129, els130⟩ := S108.appendP (P := Tryz.prog) (Inc.rfl _) te22 (i := 0) rfl (els109.mono upI) (h121.mono ((i34.tr i55).tr r79.run.inc)) hz123
        have S129 : St Ha wa H76 w127 [.row 9 1 v124 n125 cs126, .row 9 1 v98 n99 cs100, .box b141 68 [Value.slice none 0 0, Value.slice none 0 0], .row 74 6 v80 n81 cs82] := S129
        have els130 : Els (up wa.heap.size H76) eS 1 cs126 xs122 := els130.any (fun _ _ _ _ h => h)
        refine FC.val (l' := (bs 23 3145727)) rfl (by kernel_rfl) rfl rfl rfl (E.append rfl rfl run128) ?_
        refine ⟨(SP.nil S129.sl), ?_⟩
        obtain ⟨H131, S132, i133, h134, nv135⟩ := S129.sealRowU (i := 1) (l' := [.row 9 1 v124 n125 cs126, .box b141 68 [Value.slice none 0 0, Value.slice none 0 0], .row 74 6 v80 n81 cs82]) rfl els104 (by decide) rfl
        obtain ⟨H136, S137, i138, h139, nv140⟩ := S132.sealRowU (i := 0) (l' := [.box b141 68 [Value.slice none 0 0, Value.slice none 0 0], .row 74 6 v80 n81 cs82]) rfl (els130.mono (up_mono i133)) (by decide) rfl
        refine FB.t (i := 20) (bs 23 4194303) rfl (SP.nil S129.sl) rfl (fun w' hw' => (E.build (B2 rfl rfl) (run_build _ 68 #[(0, v98), (1, v124)] #[v98, v124] (by obtain ⟨_, _, rfl⟩ := RSl.ln (h134.mono (upI.tr i138)); obtain ⟨_, _, rfl⟩ := RSl.ln (h139.mono upI); rfl)))) ?_
        refine FB.all1 (i := 22) (by kernel_rfl) ?_
        ·
         obtain ⟨w145, run146, S147⟩ := S137.store0 (P := Tryz.prog) (t := 68) (i := 0) (cs' := [v98, v124]) (l' := [.box b141 68 [v98, v124], .row 74 6 v80 n81 cs82]) (v := Value.agg #[v98, v124]) (c := [v98, v124]) rfl Tryz.sizeOf68 rfl rfl (ones_cons h134.one (ones_cons h139.one ones_nil)) (Nat.le_of_ble_eq_true rfl) rfl rfl
         refine FC.act (l' := (bs 23 8388607)) rfl (by kernel_rfl) rfl rfl (E.store rfl rfl run146) ?_
         obtain ⟨H148, S149, i150, at151⟩ := S147.sealBox (i := 0) (l' := [.row 74 6 v80 n81 cs82]) rfl rfl
         refine ⟨(SP.nil (Sl.of_inc ((i133.tr i138).tr i150) S149.sl)), ?_⟩
         exact FB.done (by kernel_rfl) ⟨_, _, S149, ((i133.tr i138).tr i150), (PAt.mk at151 ⟨_, _, rfl, (h134.mono (upI.tr (i138.tr i150))), (h139.mono (upI.tr i150))⟩), k64, k66, rfl, rfl⟩
     ·
      obtain ⟨v105, w106, run107, S108⟩ := S29.buildSlice (P := Tryz.prog) te22 [] (parts := #[]) (cells := []) rfl szs_nil fc_nil ones_nil (Nat.le_of_ble_eq_true rfl)
      have els109 : Els (up wa.heap.size H76) eS 1 [] [] := Els.nil
      refine FC.val (l' := (bs 23 2620927)) rfl (by kernel_rfl) rfl rfl rfl (E.buildSlice (B0) run107) ?_
      refine ⟨(SP.nil S108.sl), ?_⟩
      refine FB.all1 (i := 9) (by kernel_rfl) ?_
      ·
       obtain ⟨v98, w101, n99, cs100, run102, S103, els104⟩ := S108.appendP (P := Tryz.prog) (Inc.rfl _) te22 (i := 1) rfl (els30.mono upI) (h93.mono ((i34.tr i55).tr r79.run.inc)) hz97
       have S103 : St Ha wa H76 w101 [.row 9 1 v105 0 [], .row 9 1 v98 n99 cs100, .box b141 68 [Value.slice none 0 0, Value.slice none 0 0], .row 74 6 v80 n81 cs82] := S103
       have els104 : Els (up wa.heap.size H76) eS 1 cs100 xs96 := els104.any (fun _ _ _ _ h => h)
       refine FC.val (l' := (bs 23 2621439)) rfl (by kernel_rfl) rfl rfl rfl (E.append rfl rfl run102) ?_
       refine ⟨(SP.nil S103.sl), ?_⟩
       refine FB.all1 (i := 19) (by kernel_rfl) ?_
       ·
        obtain ⟨v124, w127, n125, cs126, run128, S129, els130⟩ := S103.appendP (P := Tryz.prog) (Inc.rfl _) te22 (i := 0) rfl (els109.mono upI) (h121.mono ((i34.tr i55).tr r79.run.inc)) hz123
        have S129 : St Ha wa H76 w127 [.row 9 1 v124 n125 cs126, .row 9 1 v98 n99 cs100, .box b141 68 [Value.slice none 0 0, Value.slice none 0 0], .row 74 6 v80 n81 cs82] := S129
        have els130 : Els (up wa.heap.size H76) eS 1 cs126 xs122 := els130.any (fun _ _ _ _ h => h)
        refine FC.val (l' := (bs 23 3145727)) rfl (by kernel_rfl) rfl rfl rfl (E.append rfl rfl run128) ?_
        refine ⟨(SP.nil S129.sl), ?_⟩
        obtain ⟨H131, S132, i133, h134, nv135⟩ := S129.sealRowU (i := 1) (l' := [.row 9 1 v124 n125 cs126, .box b141 68 [Value.slice none 0 0, Value.slice none 0 0], .row 74 6 v80 n81 cs82]) rfl els104 (by decide) rfl
        obtain ⟨H136, S137, i138, h139, nv140⟩ := S132.sealRowU (i := 0) (l' := [.box b141 68 [Value.slice none 0 0, Value.slice none 0 0], .row 74 6 v80 n81 cs82]) rfl (els130.mono (up_mono i133)) (by decide) rfl
        refine FB.t (i := 20) (bs 23 4194303) rfl (SP.nil S129.sl) rfl (fun w' hw' => (E.build (B2 rfl rfl) (run_build _ 68 #[(0, v98), (1, v124)] #[v98, v124] (by obtain ⟨_, _, rfl⟩ := RSl.ln (h134.mono (upI.tr i138)); obtain ⟨_, _, rfl⟩ := RSl.ln (h139.mono upI); rfl)))) ?_
        refine FB.all1 (i := 22) (by kernel_rfl) ?_
        ·
         obtain ⟨w145, run146, S147⟩ := S137.store0 (P := Tryz.prog) (t := 68) (i := 0) (cs' := [v98, v124]) (l' := [.box b141 68 [v98, v124], .row 74 6 v80 n81 cs82]) (v := Value.agg #[v98, v124]) (c := [v98, v124]) rfl Tryz.sizeOf68 rfl rfl (ones_cons h134.one (ones_cons h139.one ones_nil)) (Nat.le_of_ble_eq_true rfl) rfl rfl
         refine FC.act (l' := (bs 23 8388607)) rfl (by kernel_rfl) rfl rfl (E.store rfl rfl run146) ?_
         obtain ⟨H148, S149, i150, at151⟩ := S147.sealBox (i := 0) (l' := [.row 74 6 v80 n81 cs82]) rfl rfl
         refine ⟨(SP.nil (Sl.of_inc ((i133.tr i138).tr i150) S149.sl)), ?_⟩
         exact FB.done (by kernel_rfl) ⟨_, _, S149, ((i133.tr i138).tr i150), (PAt.mk at151 ⟨_, _, rfl, (h134.mono (upI.tr (i138.tr i150))), (h139.mono (upI.tr i150))⟩), k64, k66, rfl, rfl⟩
    ·
     obtain ⟨v105, w106, run107, S108⟩ := S144.buildSlice (P := Tryz.prog) te22 [] (parts := #[]) (cells := []) rfl szs_nil fc_nil ones_nil (Nat.le_of_ble_eq_true rfl)
     have els109 : Els (up wa.heap.size H76) eS 1 [] [] := Els.nil
     refine FC.val (l' := (bs 23 2620926)) rfl (by kernel_rfl) rfl rfl rfl (E.buildSlice (B0) run107) ?_
     refine ⟨(SP.nil S108.sl), ?_⟩
     refine FB.all1 (i := 0) (by kernel_rfl) ?_
     ·
      obtain ⟨v26, w27, run28, S29⟩ := S108.buildSlice (P := Tryz.prog) te22 [] (parts := #[]) (cells := []) rfl szs_nil fc_nil ones_nil (Nat.le_of_ble_eq_true rfl)
      have els30 : Els (up wa.heap.size H76) eS 1 [] [] := Els.nil
      refine FC.val (l' := (bs 23 2620927)) rfl (by kernel_rfl) rfl rfl rfl (E.buildSlice (B0) run28) ?_
      refine ⟨(SP.nil S29.sl), ?_⟩
      refine FB.all1 (i := 9) (by kernel_rfl) ?_
      ·
       obtain ⟨v98, w101, n99, cs100, run102, S103, els104⟩ := S29.appendP (P := Tryz.prog) (Inc.rfl _) te22 (i := 0) rfl (els30.mono upI) (h93.mono ((i34.tr i55).tr r79.run.inc)) hz97
       have S103 : St Ha wa H76 w101 [.row 9 1 v98 n99 cs100, .row 9 1 v105 0 [], .box b141 68 [Value.slice none 0 0, Value.slice none 0 0], .row 74 6 v80 n81 cs82] := S103
       have els104 : Els (up wa.heap.size H76) eS 1 cs100 xs96 := els104.any (fun _ _ _ _ h => h)
       refine FC.val (l' := (bs 23 2621439)) rfl (by kernel_rfl) rfl rfl rfl (E.append rfl rfl run102) ?_
       refine ⟨(SP.nil S103.sl), ?_⟩
       refine FB.all1 (i := 19) (by kernel_rfl) ?_
       ·
        obtain ⟨v124, w127, n125, cs126, run128, S129, els130⟩ := S103.appendP (P := Tryz.prog) (Inc.rfl _) te22 (i := 1) rfl (els109.mono upI) (h121.mono ((i34.tr i55).tr r79.run.inc)) hz123
        have S129 : St Ha wa H76 w127 [.row 9 1 v98 n99 cs100, .row 9 1 v124 n125 cs126, .box b141 68 [Value.slice none 0 0, Value.slice none 0 0], .row 74 6 v80 n81 cs82] := S129
        have els130 : Els (up wa.heap.size H76) eS 1 cs126 xs122 := els130.any (fun _ _ _ _ h => h)
        refine FC.val (l' := (bs 23 3145727)) rfl (by kernel_rfl) rfl rfl rfl (E.append rfl rfl run128) ?_
        refine ⟨(SP.nil S129.sl), ?_⟩
        obtain ⟨H131, S132, i133, h134, nv135⟩ := S129.sealRowU (i := 0) (l' := [.row 9 1 v124 n125 cs126, .box b141 68 [Value.slice none 0 0, Value.slice none 0 0], .row 74 6 v80 n81 cs82]) rfl els104 (by decide) rfl
        obtain ⟨H136, S137, i138, h139, nv140⟩ := S132.sealRowU (i := 0) (l' := [.box b141 68 [Value.slice none 0 0, Value.slice none 0 0], .row 74 6 v80 n81 cs82]) rfl (els130.mono (up_mono i133)) (by decide) rfl
        refine FB.t (i := 20) (bs 23 4194303) rfl (SP.nil S129.sl) rfl (fun w' hw' => (E.build (B2 rfl rfl) (run_build _ 68 #[(0, v98), (1, v124)] #[v98, v124] (by obtain ⟨_, _, rfl⟩ := RSl.ln (h134.mono (upI.tr i138)); obtain ⟨_, _, rfl⟩ := RSl.ln (h139.mono upI); rfl)))) ?_
        refine FB.all1 (i := 22) (by kernel_rfl) ?_
        ·
         obtain ⟨w145, run146, S147⟩ := S137.store0 (P := Tryz.prog) (t := 68) (i := 0) (cs' := [v98, v124]) (l' := [.box b141 68 [v98, v124], .row 74 6 v80 n81 cs82]) (v := Value.agg #[v98, v124]) (c := [v98, v124]) rfl Tryz.sizeOf68 rfl rfl (ones_cons h134.one (ones_cons h139.one ones_nil)) (Nat.le_of_ble_eq_true rfl) rfl rfl
         refine FC.act (l' := (bs 23 8388607)) rfl (by kernel_rfl) rfl rfl (E.store rfl rfl run146) ?_
         obtain ⟨H148, S149, i150, at151⟩ := S147.sealBox (i := 0) (l' := [.row 74 6 v80 n81 cs82]) rfl rfl
         refine ⟨(SP.nil (Sl.of_inc ((i133.tr i138).tr i150) S149.sl)), ?_⟩
         exact FB.done (by kernel_rfl) ⟨_, _, S149, ((i133.tr i138).tr i150), (PAt.mk at151 ⟨_, _, rfl, (h134.mono (upI.tr (i138.tr i150))), (h139.mono (upI.tr i150))⟩), k64, k66, rfl, rfl⟩
  ·
   rintro f158 w157 ⟨H154, v152, S155, i156, h153, k159, k160, k161, k162⟩
   refine FW.seq (FW.region ?_)
   refine FL.v (E.move k161) ?_
   obtain ⟨y163, hy164, hp⟩ := bnd hp
   obtain ⟨q165, cs167, rfl, at166, rel168⟩ := PAt.open h153 hy164
   obtain ⟨v169, v171, rfl, h170, h172⟩ := eSequent_open rel168
   refine FL.v (E.load k162 (run_loadA Tryz.isAgg68 Tryz.sizeOf68 (at166.now S155.sl) rfl)) ?_
   refine FL.v (E.move k160) ?_
   refine FL.v (E.move k159) ?_
   refine FL.v (E.lenP te24 rfl p0) ?_
   refine FL.v (E.sub rfl rfl) ?_
   refine FL.v (E.move k161) ?_
   refine FL.v (E.lenO te24 rfl S155 (i := 0) rfl els83 (by decide)) ?_
   refine FL.v (E.sub rfl rfl) ?_
   refine FL.v (E.build (B5 rfl rfl rfl rfl rfl) (run_build _ 74 #[(0, Value.agg #[v169, v171]), (1, Value.int .i64 11), (2, Value.string a2), (3, Value.int .i64 (wr ((len a0) - 1))), (4, Value.int .i64 (wr ((len r74) - 1)))] #[v169, v171, Value.int .i64 11, Value.string a2, Value.int .i64 (wr ((len a0) - 1)), Value.int .i64 (wr ((len r74) - 1))] (by obtain ⟨_, _, rfl⟩ := RSl.ln h170; obtain ⟨_, _, rfl⟩ := RSl.ln h172; rfl))) ?_
   obtain ⟨v173, w174, run175, S176⟩ := S155.buildSlice (P := Tryz.prog) te24 [Value.agg #[v169, v171, Value.int .i64 11, Value.string a2, Value.int .i64 (wr ((len a0) - 1)), Value.int .i64 (wr ((len r74) - 1))]] (parts := #[(0, Value.agg #[v169, v171, Value.int .i64 11, Value.string a2, Value.int .i64 (wr ((len a0) - 1)), Value.int .i64 (wr ((len r74) - 1))])]) (cells := [v169, v171, Value.int .i64 11, Value.string a2, Value.int .i64 (wr ((len a0) - 1)), Value.int .i64 (wr ((len r74) - 1))]) rfl (szs_cons rfl szs_nil) (fc_cons rfl fc_nil) (ones_cons h170.one (ones_cons h172.one (ones_cons rfl (ones_cons rfl (ones_cons rfl (ones_cons rfl ones_nil)))))) (Nat.le_of_ble_eq_true rfl)
   have els177 : Els H154 eSeqStep 6 [v169, v171, Value.int .i64 11, Value.string a2, Value.int .i64 (wr ((len a0) - 1)), Value.int .i64 (wr ((len r74) - 1))] [(SeqStep.mk y163 11 a2 (wr ((len a0) - 1)) (wr ((len r74) - 1)))] := (Els.snoc (H := H154) (E := eSeqStep) (k := 6) (c := [v169, v171, Value.int .i64 11, Value.string a2, Value.int .i64 (wr ((len a0) - 1)), Value.int .i64 (wr ((len r74) - 1))]) (x := (SeqStep.mk y163 11 a2 (wr ((len a0) - 1)) (wr ((len r74) - 1)))) Els.nil rfl ⟨_, _, rfl, h170, h172⟩)
   refine FL.v (E.buildSlice (B1 rfl) run175) ?_
   obtain ⟨xs178, hz179, hp⟩ := bnd hp
   obtain ⟨v180, w183, n181, cs182, run184, S185, els186, ce187⟩ := S176.appendO (P := Tryz.prog) te24 (i := 1) (j := 0) rfl (els83.mono (upI.tr i156)) rfl els177 hz179
   have S185 : St Ha wa H154 w183 [.row 74 6 v173 1 [v169, v171, Value.int .i64 11, Value.string a2, Value.int .i64 (wr ((len a0) - 1)), Value.int .i64 (wr ((len r74) - 1))], .row 74 6 v180 n181 cs182] := S185
   have S188 : St Ha wa H154 w183 [.row 74 6 v180 n181 cs182] := S185.drop 0
   refine FL.v (E.append rfl rfl run184) ?_
   obtain ⟨s189, hq189, hp⟩ := bnd hp
   obtain ⟨R189, hR189⟩ : ∃ R189 : (Bool × (List SeqStep)) → Ending → World → Prop, R189 = (fun s189 e w => ∃ H : GH, ∃ v190 : Value, ∃ n191 : Nat, ∃ cs192 : List Value, e = Ending.returned (Value.tuple #[v190, Value.bool s189.1]) ∧ St Ha wa H w [.row 74 6 v190 n191 cs192] ∧ Inc H154 H ∧ Els H eSeqStep 6 cs192 s189.2) := ⟨_, rfl⟩
   have hc189 : Calls Tryz.prog 65 #[v180] w183 (R189 s189) := by
    clear hp; have hp := hq189; clear hq189
    refine calls_go (N := 9) (args := [v180]) Tryz.func65 rfl rfl rfl ?_
    refine FW.seq (FW.region ?_)
    refine FL.v (E.assign (v := Value.slice none 0 0) rfl) ?_
    refine FL.v (E.assign (v := Value.bool false) rfl) ?_
    refine FL.nil (FW.seq (FW.seq (FW.region ?_)))
    refine FL.v (E.move (v := v180) rfl) ?_
    obtain ⟨H194, S195, i196, h197⟩ := S188.sealRow (i := 0) (l' := []) rfl els186 (by decide) rfl
    obtain ⟨r198, hr199, hp⟩ := bnd hp
    refine FL.call rfl rfl rfl (E.call Tryz.call58 (A1 rfl)) (w_spec_l23Proof S195.sl v180 xs178 h197 hr199) ?_
    rintro e w200 ⟨rfl, r201⟩
    refine ⟨_, rfl, ?_⟩
    have r201 := Run.lend i196 S188.sl r201
    have S202 := S188.call r201
    refine FL.v (E.not rfl) ?_
    refine FL.nil ?_
    rcases ifB hp with ⟨c203, hp⟩ | ⟨c203, hp⟩
    ·
     refine FW.condT rfl c203 ?_
     refine FW.seq (FW.region ?_)
     obtain ⟨v204, w205, run206, S207⟩ := S202.buildSlice (P := Tryz.prog) te24 [] (parts := #[]) (cells := []) rfl szs_nil fc_nil ones_nil (Nat.le_of_ble_eq_true rfl)
     have els208 : Els (up wa.heap.size H154) eSeqStep 6 [] [] := Els.nil
     refine FL.v (E.buildSlice (B0) run206) ?_
     refine FL.v (E.assign (v := v204) rfl) ?_
     refine FL.v (E.assign (v := Value.bool false) rfl) ?_
     refine FL.nil ?_
     refine FW.ret ?_
     obtain rfl := Option.some.inj hp
     exact ⟨.inr rfl, res2 rfl rfl rfl (by rw [hR189]; exact ⟨_, _, _, _, rfl, (S207.sel [0] (by decide) rfl), (Inc.rfl _), (els208.mono upI)⟩)⟩
    ·
     refine FW.condF rfl c203 ?_
     refine FW.skip (FW.seq (FW.region ?_))
     refine FL.v (E.move (v := v180) rfl) ?_
     refine FL.v (E.assign (v := v180) rfl) ?_
     refine FL.v (E.assign (v := Value.bool true) rfl) ?_
     refine FL.nil ?_
     refine FW.ret ?_
     obtain rfl := Option.some.inj hp
     exact ⟨.inr rfl, res2 rfl rfl rfl (by rw [hR189]; exact ⟨_, _, _, _, rfl, S202, (Inc.rfl _), els186⟩)⟩
   clear hq189
   refine FL.call rfl rfl rfl (E.call Tryz.call65 (A1 rfl)) hc189 ?_
   intro e w212 hQ189
   rw [hR189] at hQ189
   obtain ⟨H209, v190, n191, cs192, rfl, S210, i211, els193⟩ := hQ189
   refine ⟨_, rfl, ?_⟩
   refine FL.v (E.extract (i := 0) rfl rfl) ?_
   refine FL.v (E.extract (i := 1) rfl rfl) ?_
   refine FL.v (E.assign (v := v190) rfl) ?_
   refine FL.v (E.assign (v := Value.bool s189.1) rfl) ?_
   refine FL.nil ?_
   refine FW.ret ?_
   obtain rfl := Option.some.inj hp
   exact ⟨.inr rfl, res2 rfl rfl rfl ⟨_, _, _, _, rfl, S210, els193⟩⟩

theorem w_impl_within {Ha : GH} {wa : World} (hs : Sl Ha wa) (a0 : Int) (a1 : Int) (a2 : Int) :
  Calls Tryz.prog 91 #[Value.int .i64 a0, Value.int .i64 a1, Value.int .i64 a2] wa (Sc Ha wa (Value.bool (PF.impl_within a0 a1 a2))) := by
 obtain ⟨r, hp⟩ : ∃ r, (PF.impl_within a0 a1 a2) = r := ⟨_, rfl⟩
 rw [hp]
 unfold PF.impl_within at hp
 have S0 := St.init hs
 refine calls_go (N := 15) (args := [Value.int .i64 a0, Value.int .i64 a1, Value.int .i64 a2]) Tryz.func91 rfl rfl rfl ?_
 refine FW.seq (FW.region ?_)
 refine FL.v (E.assign (v := Value.bool false) rfl) ?_
 refine FL.nil (FW.seq (FW.region ?_))
 refine FL.v (E.move (v := Value.int .i64 a0) rfl) ?_
 refine FL.v (E.move (v := Value.int .i64 a1) rfl) ?_
 refine FL.v (E.geq rfl rfl) ?_
 refine FL.v (E.move (v := Value.bool (decide (a1 ≤ a0))) rfl) ?_
 refine FL.cut 4 (fun f w => ∃ H : GH, St Ha wa H w [] ∧ Inc Ha H ∧ f 14 = Value.bool (bif (decide (a1 ≤ a0)) then (decide (a0 ≤ a2)) else false)) ?_ ?_
 ·
  rcases bcase (decide (a1 ≤ a0)) with c27 | c27
  ·
   refine FL.val (wF_yes rfl rfl rfl c27) rfl rfl (E.move (v := Value.int .i64 a0) rfl) ?_
   refine FL.val (wF_yes rfl rfl rfl c27) rfl rfl (E.move (v := Value.int .i64 a2) rfl) ?_
   refine FL.val (wF_yes rfl rfl rfl c27) rfl rfl (E.leq rfl rfl) ?_
   refine FL.v (E.pickT rfl c27 rfl) ?_
   exact FL.nil ⟨rfl, _, S0, (Inc.rfl _), (congrArg Value.bool (bifT c27).symm)⟩
  ·
   refine FL.skip (wF_no rfl rfl rfl c27) rfl ?_
   refine FL.skip (wF_no rfl rfl rfl c27) rfl ?_
   refine FL.skip (wF_no rfl rfl rfl c27) rfl ?_
   refine FL.v (E.pickF rfl c27 rfl) ?_
   exact FL.nil ⟨rfl, _, S0, (Inc.rfl _), (congrArg Value.bool (bifF c27).symm)⟩
 rintro f26 w25 ⟨H22, S23, i24, k28⟩
 refine FL.v (E.assign k28) ?_
 refine FL.nil ?_
 refine FW.ret ?_
 obtain rfl := hp
 exact ⟨.inr rfl, res1 rfl rfl ⟨rfl, S23.back⟩⟩

theorem w_impl_isLetter {Ha : GH} {wa : World} (hs : Sl Ha wa) (a0 : Int) :
  Calls Tryz.prog 79 #[Value.int .u8 a0] wa (Sc Ha wa (Value.bool (PF.impl_isLetter a0))) := by
 obtain ⟨r, hp⟩ : ∃ r, (PF.impl_isLetter a0) = r := ⟨_, rfl⟩
 rw [hp]
 unfold PF.impl_isLetter at hp
 have S0 := St.init hs
 refine calls_go (N := 9) (args := [Value.int .u8 a0]) Tryz.func79 rfl rfl rfl ?_
 refine FW.seq (FW.region ?_)
 refine FL.v (E.assign (v := Value.bool false) rfl) ?_
 refine FL.nil (FW.seq (FW.region ?_))
 refine FL.v (E.move (v := Value.int .u8 a0) rfl) ?_
 refine FL.v (E.geq rfl rfl) ?_
 refine FL.v (E.move (v := Value.bool (decide (97 ≤ a0))) rfl) ?_
 refine FL.cut 3 (fun f w => ∃ H : GH, St Ha wa H w [] ∧ Inc Ha H ∧ f 8 = Value.bool (bif (decide (97 ≤ a0)) then (decide (a0 < 103)) else false)) ?_ ?_
 ·
  rcases bcase (decide (97 ≤ a0)) with c27 | c27
  ·
   refine FL.val (wF_yes rfl rfl rfl c27) rfl rfl (E.move (v := Value.int .u8 a0) rfl) ?_
   refine FL.val (wF_yes rfl rfl rfl c27) rfl rfl (E.lss rfl rfl) ?_
   refine FL.v (E.pickT rfl c27 rfl) ?_
   exact FL.nil ⟨rfl, _, S0, (Inc.rfl _), (congrArg Value.bool (bifT c27).symm)⟩
  ·
   refine FL.skip (wF_no rfl rfl rfl c27) rfl ?_
   refine FL.skip (wF_no rfl rfl rfl c27) rfl ?_
   refine FL.v (E.pickF rfl c27 rfl) ?_
   exact FL.nil ⟨rfl, _, S0, (Inc.rfl _), (congrArg Value.bool (bifF c27).symm)⟩
 rintro f26 w25 ⟨H22, S23, i24, k28⟩
 refine FL.v (E.assign k28) ?_
 refine FL.nil ?_
 refine FW.ret ?_
 obtain rfl := hp
 exact ⟨.inr rfl, res1 rfl rfl ⟨rfl, S23.back⟩⟩

@[reducible] def p_impl_leaf (Ha : GH) (wa : World) (r : Fo) : Ending → World → Prop :=
 fun e w' => ∃ H' : GH, ∃ v0 : Value, e = .returned (v0) ∧ Run wa.heap.size Ha wa H' w' ∧ FAt H' v0 r
theorem w_impl_leaf {Ha : GH} {wa : World} (hs : Sl Ha wa) (a0 : Int) {r : Fo} (hp : (PF.impl_leaf a0) = some r) :
  Calls Tryz.prog 174 #[Value.int .u8 a0] wa (p_impl_leaf Ha wa r) := by
 unfold PF.impl_leaf at hp
 have S0 := St.init hs
 refine calls_go (N := 8) (args := [Value.int .u8 a0]) Tryz.func174 rfl rfl rfl ?_
 refine FW.seq (FW.region ?_)
 refine FL.v (E.assign (v := Value.pointer none) rfl) ?_
 refine FL.nil (FW.seq (FW.region ?_))
 refine FL.v (E.move (v := Value.int .u8 a0) rfl) ?_
 refine FL.v (E.move (v := Value.int .u8 a0) rfl) ?_
 obtain ⟨z21, h22, hp⟩ := bnd hp
 refine FL.v (E.chr Tryz.runUnderlying5 Tryz.runUnderlying9 rfl h22) ?_
 refine FL.v (E.build (B2 rfl rfl) (run_build _ 109 #[(0, Value.int .u8 a0), (3, Value.string z21)] #[Value.int .u8 a0, Value.pointer none, Value.pointer none, Value.string z21] (by rfl))) ?_
 obtain ⟨b23, w24, run25, S26⟩ := S0.box (P := Tryz.prog) 109 [Value.int .u8 a0, Value.pointer none, Value.pointer none, Value.string z21] (v := Value.agg #[Value.int .u8 a0, Value.pointer none, Value.pointer none, Value.string z21]) rfl (ones_cons rfl (ones_cons rfl (ones_cons rfl (ones_cons rfl ones_nil))))
 refine FL.v (E.box rfl run25) ?_
 obtain ⟨H27, S28, i29, at30⟩ := S26.sealBox (i := 0) (l' := []) rfl rfl
 refine FL.v (E.assign (v := Value.pointer (some ⟨b23, 0, none⟩)) rfl) ?_
 refine FL.nil ?_
 refine FW.ret ?_
 obtain rfl := Option.some.inj hp
 exact ⟨.inr rfl, res1 rfl rfl ⟨_, _, rfl, S28.run, (FAt.mk at30 FAt.nil FAt.nil)⟩⟩

@[reducible] def p_impl_not (Ha : GH) (wa : World) (r : Fo) : Ending → World → Prop :=
 fun e w' => ∃ H' : GH, ∃ v0 : Value, e = .returned (v0) ∧ Run wa.heap.size Ha wa H' w' ∧ FAt H' v0 r
theorem w_impl_not {Ha : GH} {wa : World} (hs : Sl Ha wa) (v0 : Value) (a0 : Fo) (p0 : FAt Ha v0 a0) {r : Fo} (hp : (PF.impl_not a0) = some r) :
  Calls Tryz.prog 175 #[v0] wa (p_impl_not Ha wa r) := by
 unfold PF.impl_not at hp
 have S0 := St.init hs
 refine calls_go (N := 11) (args := [v0]) Tryz.func175 rfl rfl rfl ?_
 refine FW.seq (FW.region ?_)
 refine FL.v (E.assign (v := Value.pointer none) rfl) ?_
 refine FL.nil (FW.seq (FW.region ?_))
 refine FL.v (E.move (v := v0) rfl) ?_
 refine FL.v (E.move (v := v0) rfl) ?_
 obtain ⟨y21, hy22, hp⟩ := bnd hp
 obtain ⟨q23, v25, v26, rfl, at24, h27, h28⟩ := FAt.open p0 hy22
 refine FL.v (E.nilCheck rfl) ?_
 refine FL.v (E.fieldAddr tf109_3 rfl) ?_
 refine FL.v (E.load rfl (run_load1 Tryz.isAgg9 (at24.now S0.sl) rfl)) ?_
 obtain ⟨z29, h30, hp⟩ := bnd hp
 refine FL.v (E.addT rfl rfl h30) ?_
 refine FL.v (E.build (B3 rfl rfl rfl) (run_build _ 109 #[(0, Value.int .u8 126), (1, Value.pointer (some q23)), (3, Value.string z29)] #[Value.int .u8 126, Value.pointer (some q23), Value.pointer none, Value.string z29] (by rfl))) ?_
 obtain ⟨b31, w32, run33, S34⟩ := S0.box (P := Tryz.prog) 109 [Value.int .u8 126, Value.pointer (some q23), Value.pointer none, Value.string z29] (v := Value.agg #[Value.int .u8 126, Value.pointer (some q23), Value.pointer none, Value.string z29]) rfl (ones_cons rfl (ones_cons rfl (ones_cons rfl (ones_cons rfl ones_nil))))
 refine FL.v (E.box rfl run33) ?_
 obtain ⟨H35, S36, i37, at38⟩ := S34.sealBox (i := 0) (l' := []) rfl rfl
 refine FL.v (E.assign (v := Value.pointer (some ⟨b31, 0, none⟩)) rfl) ?_
 refine FL.nil ?_
 refine FW.ret ?_
 obtain rfl := Option.some.inj hp
 exact ⟨.inr rfl, res1 rfl rfl ⟨_, _, rfl, S36.run, (FAt.mk at38 (p0.mono i37) FAt.nil)⟩⟩

theorem w_strings_Contains {Ha : GH} {wa : World} (hs : Sl Ha wa) (a0 a1 : ByteArray) {r : Bool} (hp : (PF.strings_Contains a0 a1) = some r) : Calls Tryz.prog 176 #[Value.string a0, Value.string a1] wa (Sc Ha wa (Value.bool r)) := by
 unfold PF.strings_Contains at hp
 obtain ⟨c, rfl, rfl⟩ := hasS_some hp
 refine (Go.Proofs.Any.strings_Contains_one Tryz.cont176 a0 c wa).mono ?_
 rintro e w' ⟨rfl, rfl⟩
 exact ⟨rfl, Run.refl _ hs⟩

@[reducible] def p_impl_join (Ha : GH) (wa : World) (r : Fo) : Ending → World → Prop :=
 fun e w' => ∃ H' : GH, ∃ v0 : Value, e = .returned (v0) ∧ Run wa.heap.size Ha wa H' w' ∧ FAt H' v0 r
theorem w_impl_join {Ha : GH} {wa : World} (hs : Sl Ha wa) (a0 : Int) (v1 : Value) (a1 : Fo) (p1 : FAt Ha v1 a1) (v2 : Value) (a2 : Fo) (p2 : FAt Ha v2 a2) {r : Fo} (hp : (PF.impl_join a0 a1 a2) = some r) :
  Calls Tryz.prog 177 #[Value.int .u8 a0, v1, v2] wa (p_impl_join Ha wa r) := by
 unfold PF.impl_join at hp
 have S0 := St.init hs
 refine calls_go (N := 26) (args := [Value.int .u8 a0, v1, v2]) Tryz.func177 rfl rfl rfl ?_
 refine FW.seq (FW.region ?_)
 refine FL.v (E.assign (v := Value.pointer none) rfl) ?_
 refine FL.nil (FW.seq ?_)
 obtain ⟨y24, hy25, hp⟩ := bnd hp
 obtain ⟨z32, h33, hp⟩ := bnd hp
 obtain ⟨z34, h35, hp⟩ := bnd hp
 obtain ⟨z36, h37, hp⟩ := bnd hp
 obtain ⟨y38, hy39, hp⟩ := bnd hp
 obtain ⟨z46, h47, hp⟩ := bnd hp
 obtain ⟨z48, h49, hp⟩ := bnd hp
 refine FW.drawB (Sl Ha) (fun f w => ∃ H : GH, ∃ v58 : Value, St Ha wa H w [] ∧ Inc Ha H ∧ FAt H v58 (Fo.node a0 a1 a2 z48) ∧ f 6 = v58) (by kernel_rfl) S0.sl ?_ ?_
 ·
  intro w21 r22
  have S23 := S0.call r22
  refine FB.t (i := 0) (bs 20 1) rfl (SP.nil S23.sl) rfl (fun w' hw' => (E.move (v := Value.int .u8 a0) rfl)) ?_
  refine FB.t (i := 1) (bs 20 3) rfl (SP.nil S23.sl) rfl (fun w' hw' => (E.move (v := v1) rfl)) ?_
  refine FB.t (i := 2) (bs 20 7) rfl (SP.nil S23.sl) rfl (fun w' hw' => (E.move (v := v2) rfl)) ?_
  refine FB.t (i := 3) (bs 20 15) rfl (SP.nil S23.sl) rfl (fun w' hw' => (E.move (v := v1) rfl)) ?_
  obtain ⟨q26, v28, v29, rfl, at27, h30, h31⟩ := FAt.open p1 hy25
  refine FB.t (i := 4) (bs 20 31) rfl (SP.nil S23.sl) rfl (fun w' hw' => (E.nilCheck rfl)) ?_
  refine FB.t (i := 5) (bs 20 63) rfl (SP.nil S23.sl) rfl (fun w' hw' => (E.fieldAddr tf109_3 rfl)) ?_
  refine FB.t (i := 6) (bs 20 127) rfl (SP.nil S23.sl) rfl (fun w' hw' => (E.load rfl (run_load1 Tryz.isAgg9 (at27.now hw') rfl))) ?_
  refine FB.t (i := 7) (bs 20 255) rfl (SP.nil S23.sl) rfl (fun w' hw' => (E.addT rfl rfl h33)) ?_
  refine FB.t (i := 8) (bs 20 511) rfl (SP.nil S23.sl) rfl (fun w' hw' => (E.move (v := Value.int .u8 a0) rfl)) ?_
  refine FB.t (i := 9) (bs 20 1023) rfl (SP.nil S23.sl) rfl (fun w' hw' => (E.chr Tryz.runUnderlying5 Tryz.runUnderlying9 rfl h35)) ?_
  refine FB.t (i := 10) (bs 20 2047) rfl (SP.nil S23.sl) rfl (fun w' hw' => (E.addT rfl rfl h37)) ?_
  refine FB.t (i := 11) (bs 20 4095) rfl (SP.nil S23.sl) rfl (fun w' hw' => (E.move (v := v2) rfl)) ?_
  obtain ⟨q40, v42, v43, rfl, at41, h44, h45⟩ := FAt.open p2 hy39
  refine FB.t (i := 12) (bs 20 8191) rfl (SP.nil S23.sl) rfl (fun w' hw' => (E.nilCheck rfl)) ?_
  refine FB.t (i := 13) (bs 20 16383) rfl (SP.nil S23.sl) rfl (fun w' hw' => (E.fieldAddr tf109_3 rfl)) ?_
  refine FB.t (i := 14) (bs 20 32767) rfl (SP.nil S23.sl) rfl (fun w' hw' => (E.load rfl (run_load1 Tryz.isAgg9 (at41.now hw') rfl))) ?_
  refine FB.t (i := 15) (bs 20 65535) rfl (SP.nil S23.sl) rfl (fun w' hw' => (E.addT rfl rfl h47)) ?_
  refine FB.t (i := 16) (bs 20 131071) rfl (SP.nil S23.sl) rfl (fun w' hw' => (E.addT rfl rfl h49)) ?_
  refine FB.t (i := 17) (bs 20 262143) rfl (SP.nil S23.sl) rfl (fun w' hw' => (E.build (B4 rfl rfl rfl rfl) (run_build _ 109 #[(0, Value.int .u8 a0), (1, Value.pointer (some q26)), (2, Value.pointer (some q40)), (3, Value.string z48)] #[Value.int .u8 a0, Value.pointer (some q26), Value.pointer (some q40), Value.string z48] (by rfl)))) ?_
  refine FB.all1 (i := 18) (by kernel_rfl) ?_
  ·
   obtain ⟨b50, w51, run52, S53⟩ := S23.box (P := Tryz.prog) 109 [Value.int .u8 a0, Value.pointer (some q26), Value.pointer (some q40), Value.string z48] (v := Value.agg #[Value.int .u8 a0, Value.pointer (some q26), Value.pointer (some q40), Value.string z48]) rfl (ones_cons rfl (ones_cons rfl (ones_cons rfl (ones_cons rfl ones_nil))))
   refine FC.val (l' := (bs 20 524287)) rfl (by kernel_rfl) rfl rfl rfl (E.box rfl run52) ?_
   obtain ⟨H54, S55, i56, at57⟩ := S53.sealBox (i := 0) (l' := []) rfl rfl
   refine ⟨(SP.nil (Sl.of_inc i56 S55.sl)), ?_⟩
   refine FB.t (i := 19) (bs 20 1048575) rfl (SP.nil (Sl.of_inc i56 S55.sl)) rfl (fun w' hw' => (E.assign (v := Value.pointer (some ⟨b50, 0, none⟩)) rfl)) ?_
   exact FB.done (by kernel_rfl) ⟨_, _, S55, i56, (FAt.mk at57 (p1.mono i56) (p2.mono i56)), rfl⟩
 ·
  rintro f64 w63 ⟨H60, v58, S61, i62, h59, k65⟩
  refine FW.ret ?_
  obtain rfl := Option.some.inj hp
  exact ⟨.inr rfl, res1 rfl k65 ⟨_, _, rfl, S61.run, h59⟩⟩

@[reducible] def p_impl_parseFrom (Ha : GH) (wa : World) (r : (Fo × ByteArray × Bool)) : Ending → World → Prop :=
 fun e w' => ∃ H' : GH, ∃ v0 : Value, e = .returned (Value.tuple #[v0, Value.string r.2.1, Value.bool r.2.2]) ∧ Run wa.heap.size Ha wa H' w' ∧ FAt H' v0 r.1
set_option maxHeartbeats 4000000 in
theorem w_impl_parseFrom_B {rec_impl_parseFrom : ByteArray → Option (Fo × ByteArray × Bool)} (hrec_impl_parseFrom : ∀ {Ha : GH} {wa : World} (hs : Sl Ha wa) (a0 : ByteArray) {r : (Fo × ByteArray × Bool)} (hp : rec_impl_parseFrom a0 = some r), Calls Tryz.prog 127 #[Value.string a0] wa (p_impl_parseFrom Ha wa r)) {Ha : GH} {wa : World} (hs : Sl Ha wa) (a0 : ByteArray) {r : (Fo × ByteArray × Bool)} (hp : PF.impl_parseFrom_B rec_impl_parseFrom a0 = some r) :
  Calls Tryz.prog 127 #[Value.string a0] wa (p_impl_parseFrom Ha wa r) := by
 unfold PF.impl_parseFrom_B at hp
 have S0 := St.init hs
 refine calls_go (N := 95) (args := [Value.string a0]) Tryz.func127 rfl rfl rfl ?_
 refine FW.seq (FW.region ?_)
 refine FL.v (E.assign (v := Value.pointer none) rfl) ?_
 refine FL.v (E.assign (v := Value.string (ByteArray.mk #[])) rfl) ?_
 refine FL.v (E.assign (v := Value.bool false) rfl) ?_
 refine FL.nil (FW.seq (FW.seq (FW.region ?_)))
 refine FL.v (E.move (v := Value.string a0) rfl) ?_
 refine FL.v (E.eqlS rfl rfl) ?_
 refine FL.nil ?_
 rcases ifB hp with ⟨c21, hp⟩ | ⟨c21, hp⟩
 ·
  refine FW.condT rfl c21 ?_
  refine FW.seq (FW.region ?_)
  refine FL.v (E.assign (v := Value.pointer none) rfl) ?_
  refine FL.v (E.assign (v := Value.string (ByteArray.mk #[])) rfl) ?_
  refine FL.v (E.assign (v := Value.bool false) rfl) ?_
  refine FL.nil ?_
  refine FW.ret ?_
  obtain rfl := Option.some.inj hp
  exact ⟨.inr rfl, res3 rfl rfl rfl rfl ⟨_, _, rfl, S0.run, FAt.nil⟩⟩
 ·
  refine FW.condF rfl c21 ?_
  refine FW.skip (FW.seq ?_)
  refine FW.draw (fun w' => Run wa.heap.size Ha wa Ha w') (by kernel_rfl) (by kernel_rfl) (run_drew S0.sl) ?_
  refine FD.val rfl rfl rfl (fun w' hw' => (E.move (v := Value.string a0) rfl)) ?_
  obtain ⟨z23, h24, hp⟩ := bnd hp
  refine FD.val rfl rfl rfl (fun w' hw' => (E.ixS Tryz.runUnderlying9 rfl rfl h24)) ?_
  refine FD.val rfl rfl rfl (fun w' hw' => (E.move (v := Value.string a0) rfl)) ?_
  obtain ⟨z25, h26, hp⟩ := bnd hp
  refine FD.val rfl rfl rfl (fun w' hw' => (E.cutS (kl := .i64) (kh := .i64) Tryz.underlying9 rfl (.inr ⟨_, rfl, rfl⟩) (.inl ⟨rfl, rfl⟩) h26)) ?_
  refine FD.val rfl rfl rfl (fun w' hw' => (E.assign (v := Value.int .u8 z23) rfl)) ?_
  refine FD.val rfl rfl rfl (fun w' hw' => (E.assign (v := Value.string z25) rfl)) ?_
  refine FD.nil ?_
  intro w27 r29
  have S28 := S0.call r29
  refine FW.seq (FW.block (FW.seq (FW.region ?_)))
  refine FL.v (E.move (v := Value.int .u8 z23) rfl) ?_
  refine FL.call rfl rfl rfl (E.call Tryz.call79 (A1 rfl)) (w_impl_isLetter S28.sl z23) ?_
  rintro e w30 ⟨rfl, r31⟩
  refine ⟨_, rfl, ?_⟩
  have S32 := S28.call r31
  refine FL.v (E.move (v := Value.bool (PF.impl_isLetter z23)) rfl) ?_
  refine FL.cut 3 (fun f w => ∃ H : GH, St Ha wa H w [] ∧ Inc Ha H ∧ f 5 = Value.int .u8 z23 ∧ f 6 = Value.string z25 ∧ f 26 = Value.bool (bif (PF.impl_isLetter z23) then true else (z23 == 48))) ?_ ?_
  ·
   rcases bcase (PF.impl_isLetter z23) with c39 | c39
   ·
    refine FL.skip (wF_no rfl rfl rfl c39) rfl ?_
    refine FL.skip (wF_no rfl rfl rfl c39) rfl ?_
    refine FL.v (E.pickT rfl c39 rfl) ?_
    exact FL.nil ⟨rfl, _, S32, (Inc.rfl _), rfl, rfl, (congrArg Value.bool (bifT c39).symm)⟩
   ·
    refine FL.val (wF_yes rfl rfl rfl c39) rfl rfl (E.move (v := Value.int .u8 z23) rfl) ?_
    refine FL.val (wF_yes rfl rfl rfl c39) rfl rfl (E.eql rfl rfl) ?_
    refine FL.v (E.pickF rfl c39 rfl) ?_
    exact FL.nil ⟨rfl, _, S32, (Inc.rfl _), rfl, rfl, (congrArg Value.bool (bifF c39).symm)⟩
  rintro f38 w37 ⟨H34, S35, i36, k40, k41, k42⟩
  refine FL.v (E.move k42) ?_
  refine FL.cut 3 (fun f w => ∃ H : GH, St Ha wa H w [] ∧ Inc H34 H ∧ f 5 = Value.int .u8 z23 ∧ f 6 = Value.string z25 ∧ f 30 = Value.bool (bif (bif (PF.impl_isLetter z23) then true else (z23 == 48)) then true else (z23 == 49))) ?_ ?_
  ·
   rcases bcase (bif (PF.impl_isLetter z23) then true else (z23 == 48)) with c49 | c49
   ·
    refine FL.skip (wF_no rfl rfl rfl c49) rfl ?_
    refine FL.skip (wF_no rfl rfl rfl c49) rfl ?_
    refine FL.v (E.pickT rfl c49 rfl) ?_
    exact FL.nil ⟨rfl, _, S35, (Inc.rfl _), k40, k41, (congrArg Value.bool (bifT c49).symm)⟩
   ·
    refine FL.val (wF_yes rfl rfl rfl c49) rfl rfl (E.move k40) ?_
    refine FL.val (wF_yes rfl rfl rfl c49) rfl rfl (E.eql rfl rfl) ?_
    refine FL.v (E.pickF rfl c49 rfl) ?_
    exact FL.nil ⟨rfl, _, S35, (Inc.rfl _), k40, k41, (congrArg Value.bool (bifF c49).symm)⟩
  rintro f48 w47 ⟨H44, S45, i46, k50, k51, k52⟩
  refine FL.v (E.assign k52) ?_
  refine FL.nil ?_
  rcases ifB hp with ⟨c53, hp⟩ | ⟨c53, hp⟩
  ·
   refine FW.condT rfl c53 ?_
   refine FW.seq (FW.region ?_)
   refine FL.v (E.move k50) ?_
   obtain ⟨r54, hr55, hp⟩ := bnd hp
   refine FL.call rfl rfl rfl (E.call Tryz.call174 (A1 rfl)) (w_impl_leaf S45.sl z23 hr55) ?_
   rintro e w57 ⟨H56, v60, rfl, r59, h61⟩
   refine ⟨_, rfl, ?_⟩
   have S58 := S45.call r59
   refine FL.v (E.move k51) ?_
   refine FL.v (E.assign (v := v60) rfl) ?_
   refine FL.v (E.assign (v := Value.string z25) rfl) ?_
   refine FL.v (E.assign (v := Value.bool true) rfl) ?_
   refine FL.nil ?_
   refine FW.ret ?_
   obtain rfl := Option.some.inj hp
   exact ⟨.inr rfl, res3 rfl rfl rfl rfl ⟨_, _, rfl, S58.run, h61⟩⟩
  ·
   refine FW.condF rfl c53 ?_
   refine FW.seq (FW.region ?_)
   refine FL.v (E.move k50) ?_
   refine FL.v (E.eql rfl rfl) ?_
   refine FL.v (E.assign (v := Value.bool (z23 == 126)) rfl) ?_
   refine FL.nil ?_
   rcases ifB hp with ⟨c62, hp⟩ | ⟨c62, hp⟩
   ·
    refine FW.condT rfl c62 ?_
    refine FW.seq (FW.region ?_)
    refine FL.v (E.move k51) ?_
    obtain ⟨r63, hr64, hp⟩ := bnd hp
    refine FL.call rfl rfl rfl (E.call Tryz.call127 (A1 rfl)) (hrec_impl_parseFrom S45.sl z25 hr64) ?_
    rintro e w66 ⟨H65, v69, rfl, r68, h70⟩
    refine ⟨_, rfl, ?_⟩
    have S67 := S45.call r68
    refine FL.v (E.move (v := Value.tuple #[v69, Value.string r63.2.1, Value.bool r63.2.2]) rfl) ?_
    refine FL.v (E.extract (i := 0) rfl rfl) ?_
    refine FL.v (E.extract (i := 1) rfl rfl) ?_
    refine FL.v (E.extract (i := 2) rfl rfl) ?_
    refine FL.v (E.assign (v := v69) rfl) ?_
    refine FL.v (E.assign (v := Value.string r63.2.1) rfl) ?_
    refine FL.v (E.assign (v := Value.bool r63.2.2) rfl) ?_
    refine FL.nil (FW.seq (FW.seq (FW.region ?_)))
    refine FL.v (E.move (v := Value.bool r63.2.2) rfl) ?_
    refine FL.v (E.not rfl) ?_
    refine FL.nil ?_
    rcases ifB hp with ⟨c71, hp⟩ | ⟨c71, hp⟩
    ·
     refine FW.condT rfl c71 ?_
     refine FW.seq (FW.region ?_)
     refine FL.v (E.assign (v := Value.pointer none) rfl) ?_
     refine FL.v (E.assign (v := Value.string (ByteArray.mk #[])) rfl) ?_
     refine FL.v (E.assign (v := Value.bool false) rfl) ?_
     refine FL.nil ?_
     refine FW.ret ?_
     obtain rfl := Option.some.inj hp
     exact ⟨.inr rfl, res3 rfl rfl rfl rfl ⟨_, _, rfl, S67.run, FAt.nil⟩⟩
    ·
     refine FW.condF rfl c71 ?_
     refine FW.skip (FW.seq (FW.region ?_))
     refine FL.v (E.move (v := v69) rfl) ?_
     obtain ⟨r72, hr73, hp⟩ := bnd hp
     refine FL.call rfl rfl rfl (E.call Tryz.call175 (A1 rfl)) (w_impl_not S67.sl v69 r63.1 h70 hr73) ?_
     rintro e w75 ⟨H74, v78, rfl, r77, h79⟩
     refine ⟨_, rfl, ?_⟩
     have S76 := S67.call r77
     refine FL.v (E.move (v := Value.string r63.2.1) rfl) ?_
     refine FL.v (E.assign (v := v78) rfl) ?_
     refine FL.v (E.assign (v := Value.string r63.2.1) rfl) ?_
     refine FL.v (E.assign (v := Value.bool true) rfl) ?_
     refine FL.nil ?_
     refine FW.ret ?_
     obtain rfl := Option.some.inj hp
     exact ⟨.inr rfl, res3 rfl rfl rfl rfl ⟨_, _, rfl, S76.run, h79⟩⟩
   ·
    refine FW.condF rfl c62 ?_
    refine FW.seq (FW.region ?_)
    refine FL.v (E.move k50) ?_
    refine FL.v (E.neq rfl rfl) ?_
    refine FL.v (E.assign (v := Value.bool (!(z23 == 40))) rfl) ?_
    refine FL.nil ?_
    rcases ifB hp with ⟨c80, hp⟩ | ⟨c80, hp⟩
    ·
     refine FW.condT rfl c80 ?_
     refine FW.seq (FW.region ?_)
     refine FL.v (E.assign (v := Value.pointer none) rfl) ?_
     refine FL.v (E.assign (v := Value.string (ByteArray.mk #[])) rfl) ?_
     refine FL.v (E.assign (v := Value.bool false) rfl) ?_
     refine FL.nil ?_
     refine FW.ret ?_
     obtain rfl := Option.some.inj hp
     exact ⟨.inr rfl, res3 rfl rfl rfl rfl ⟨_, _, rfl, S45.run, FAt.nil⟩⟩
    ·
     refine FW.condF rfl c80 ?_
     refine FW.skip (FW.seq (FW.region ?_))
     refine FL.v (E.move k51) ?_
     obtain ⟨r81, hr82, hp⟩ := bnd hp
     refine FL.call rfl rfl rfl (E.call Tryz.call127 (A1 rfl)) (hrec_impl_parseFrom S45.sl z25 hr82) ?_
     rintro e w84 ⟨H83, v87, rfl, r86, h88⟩
     refine ⟨_, rfl, ?_⟩
     have S85 := S45.call r86
     refine FL.v (E.move (v := Value.tuple #[v87, Value.string r81.2.1, Value.bool r81.2.2]) rfl) ?_
     refine FL.v (E.extract (i := 0) rfl rfl) ?_
     refine FL.v (E.extract (i := 1) rfl rfl) ?_
     refine FL.v (E.extract (i := 2) rfl rfl) ?_
     refine FL.v (E.assign (v := v87) rfl) ?_
     refine FL.v (E.assign (v := Value.string r81.2.1) rfl) ?_
     refine FL.v (E.assign (v := Value.bool r81.2.2) rfl) ?_
     refine FL.nil (FW.seq (FW.seq (FW.region ?_)))
     refine FL.v (E.move (v := Value.bool r81.2.2) rfl) ?_
     refine FL.v (E.not rfl) ?_
     refine FL.v (E.move (v := Value.bool (!r81.2.2)) rfl) ?_
     refine FL.cut 3 (fun f w => ∃ H : GH, St Ha wa H w [] ∧ Inc H83 H ∧ f 6 = Value.string r81.2.1 ∧ f 10 = v87 ∧ f 62 = Value.bool (bif (!r81.2.2) then true else (r81.2.1.toList == (ByteArray.mk #[]).toList))) ?_ ?_
     ·
      rcases bcase (!r81.2.2) with c95 | c95
      ·
       refine FL.skip (wF_no rfl rfl rfl c95) rfl ?_
       refine FL.skip (wF_no rfl rfl rfl c95) rfl ?_
       refine FL.v (E.pickT rfl c95 rfl) ?_
       exact FL.nil ⟨rfl, _, S85, (Inc.rfl _), rfl, rfl, (congrArg Value.bool (bifT c95).symm)⟩
      ·
       refine FL.val (wF_yes rfl rfl rfl c95) rfl rfl (E.move (v := Value.string r81.2.1) rfl) ?_
       refine FL.val (wF_yes rfl rfl rfl c95) rfl rfl (E.eqlS rfl rfl) ?_
       refine FL.v (E.pickF rfl c95 rfl) ?_
       exact FL.nil ⟨rfl, _, S85, (Inc.rfl _), rfl, rfl, (congrArg Value.bool (bifF c95).symm)⟩
     rintro f94 w93 ⟨H90, S91, i92, k96, k97, k98⟩
     refine FL.v (E.move k98) ?_
     obtain ⟨t106, hqt106, hp⟩ := bnd hp
     refine FL.cut 5 (fun f w => ∃ H : GH, St Ha wa H w [] ∧ Inc H90 H ∧ f 6 = Value.string r81.2.1 ∧ f 10 = v87 ∧ f 68 = Value.bool t106) ?_ ?_
     ·
      clear hp; have hp := hqt106; clear hqt106
      rcases ifB hp with ⟨c112, hp⟩ | ⟨c112, hp⟩
      ·
       refine FL.skip (wF_no rfl rfl rfl c112) rfl ?_
       refine FL.skip (wF_no rfl rfl rfl c112) rfl ?_
       refine FL.skip (wF_no rfl rfl rfl c112) rfl ?_
       refine FL.skip (wF_no rfl rfl rfl c112) rfl ?_
       obtain rfl := Option.some.inj hp
       refine FL.v (E.pickT rfl c112 rfl) ?_
       exact FL.nil ⟨rfl, _, S91, (Inc.rfl _), k96, k97, rfl⟩
      ·
       refine FL.val (wF_yes rfl rfl rfl c112) rfl rfl (E.move k96) ?_
       obtain ⟨z113, h114, hp⟩ := bnd hp
       refine FL.val (wF_yes rfl rfl rfl c112) rfl rfl (E.cutS (kl := .i64) (kh := .i64) Tryz.underlying9 rfl (.inl ⟨rfl, rfl⟩) (.inr ⟨_, rfl, rfl⟩) h114) ?_
       obtain ⟨r115, hr116, hp⟩ := bnd hp
       refine FL.call (wF_yes rfl rfl rfl c112) rfl rfl (E.call Tryz.call176 (A2 rfl rfl)) (w_strings_Contains S91.sl (ByteArray.mk #[38, 124, 62]) z113 hr116) ?_
       rintro e w117 ⟨rfl, r118⟩
       refine ⟨_, rfl, ?_⟩
       have S119 := S91.call r118
       refine FL.val (wF_yes rfl rfl rfl c112) rfl rfl (E.not rfl) ?_
       obtain rfl := Option.some.inj hp
       refine FL.v (E.pickF rfl c112 rfl) ?_
       exact FL.nil ⟨rfl, _, S119, (Inc.rfl _), k96, k97, rfl⟩
     rintro f111 w110 ⟨H107, S108, i109, k120, k121, k122⟩
     refine FL.nil ?_
     rcases ifB hp with ⟨c123, hp⟩ | ⟨c123, hp⟩
     ·
      refine FW.condT k122 c123 ?_
      refine FW.seq (FW.region ?_)
      refine FL.v (E.assign (v := Value.pointer none) rfl) ?_
      refine FL.v (E.assign (v := Value.string (ByteArray.mk #[])) rfl) ?_
      refine FL.v (E.assign (v := Value.bool false) rfl) ?_
      refine FL.nil ?_
      refine FW.ret ?_
      obtain rfl := Option.some.inj hp
      exact ⟨.inr rfl, res3 rfl rfl rfl rfl ⟨_, _, rfl, S108.run, FAt.nil⟩⟩
     ·
      refine FW.condF k122 c123 ?_
      refine FW.skip (FW.seq (FW.region ?_))
      refine FL.v (E.move k120) ?_
      obtain ⟨z124, h125, hp⟩ := bnd hp
      refine FL.v (E.ixS Tryz.runUnderlying9 rfl rfl h125) ?_
      refine FL.v (E.assign (v := Value.int .u8 z124) rfl) ?_
      refine FL.nil (FW.seq (FW.region ?_))
      refine FL.v (E.move k120) ?_
      obtain ⟨z126, h127, hp⟩ := bnd hp
      refine FL.v (E.cutS (kl := .i64) (kh := .i64) Tryz.underlying9 rfl (.inr ⟨_, rfl, rfl⟩) (.inl ⟨rfl, rfl⟩) h127) ?_
      obtain ⟨r128, hr129, hp⟩ := bnd hp
      refine FL.call rfl rfl rfl (E.call Tryz.call127 (A1 rfl)) (hrec_impl_parseFrom S108.sl z126 hr129) ?_
      rintro e w131 ⟨H130, v134, rfl, r133, h135⟩
      refine ⟨_, rfl, ?_⟩
      have S132 := S108.call r133
      refine FL.v (E.move (v := Value.tuple #[v134, Value.string r128.2.1, Value.bool r128.2.2]) rfl) ?_
      refine FL.v (E.extract (i := 0) rfl rfl) ?_
      refine FL.v (E.extract (i := 1) rfl rfl) ?_
      refine FL.v (E.extract (i := 2) rfl rfl) ?_
      refine FL.v (E.assign (v := v134) rfl) ?_
      refine FL.v (E.assign (v := Value.string r128.2.1) rfl) ?_
      refine FL.v (E.assign (v := Value.bool r128.2.2) rfl) ?_
      refine FL.nil (FW.seq (FW.seq (FW.region ?_)))
      refine FL.v (E.move (v := Value.bool r128.2.2) rfl) ?_
      refine FL.v (E.not rfl) ?_
      refine FL.v (E.move (v := Value.bool (!r128.2.2)) rfl) ?_
      refine FL.cut 3 (fun f w => ∃ H : GH, St Ha wa H w [] ∧ Inc H130 H ∧ f 6 = Value.string r128.2.1 ∧ f 10 = v87 ∧ f 12 = Value.int .u8 z124 ∧ f 13 = v134 ∧ f 83 = Value.bool (bif (!r128.2.2) then true else (r128.2.1.toList == (ByteArray.mk #[]).toList))) ?_ ?_
      ·
       rcases bcase (!r128.2.2) with c142 | c142
       ·
        refine FL.skip (wF_no rfl rfl rfl c142) rfl ?_
        refine FL.skip (wF_no rfl rfl rfl c142) rfl ?_
        refine FL.v (E.pickT rfl c142 rfl) ?_
        exact FL.nil ⟨rfl, _, S132, (Inc.rfl _), rfl, k121, rfl, rfl, (congrArg Value.bool (bifT c142).symm)⟩
       ·
        refine FL.val (wF_yes rfl rfl rfl c142) rfl rfl (E.move (v := Value.string r128.2.1) rfl) ?_
        refine FL.val (wF_yes rfl rfl rfl c142) rfl rfl (E.eqlS rfl rfl) ?_
        refine FL.v (E.pickF rfl c142 rfl) ?_
        exact FL.nil ⟨rfl, _, S132, (Inc.rfl _), rfl, k121, rfl, rfl, (congrArg Value.bool (bifF c142).symm)⟩
      rintro f141 w140 ⟨H137, S138, i139, k143, k144, k145, k146, k147⟩
      refine FL.v (E.move k147) ?_
      obtain ⟨t150, hqt150, hp⟩ := bnd hp
      refine FL.cut 4 (fun f w => ∃ H : GH, St Ha wa H w [] ∧ Inc H137 H ∧ f 6 = Value.string r128.2.1 ∧ f 10 = v87 ∧ f 12 = Value.int .u8 z124 ∧ f 13 = v134 ∧ f 88 = Value.bool t150) ?_ ?_
      ·
       clear hp; have hp := hqt150; clear hqt150
       rcases ifB hp with ⟨c156, hp⟩ | ⟨c156, hp⟩
       ·
        refine FL.skip (wF_no rfl rfl rfl c156) rfl ?_
        refine FL.skip (wF_no rfl rfl rfl c156) rfl ?_
        refine FL.skip (wF_no rfl rfl rfl c156) rfl ?_
        obtain rfl := Option.some.inj hp
        refine FL.v (E.pickT rfl c156 rfl) ?_
        exact FL.nil ⟨rfl, _, S138, (Inc.rfl _), k143, k144, k145, k146, rfl⟩
       ·
        refine FL.val (wF_yes rfl rfl rfl c156) rfl rfl (E.move k143) ?_
        obtain ⟨z157, h158, hp⟩ := bnd hp
        refine FL.val (wF_yes rfl rfl rfl c156) rfl rfl (E.ixS Tryz.runUnderlying9 rfl rfl h158) ?_
        refine FL.val (wF_yes rfl rfl rfl c156) rfl rfl (E.neq rfl rfl) ?_
        obtain rfl := Option.some.inj hp
        refine FL.v (E.pickF rfl c156 rfl) ?_
        exact FL.nil ⟨rfl, _, S138, (Inc.rfl _), k143, k144, k145, k146, rfl⟩
      rintro f155 w154 ⟨H151, S152, i153, k159, k160, k161, k162, k163⟩
      refine FL.nil ?_
      rcases ifB hp with ⟨c164, hp⟩ | ⟨c164, hp⟩
      ·
       refine FW.condT k163 c164 ?_
       refine FW.seq (FW.region ?_)
       refine FL.v (E.assign (v := Value.pointer none) rfl) ?_
       refine FL.v (E.assign (v := Value.string (ByteArray.mk #[])) rfl) ?_
       refine FL.v (E.assign (v := Value.bool false) rfl) ?_
       refine FL.nil ?_
       refine FW.ret ?_
       obtain rfl := Option.some.inj hp
       exact ⟨.inr rfl, res3 rfl rfl rfl rfl ⟨_, _, rfl, S152.run, FAt.nil⟩⟩
      ·
       refine FW.condF k163 c164 ?_
       refine FW.skip (FW.seq ?_)
       obtain ⟨r22, hr33, hp⟩ := bnd hp
       obtain ⟨z103, h104, hp⟩ := bnd hp
       refine FW.drawB (Sl H151) (fun f w => ∃ H : GH, ∃ v105 : Value, St Ha wa H w [] ∧ Inc H151 H ∧ FAt H v105 r22 ∧ f 2 = v105 ∧ f 3 = Value.string z103 ∧ f 4 = Value.bool true) (by kernel_rfl) S152.sl ?_ ?_
       ·
        intro w165 r166
        have S167 := S152.call r166
        refine FB.t (i := 0) (bs 9 1) rfl (SP.nil S167.sl) rfl (fun w' hw' => (E.move k161)) ?_
        refine FB.t (i := 1) (bs 9 3) rfl (SP.nil S167.sl) rfl (fun w' hw' => (E.move k160)) ?_
        refine FB.t (i := 2) (bs 9 7) rfl (SP.nil S167.sl) rfl (fun w' hw' => (E.move k162)) ?_
        refine FB.t (i := 4) (bs 9 23) rfl (SP.nil S167.sl) rfl (fun w' hw' => (E.move k159)) ?_
        refine FB.t (i := 5) (bs 9 55) rfl (SP.nil S167.sl) rfl (fun w' hw' => (E.cutS (kl := .i64) (kh := .i64) Tryz.underlying9 rfl (.inr ⟨_, rfl, rfl⟩) (.inl ⟨rfl, rfl⟩) h104)) ?_
        refine FB.all1 (i := 3) (by kernel_rfl) ?_
        ·
         refine FC.call (l' := (bs 9 63)) rfl (by kernel_rfl) rfl rfl rfl (E.call Tryz.call177 (A3 rfl rfl rfl)) (w_impl_join S167.sl z124 v87 r81.1 (h88.mono ((((i92.tr i109).tr r133.inc).tr i139).tr i153)) v134 r128.1 (h135.mono (i139.tr i153)) hr33) ?_
         rintro e w89 ⟨H43, v101, rfl, r100, h102⟩
         refine ⟨_, rfl, ?_⟩
         have S99 := S167.call r100
         refine ⟨(SP.nil (Sl.of_inc r100.inc S99.sl)), ?_⟩
         refine FB.t (i := 6) (bs 9 127) rfl (SP.nil (Sl.of_inc r100.inc S99.sl)) rfl (fun w' hw' => (E.assign (v := v101) rfl)) ?_
         refine FB.t (i := 7) (bs 9 255) rfl (SP.nil (Sl.of_inc r100.inc S99.sl)) rfl (fun w' hw' => (E.assign (v := Value.string z103) rfl)) ?_
         refine FB.t (i := 8) (bs 9 511) rfl (SP.nil (Sl.of_inc r100.inc S99.sl)) rfl (fun w' hw' => (E.assign (v := Value.bool true) rfl)) ?_
         exact FB.done (by kernel_rfl) ⟨_, _, S99, r100.inc, h102, rfl, rfl, rfl⟩
       ·
        rintro f170 w169 ⟨H148, v105, S149, i168, h136, k171, k172, k173⟩
        refine FW.ret ?_
        obtain rfl := Option.some.inj hp
        exact ⟨.inr rfl, res3 rfl k171 k172 k173 ⟨_, _, rfl, S149.run, h136⟩⟩
theorem w_impl_parseFrom_F (n : Nat) : ∀ {Ha : GH} {wa : World} (hs : Sl Ha wa) (a0 : ByteArray) {r : (Fo × ByteArray × Bool)} (hp : PF.impl_parseFrom_F n a0 = some r), Calls Tryz.prog 127 #[Value.string a0] wa (p_impl_parseFrom Ha wa r) := by
 induction n with
 | zero => intros; rename_i hp; exact nomatch hp
 | succ n ih => exact w_impl_parseFrom_B (rec_impl_parseFrom := PF.impl_parseFrom_F n) ih
theorem w_impl_parseFrom {Ha : GH} {wa : World} (hs : Sl Ha wa) (a0 : ByteArray) {r : (Fo × ByteArray × Bool)} (hp : PF.impl_parseFrom a0 = some r) :
  Calls Tryz.prog 127 #[Value.string a0] wa (p_impl_parseFrom Ha wa r) := w_impl_parseFrom_F deep hs a0 hp

@[reducible] def p_impl_parse (Ha : GH) (wa : World) (r : (Fo × Bool)) : Ending → World → Prop :=
 fun e w' => ∃ H' : GH, ∃ v0 : Value, e = .returned (Value.tuple #[v0, Value.bool r.2]) ∧ Run wa.heap.size Ha wa H' w' ∧ FAt H' v0 r.1
theorem w_impl_parse {Ha : GH} {wa : World} (hs : Sl Ha wa) (a0 : ByteArray) {r : (Fo × Bool)} (hp : (PF.impl_parse a0) = some r) :
  Calls Tryz.prog 78 #[Value.string a0] wa (p_impl_parse Ha wa r) := by
 unfold PF.impl_parse at hp
 have S0 := St.init hs
 refine calls_go (N := 23) (args := [Value.string a0]) Tryz.func78 rfl rfl rfl ?_
 refine FW.seq (FW.region ?_)
 refine FL.v (E.assign (v := Value.pointer none) rfl) ?_
 refine FL.v (E.assign (v := Value.bool false) rfl) ?_
 refine FL.nil (FW.seq (FW.seq (FW.region ?_)))
 refine FL.v (E.move (v := Value.string a0) rfl) ?_
 refine FL.v (E.lenS Tryz.runUnderlying9 rfl) ?_
 refine FL.v (E.gtr rfl rfl) ?_
 refine FL.nil ?_
 rcases ifB hp with ⟨c21, hp⟩ | ⟨c21, hp⟩
 ·
  refine FW.condT rfl c21 ?_
  refine FW.seq (FW.region ?_)
  refine FL.v (E.assign (v := Value.pointer none) rfl) ?_
  refine FL.v (E.assign (v := Value.bool false) rfl) ?_
  refine FL.nil ?_
  refine FW.ret ?_
  obtain rfl := Option.some.inj hp
  exact ⟨.inr rfl, res2 rfl rfl rfl ⟨_, _, rfl, S0.run, FAt.nil⟩⟩
 ·
  refine FW.condF rfl c21 ?_
  refine FW.skip (FW.seq (FW.region ?_))
  refine FL.v (E.move (v := Value.string a0) rfl) ?_
  obtain ⟨r22, hr23, hp⟩ := bnd hp
  refine FL.call rfl rfl rfl (E.call Tryz.call127 (A1 rfl)) (w_impl_parseFrom S0.sl a0 hr23) ?_
  rintro e w25 ⟨H24, v28, rfl, r27, h29⟩
  refine ⟨_, rfl, ?_⟩
  have S26 := S0.call r27
  refine FL.v (E.move (v := Value.tuple #[v28, Value.string r22.2.1, Value.bool r22.2.2]) rfl) ?_
  refine FL.v (E.extract (i := 0) rfl rfl) ?_
  refine FL.v (E.extract (i := 1) rfl rfl) ?_
  refine FL.v (E.extract (i := 2) rfl rfl) ?_
  refine FL.v (E.assign (v := v28) rfl) ?_
  refine FL.v (E.assign (v := Value.string r22.2.1) rfl) ?_
  refine FL.v (E.assign (v := Value.bool r22.2.2) rfl) ?_
  refine FL.nil (FW.seq (FW.seq (FW.region ?_)))
  refine FL.v (E.move (v := Value.bool r22.2.2) rfl) ?_
  refine FL.v (E.not rfl) ?_
  refine FL.v (E.move (v := Value.bool (!r22.2.2)) rfl) ?_
  refine FL.cut 3 (fun f w => ∃ H : GH, St Ha wa H w [] ∧ Inc H24 H ∧ f 4 = v28 ∧ f 21 = Value.bool (bif (!r22.2.2) then true else (!(r22.2.1.toList == (ByteArray.mk #[]).toList)))) ?_ ?_
  ·
   rcases bcase (!r22.2.2) with c36 | c36
   ·
    refine FL.skip (wF_no rfl rfl rfl c36) rfl ?_
    refine FL.skip (wF_no rfl rfl rfl c36) rfl ?_
    refine FL.v (E.pickT rfl c36 rfl) ?_
    exact FL.nil ⟨rfl, _, S26, (Inc.rfl _), rfl, (congrArg Value.bool (bifT c36).symm)⟩
   ·
    refine FL.val (wF_yes rfl rfl rfl c36) rfl rfl (E.move (v := Value.string r22.2.1) rfl) ?_
    refine FL.val (wF_yes rfl rfl rfl c36) rfl rfl (E.neqS rfl rfl) ?_
    refine FL.v (E.pickF rfl c36 rfl) ?_
    exact FL.nil ⟨rfl, _, S26, (Inc.rfl _), rfl, (congrArg Value.bool (bifF c36).symm)⟩
  rintro f35 w34 ⟨H31, S32, i33, k37, k38⟩
  refine FL.nil ?_
  rcases ifB hp with ⟨c39, hp⟩ | ⟨c39, hp⟩
  ·
   refine FW.condT k38 c39 ?_
   refine FW.seq (FW.region ?_)
   refine FL.v (E.assign (v := Value.pointer none) rfl) ?_
   refine FL.v (E.assign (v := Value.bool false) rfl) ?_
   refine FL.nil ?_
   refine FW.ret ?_
   obtain rfl := Option.some.inj hp
   exact ⟨.inr rfl, res2 rfl rfl rfl ⟨_, _, rfl, S32.run, FAt.nil⟩⟩
  ·
   refine FW.condF k38 c39 ?_
   refine FW.skip (FW.seq (FW.region ?_))
   refine FL.v (E.move k37) ?_
   refine FL.v (E.assign (v := v28) rfl) ?_
   refine FL.v (E.assign (v := Value.bool true) rfl) ?_
   refine FL.nil ?_
   refine FW.ret ?_
   obtain rfl := Option.some.inj hp
   exact ⟨.inr rfl, res2 rfl rfl rfl ⟨_, _, rfl, S32.run, (h29.mono i33)⟩⟩

theorem w_impl_IsFormula {Ha : GH} {wa : World} (hs : Sl Ha wa) (a0 : ByteArray) {r : Bool} (hp : (PF.impl_IsFormula a0) = some r) :
  Calls Tryz.prog 35 #[Value.string a0] wa (Sc Ha wa (Value.bool r)) := by
 unfold PF.impl_IsFormula at hp
 have S0 := St.init hs
 refine calls_go (N := 11) (args := [Value.string a0]) Tryz.func35 rfl rfl rfl ?_
 refine FW.seq (FW.region ?_)
 refine FL.v (E.assign (v := Value.bool false) rfl) ?_
 refine FL.nil (FW.seq (FW.region ?_))
 refine FL.v (E.move (v := Value.string a0) rfl) ?_
 obtain ⟨r21, hr22, hp⟩ := bnd hp
 refine FL.call rfl rfl rfl (E.call Tryz.call78 (A1 rfl)) (w_impl_parse S0.sl a0 hr22) ?_
 rintro e w24 ⟨H23, v27, rfl, r26, h28⟩
 refine ⟨_, rfl, ?_⟩
 have S25 := S0.call r26
 refine FL.v (E.move (v := Value.tuple #[v27, Value.bool r21.2]) rfl) ?_
 refine FL.v (E.extract (i := 0) rfl rfl) ?_
 refine FL.v (E.extract (i := 1) rfl rfl) ?_
 refine FL.v (E.assign (v := v27) rfl) ?_
 refine FL.v (E.assign (v := Value.bool r21.2) rfl) ?_
 refine FL.nil (FW.seq (FW.region ?_))
 refine FL.v (E.move (v := Value.bool r21.2) rfl) ?_
 refine FL.v (E.assign (v := Value.bool r21.2) rfl) ?_
 refine FL.nil ?_
 refine FW.ret ?_
 obtain rfl := Option.some.inj hp
 exact ⟨.inr rfl, res1 rfl rfl ⟨rfl, S25.back⟩⟩

theorem w_cmp_isNaN_int {Ha : GH} {wa : World} (hs : Sl Ha wa) (a0 : Int) :
  Calls Tryz.prog 210 #[Value.int .i64 a0] wa (Sc Ha wa (Value.bool (PF.cmp_isNaN_int a0))) := by
 obtain ⟨r, hp⟩ : ∃ r, (PF.cmp_isNaN_int a0) = r := ⟨_, rfl⟩
 rw [hp]
 unfold PF.cmp_isNaN_int at hp
 have S0 := St.init hs
 refine calls_go (N := 6) (args := [Value.int .i64 a0]) Tryz.func210 rfl rfl rfl ?_
 refine FW.seq (FW.region ?_)
 refine FL.v (E.assign (v := Value.bool false) rfl) ?_
 refine FL.nil (FW.seq (FW.region ?_))
 refine FL.v (E.move (v := Value.int .i64 a0) rfl) ?_
 refine FL.v (E.move (v := Value.int .i64 a0) rfl) ?_
 refine FL.v (E.neq rfl rfl) ?_
 refine FL.v (E.assign (v := Value.bool (!(a0 == a0))) rfl) ?_
 refine FL.nil ?_
 refine FW.ret ?_
 obtain rfl := hp
 exact ⟨.inr rfl, res1 rfl rfl ⟨rfl, S0.back⟩⟩

set_option maxHeartbeats 4000000 in
theorem w_cmp_Compare_int {Ha : GH} {wa : World} (hs : Sl Ha wa) (a0 : Int) (a1 : Int) :
  Calls Tryz.prog 165 #[Value.int .i64 a0, Value.int .i64 a1] wa (Sc Ha wa (Value.int .i64 (PF.cmp_Compare_int a0 a1))) := by
 obtain ⟨r, hp⟩ : ∃ r, (PF.cmp_Compare_int a0 a1) = r := ⟨_, rfl⟩
 rw [hp]
 unfold PF.cmp_Compare_int at hp
 have S0 := St.init hs
 refine calls_go (N := 20) (args := [Value.int .i64 a0, Value.int .i64 a1]) Tryz.func165 rfl rfl rfl ?_
 refine FW.seq (FW.region ?_)
 refine FL.v (E.assign (v := Value.int .i64 0) rfl) ?_
 refine FL.nil (FW.seq (FW.region ?_))
 refine FL.v (E.move (v := Value.int .i64 a0) rfl) ?_
 refine FL.call rfl rfl rfl (E.call Tryz.call210 (A1 rfl)) (w_cmp_isNaN_int S0.sl a0) ?_
 rintro e w21 ⟨rfl, r22⟩
 refine ⟨_, rfl, ?_⟩
 have S23 := S0.call r22
 refine FL.v (E.assign (v := Value.bool (PF.cmp_isNaN_int a0)) rfl) ?_
 refine FL.nil (FW.seq (FW.region ?_))
 refine FL.v (E.move (v := Value.int .i64 a1) rfl) ?_
 refine FL.call rfl rfl rfl (E.call Tryz.call210 (A1 rfl)) (w_cmp_isNaN_int S23.sl a1) ?_
 rintro e w24 ⟨rfl, r25⟩
 refine ⟨_, rfl, ?_⟩
 have S26 := S23.call r25
 refine FL.v (E.assign (v := Value.bool (PF.cmp_isNaN_int a1)) rfl) ?_
 refine FL.nil (FW.seq (FW.seq (FW.region ?_)))
 refine FL.v (E.move (v := Value.bool (PF.cmp_isNaN_int a0)) rfl) ?_
 refine FL.nil ?_
 rcases ifT hp with ⟨c27, hp⟩ | ⟨c27, hp⟩
 ·
  refine FW.condT rfl c27 ?_
  refine FW.seq (FW.seq (FW.region ?_))
  refine FL.v (E.move (v := Value.bool (PF.cmp_isNaN_int a1)) rfl) ?_
  refine FL.nil ?_
  rcases ifT hp with ⟨c28, hp⟩ | ⟨c28, hp⟩
  ·
   refine FW.condT rfl c28 ?_
   refine FW.seq (FW.region ?_)
   refine FL.v (E.assign (v := Value.int .i64 0) rfl) ?_
   refine FL.nil ?_
   refine FW.ret ?_
   obtain rfl := hp
   exact ⟨.inr rfl, res1 rfl rfl ⟨rfl, S26.back⟩⟩
  ·
   refine FW.condF rfl c28 ?_
   refine FW.skip (FW.seq (FW.region ?_))
   refine FL.v (E.assign (v := Value.int .i64 (-1)) rfl) ?_
   refine FL.nil ?_
   refine FW.ret ?_
   obtain rfl := hp
   exact ⟨.inr rfl, res1 rfl rfl ⟨rfl, S26.back⟩⟩
 ·
  refine FW.condF rfl c27 ?_
  refine FW.skip (FW.seq (FW.seq (FW.region ?_)))
  refine FL.v (E.move (v := Value.bool (PF.cmp_isNaN_int a1)) rfl) ?_
  refine FL.nil ?_
  rcases ifT hp with ⟨c29, hp⟩ | ⟨c29, hp⟩
  ·
   refine FW.condT rfl c29 ?_
   refine FW.seq (FW.region ?_)
   refine FL.v (E.assign (v := Value.int .i64 1) rfl) ?_
   refine FL.nil ?_
   refine FW.ret ?_
   obtain rfl := hp
   exact ⟨.inr rfl, res1 rfl rfl ⟨rfl, S26.back⟩⟩
  ·
   refine FW.condF rfl c29 ?_
   refine FW.skip (FW.seq (FW.seq (FW.region ?_)))
   refine FL.v (E.move (v := Value.int .i64 a0) rfl) ?_
   refine FL.v (E.move (v := Value.int .i64 a1) rfl) ?_
   refine FL.v (E.lss rfl rfl) ?_
   refine FL.nil ?_
   rcases ifT hp with ⟨c30, hp⟩ | ⟨c30, hp⟩
   ·
    refine FW.condT rfl c30 ?_
    refine FW.seq (FW.region ?_)
    refine FL.v (E.assign (v := Value.int .i64 (-1)) rfl) ?_
    refine FL.nil ?_
    refine FW.ret ?_
    obtain rfl := hp
    exact ⟨.inr rfl, res1 rfl rfl ⟨rfl, S26.back⟩⟩
   ·
    refine FW.condF rfl c30 ?_
    refine FW.skip (FW.seq (FW.seq (FW.region ?_)))
    refine FL.v (E.move (v := Value.int .i64 a0) rfl) ?_
    refine FL.v (E.move (v := Value.int .i64 a1) rfl) ?_
    refine FL.v (E.gtr rfl rfl) ?_
    refine FL.nil ?_
    rcases ifT hp with ⟨c31, hp⟩ | ⟨c31, hp⟩
    ·
     refine FW.condT rfl c31 ?_
     refine FW.seq (FW.region ?_)
     refine FL.v (E.assign (v := Value.int .i64 1) rfl) ?_
     refine FL.nil ?_
     refine FW.ret ?_
     obtain rfl := hp
     exact ⟨.inr rfl, res1 rfl rfl ⟨rfl, S26.back⟩⟩
    ·
     refine FW.condF rfl c31 ?_
     refine FW.skip (FW.seq (FW.region ?_))
     refine FL.v (E.assign (v := Value.int .i64 0) rfl) ?_
     refine FL.nil ?_
     refine FW.ret ?_
     obtain rfl := hp
     exact ⟨.inr rfl, res1 rfl rfl ⟨rfl, S26.back⟩⟩

theorem w_strings_Compare {Ha : GH} {wa : World} (hs : Sl Ha wa) (a0 a1 : ByteArray) : Calls Tryz.prog 166 #[Value.string a0, Value.string a1] wa (Sc Ha wa (Value.int .i64 (PF.strings_Compare a0 a1))) := by
 refine (Go.Proofs.Any.strings_Compare Tryz.comp166 a0 a1 wa).mono ?_
 rintro e w' ⟨rfl, rfl⟩
 exact ⟨rfl, Run.refl _ hs⟩

theorem w_cmp_Or_int {Ha : GH} {wa : World} (hs : Sl Ha wa) (v0 : Value) (a0 : List Int) (p0 : RSl Ha eI 1 v0 a0) {r : Int} (hp : (PF.cmp_Or_int a0) = some r) :
  Calls Tryz.prog 164 #[v0] wa (Sc Ha wa (Value.int .i64 r)) := by
 unfold PF.cmp_Or_int at hp
 have S0 := St.init hs
 refine calls_go (N := 18) (args := [v0]) Tryz.func164 rfl rfl rfl ?_
 refine FW.seq (FW.region ?_)
 refine FL.v (E.assign (v := Value.int .i64 0) rfl) ?_
 refine FL.nil (FW.seq (FW.region ?_))
 refine FL.v (E.assign (v := Value.int .i64 0) rfl) ?_
 refine FL.nil (FW.seq (FW.seq (FW.region ?_)))
 refine FL.v (E.move (v := v0) rfl) ?_
 refine FL.v (E.lenP te82 rfl p0) ?_
 refine FL.v (E.move (v := Value.int .i64 0) rfl) ?_
 refine FL.nil ?_
 obtain ⟨q22, hq, hp⟩ := bndR hp
 refine FW.block ?_
 refine FW.mono (FW.forL (S := Unit) (X := Int) (fun (i22 : Nat) (s22 : Unit) f w => ∃ H : GH, St Ha wa H w [] ∧ Inc Ha H ∧ f 8 = Value.int .i64 ((i22 : Nat) : Int) ∧ f 3 = Value.int .i64 0 ∧ f 6 = v0 ∧ f 7 = Value.int .i64 (len a0)) (fun q e f w => match q with | .go s22 => e = Exit.exit 0 ∧ (∃ H : GH, St Ha wa H w [] ∧ Inc Ha H ∧ f 3 = Value.int .i64 0) | .rt x => ((e = Exit.ret) ∧ (fun e f w => (e = Exit.normal ∨ e = Exit.ret) ∧ ∀ a, Fr (δ := []) 18 a f → ∃ v, (results Tryz.f164 a.tmps).run Tryz.prog w = .ok v w ∧ (Sc Ha wa (Value.int .i64 x)) (.returned v) w) e f w)) hq ⟨_, S0, (Inc.rfl _), rfl, rfl, rfl, rfl⟩ ?_ ?_) ?_
 ·
  clear hp hq
  rintro i22 y21 s22 f43 w42 ⟨H39, S40, i41, k44, k45, k46, k47⟩ hx22 o55 hp
  refine FW.seq (FW.region ?_)
  refine FL.v (E.lssT k44 k47 (lss_len hx22)) ?_
  refine FL.nil (FW.seq ?_)
  refine FW.condT rfl rfl ?_
  refine FW.skip (FW.seq (FW.block (FW.seq (FW.region ?_))))
  obtain ⟨p48, cs49, pt50, l51, at52, rel53⟩ := p0.at (ix_nat hx22)
  obtain rfl := eI_open rel53
  refine FL.v (E.indexAddr te82 k46 k44 pt50) ?_
  refine FL.v (E.load rfl (run_load0 Tryz.isAgg3 ((at52.mono i41).now S40.sl) rfl)) ?_
  refine FL.v (E.assign (v := Value.int .i64 y21) rfl) ?_
  refine FL.nil (FW.seq (FW.region ?_))
  refine FL.v (E.move (v := Value.int .i64 y21) rfl) ?_
  refine FL.v (E.move k45) ?_
  refine FL.v (E.neq rfl rfl) ?_
  refine FL.nil ?_
  rcases ifB hp with ⟨c54, hp⟩ | ⟨c54, hp⟩
  ·
   refine FW.condT rfl c54 ?_
   refine FW.seq (FW.region ?_)
   refine FL.v (E.move (v := Value.int .i64 y21) rfl) ?_
   refine FL.v (E.assign (v := Value.int .i64 y21) rfl) ?_
   refine FL.nil ?_
   refine FW.ret ?_
   obtain rfl := Option.some.inj hp
   exact ⟨nofun, rfl, ⟨.inr rfl, res1 rfl rfl ⟨rfl, S40.back⟩⟩⟩
  ·
   refine FW.condF rfl c54 ?_
   refine FW.skip (FW.region ?_)
   refine FL.v (E.add k44 rfl) ?_
   refine FL.v (E.move (v := Value.int .i64 (wr (((i22 : Nat) : Int) + 1))) rfl) ?_
   refine FL.nil ?_
   obtain rfl := Option.some.inj hp
   exact ⟨rfl, ⟨_, S40, i41, (nat_succ rfl (lt_of_get hx22) (p0.mono i41).le), k45, k46, k47⟩⟩
 ·
  clear hp hq
  rintro s22 f66 w65 ⟨H62, S63, i64, k67, k68, k69, k70⟩
  refine FW.seq (FW.region ?_)
  refine FL.v (E.lss k67 k70) ?_
  refine FL.nil (FW.seq ?_)
  refine FW.condF rfl dlt_len ?_
  refine FW.exit ?_
  exact ⟨nofun, rfl, ⟨_, S63, i64, k68⟩⟩
 ·
  clear hq
  intro e f60 w59 hD
  rcases q22 with s22 | x22
  ·
   obtain ⟨rfl, hD⟩ := hD
   obtain ⟨H56, S57, i58, k61⟩ := hD
   replace hp := el_go hp
   refine FW.seq (FW.region ?_)
   refine FL.v (E.move k61) ?_
   refine FL.v (E.assign (v := Value.int .i64 0) rfl) ?_
   refine FL.nil ?_
   refine FW.ret ?_
   obtain rfl := Option.some.inj hp
   exact ⟨.inr rfl, res1 rfl rfl ⟨rfl, S57.back⟩⟩
  ·
   obtain ⟨he, hL⟩ := hD
   replace hp := el_rt hp
   obtain rfl := Option.some.inj hp
   subst he
   exact hL

theorem w_impl_compareFormulas {Ha : GH} {wa : World} (hs : Sl Ha wa) (a0 : ByteArray) (a1 : ByteArray) {r : Int} (hp : (PF.impl_compareFormulas a0 a1) = some r) :
  Calls Tryz.prog 118 #[Value.string a0, Value.string a1] wa (Sc Ha wa (Value.int .i64 r)) := by
 unfold PF.impl_compareFormulas at hp
 have S0 := St.init hs
 refine calls_go (N := 15) (args := [Value.string a0, Value.string a1]) Tryz.func118 rfl rfl rfl ?_
 refine FW.seq (FW.region ?_)
 refine FL.v (E.assign (v := Value.int .i64 0) rfl) ?_
 refine FL.nil (FW.seq (FW.region ?_))
 refine FL.v (E.move (v := Value.string a0) rfl) ?_
 refine FL.v (E.lenS Tryz.runUnderlying9 rfl) ?_
 refine FL.v (E.move (v := Value.string a1) rfl) ?_
 refine FL.v (E.lenS Tryz.runUnderlying9 rfl) ?_
 refine FL.call rfl rfl rfl (E.call Tryz.call165 (A2 rfl rfl)) (w_cmp_Compare_int S0.sl (a0.size : Int) (a1.size : Int)) ?_
 rintro e w21 ⟨rfl, r22⟩
 refine ⟨_, rfl, ?_⟩
 have S23 := S0.call r22
 refine FL.v (E.move (v := Value.string a0) rfl) ?_
 refine FL.v (E.move (v := Value.string a1) rfl) ?_
 refine FL.call rfl rfl rfl (E.call Tryz.call166 (A2 rfl rfl)) (w_strings_Compare S23.sl a0 a1) ?_
 rintro e w24 ⟨rfl, r25⟩
 refine ⟨_, rfl, ?_⟩
 have S26 := S23.call r25
 obtain ⟨v27, w28, run29, S30, els31⟩ := S26.ints (P := Tryz.prog) te82 (up wa.heap.size Ha) 2 [(PF.cmp_Compare_int (a0.size : Int) (a1.size : Int)), (PF.strings_Compare a0 a1)]
 refine FL.v (E.buildSlice (B2 rfl rfl) run29) ?_
 obtain ⟨H32, S33, i34, h35, nv36⟩ := S30.sealRowU (i := 0) (l' := []) rfl els31 (by decide) rfl
 obtain ⟨r37, hr38, hp⟩ := bnd hp
 refine FL.call rfl rfl rfl (E.call Tryz.call164 (A1 rfl)) (w_cmp_Or_int S33.sl v27 [(PF.cmp_Compare_int (a0.size : Int) (a1.size : Int)), (PF.strings_Compare a0 a1)] (h35.mono upI) hr38) ?_
 rintro e w39 ⟨rfl, r40⟩
 refine ⟨_, rfl, ?_⟩
 have r40 := Run.lend i34 S30.sl r40
 have S41 := S30.call r40
 refine FL.v (E.assign (v := Value.int .i64 r37) rfl) ?_
 refine FL.nil ?_
 refine FW.ret ?_
 obtain rfl := Option.some.inj hp
 exact ⟨.inr rfl, res1 rfl rfl ⟨rfl, S41.back⟩⟩

set_option maxHeartbeats 4000000 in
theorem w_impl_sideOk {Ha : GH} {wa : World} (hs : Sl Ha wa) (v0 : Value) (a0 : List ByteArray) (p0 : RSl Ha eS 1 v0 a0) {r : Bool} (hp : (PF.impl_sideOk a0) = some r) :
  Calls Tryz.prog 167 #[v0] wa (Sc Ha wa (Value.bool r)) := by
 unfold PF.impl_sideOk at hp
 have S0 := St.init hs
 refine calls_go (N := 33) (args := [v0]) Tryz.func167 rfl rfl rfl ?_
 refine FW.seq (FW.region ?_)
 refine FL.v (E.assign (v := Value.bool false) rfl) ?_
 refine FL.nil (FW.seq (FW.seq (FW.region ?_)))
 refine FL.v (E.move (v := v0) rfl) ?_
 refine FL.v (E.lenP te22 rfl p0) ?_
 refine FL.v (E.move (v := Value.int .i64 0) rfl) ?_
 refine FL.nil ?_
 obtain ⟨q22, hq, hp⟩ := bndR hp
 refine FW.block ?_
 refine FW.mono (FW.forL (S := Unit) (X := Bool) (fun (i22 : Nat) (s22 : Unit) f w => ∃ H : GH, St Ha wa H w [] ∧ Inc Ha H ∧ f 7 = Value.int .i64 ((i22 : Nat) : Int) ∧ f 0 = v0 ∧ f 5 = v0 ∧ f 6 = Value.int .i64 (len a0)) (fun q e f w => match q with | .go s22 => e = Exit.exit 0 ∧ (∃ H : GH, St Ha wa H w [] ∧ Inc Ha H ∧ f 0 = v0) | .rt x => ((e = Exit.ret) ∧ (fun e f w => (e = Exit.normal ∨ e = Exit.ret) ∧ ∀ a, Fr (δ := []) 33 a f → ∃ v, (results Tryz.f167 a.tmps).run Tryz.prog w = .ok v w ∧ (Sc Ha wa (Value.bool x)) (.returned v) w) e f w)) hq ⟨_, S0, (Inc.rfl _), rfl, rfl, rfl, rfl⟩ ?_ ?_) ?_
 ·
  clear hp hq
  rintro i22 y21 s22 f138 w137 ⟨H134, S135, i136, k139, k140, k141, k142⟩ hx22 o245 hp
  refine FW.seq (FW.region ?_)
  refine FL.v (E.lssT k139 k142 (lss_len hx22)) ?_
  refine FL.nil (FW.seq ?_)
  refine FW.condT rfl rfl ?_
  refine FW.skip (FW.seq (FW.block (FW.seq (FW.region ?_))))
  refine FL.v (E.move k139) ?_
  obtain ⟨p143, cs144, pt145, l146, at147, rel148⟩ := p0.at (ix_nat hx22)
  obtain rfl := eS_open rel148
  refine FL.v (E.indexAddr te22 k141 k139 pt145) ?_
  refine FL.v (E.load rfl (run_load0 Tryz.isAgg9 ((at147.mono i136).now S135.sl) rfl)) ?_
  refine FL.v (E.assign (v := Value.int .i64 ((i22 : Nat) : Int)) rfl) ?_
  refine FL.v (E.assign (v := Value.string y21) rfl) ?_
  refine FL.nil (FW.seq (FW.region ?_))
  refine FL.v (E.move (v := Value.string y21) rfl) ?_
  obtain ⟨r149, hr150, hp⟩ := bnd hp
  refine FL.call rfl rfl rfl (E.call Tryz.call35 (A1 rfl)) (w_impl_IsFormula S135.sl y21 hr150) ?_
  rintro e w151 ⟨rfl, r152⟩
  refine ⟨_, rfl, ?_⟩
  have S153 := S135.call r152
  refine FL.v (E.not rfl) ?_
  refine FL.v (E.move (v := Value.bool (!r149)) rfl) ?_
  obtain ⟨t193, hqt193, hp⟩ := bnd hp
  refine FL.cut 13 (fun f w => ∃ H : GH, St Ha wa H w [] ∧ Inc H134 H ∧ f 0 = v0 ∧ f 5 = v0 ∧ f 6 = Value.int .i64 (len a0) ∧ f 7 = Value.int .i64 ((i22 : Nat) : Int) ∧ f 28 = Value.bool t193) ?_ ?_
  ·
   clear hp; have hp := hqt193; clear hqt193
   rcases ifB hp with ⟨c199, hp⟩ | ⟨c199, hp⟩
   ·
    refine FL.skip (wF_no rfl rfl rfl c199) rfl ?_
    refine FL.skip (wF_no rfl rfl rfl c199) rfl ?_
    refine FL.skip (wF_no rfl rfl rfl c199) rfl ?_
    refine FL.skip (wF_undef rfl rfl rfl) rfl ?_
    refine FL.skip (wF_undef rfl rfl rfl) rfl ?_
    refine FL.skip (wF_undef rfl rfl rfl) rfl ?_
    refine FL.skip (wF_undef rfl rfl rfl) rfl ?_
    refine FL.skip (wF_undef rfl rfl rfl) rfl ?_
    refine FL.skip (wF_undef rfl rfl rfl) rfl ?_
    refine FL.skip (wF_undef rfl rfl rfl) rfl ?_
    refine FL.skip (wF_undef rfl rfl rfl) rfl ?_
    refine FL.skip (wF_no rfl rfl rfl c199) rfl ?_
    obtain rfl := Option.some.inj hp
    refine FL.v (E.pickT rfl c199 rfl) ?_
    exact FL.nil ⟨rfl, _, S153, (Inc.rfl _), k140, k141, k142, k139, rfl⟩
   ·
    refine FL.val (wF_yes rfl rfl rfl c199) rfl rfl (E.move (v := Value.int .i64 ((i22 : Nat) : Int)) rfl) ?_
    refine FL.val (wF_yes rfl rfl rfl c199) rfl rfl (E.gtr rfl rfl) ?_
    refine FL.val (wF_yes rfl rfl rfl c199) rfl rfl (E.move (v := Value.bool (decide (0 < ((i22 : Nat) : Int)))) rfl) ?_
    obtain ⟨t213, hqt213, hp⟩ := bnd hp
    refine FL.cut 9 (fun f w => ∃ H : GH, St Ha wa H w [] ∧ Inc H134 H ∧ f 0 = v0 ∧ f 5 = v0 ∧ f 6 = Value.int .i64 (len a0) ∧ f 7 = Value.int .i64 ((i22 : Nat) : Int) ∧ f 15 = Value.bool (!r149) ∧ f 27 = Value.bool t213) ?_ ?_
    ·
     clear hp; have hp := hqt213; clear hqt213
     rcases ifB hp with ⟨c219, hp⟩ | ⟨c219, hp⟩
     ·
      refine FL.val (wF_yes rfl rfl rfl c219) rfl rfl (E.move k140) ?_
      refine FL.val (wF_yes rfl rfl rfl c219) rfl rfl (E.move (v := Value.int .i64 ((i22 : Nat) : Int)) rfl) ?_
      refine FL.val (wF_yes rfl rfl rfl c219) rfl rfl (E.sub rfl rfl) ?_
      obtain ⟨x226, hx227, hp⟩ := bnd hp
      obtain ⟨p220, cs221, pt222, l223, at224, rel225⟩ := p0.at hx227
      obtain rfl := eS_open rel225
      refine FL.val (wF_yes rfl rfl rfl c219) rfl rfl (E.indexAddr te22 rfl rfl pt222) ?_
      refine FL.val (wF_yes rfl rfl rfl c219) rfl rfl (E.load rfl (run_load0 Tryz.isAgg9 ((at224.mono i136).now S153.sl) rfl)) ?_
      refine FL.val (wF_yes rfl rfl rfl c219) rfl rfl (E.move (v := Value.string y21) rfl) ?_
      obtain ⟨r228, hr229, hp⟩ := bnd hp
      refine FL.call (wF_yes rfl rfl rfl c219) rfl rfl (E.call Tryz.call118 (A2 rfl rfl)) (w_impl_compareFormulas S153.sl x226 y21 hr229) ?_
      rintro e w230 ⟨rfl, r231⟩
      refine ⟨_, rfl, ?_⟩
      have S232 := S153.call r231
      refine FL.val (wF_yes rfl rfl rfl c219) rfl rfl (E.geq rfl rfl) ?_
      obtain rfl := Option.some.inj hp
      refine FL.val (wF_yes rfl rfl rfl c199) rfl rfl (E.pickT rfl c219 rfl) ?_
      exact FL.nil ⟨rfl, _, S232, (Inc.rfl _), k140, k141, k142, k139, rfl, rfl⟩
     ·
      refine FL.skip (wF_no rfl rfl rfl c219) rfl ?_
      refine FL.skip (wF_no rfl rfl rfl c219) rfl ?_
      refine FL.skip (wF_no rfl rfl rfl c219) rfl ?_
      refine FL.skip (wF_no rfl rfl rfl c219) rfl ?_
      refine FL.skip (wF_no rfl rfl rfl c219) rfl ?_
      refine FL.skip (wF_no rfl rfl rfl c219) rfl ?_
      refine FL.skip (wF_no rfl rfl rfl c219) rfl ?_
      refine FL.skip (wF_no rfl rfl rfl c219) rfl ?_
      obtain rfl := Option.some.inj hp
      refine FL.val (wF_yes rfl rfl rfl c199) rfl rfl (E.pickF rfl c219 rfl) ?_
      exact FL.nil ⟨rfl, _, S153, (Inc.rfl _), k140, k141, k142, k139, rfl, rfl⟩
    rintro f218 w217 ⟨H214, S215, i216, k233, k234, k235, k236, k237, k238⟩
    obtain rfl := Option.some.inj hp
    refine FL.v (E.pickF k237 c199 k238) ?_
    exact FL.nil ⟨rfl, _, S215, i216, k233, k234, k235, k236, rfl⟩
  rintro f198 w197 ⟨H194, S195, i196, k239, k240, k241, k242, k243⟩
  refine FL.nil ?_
  rcases ifB hp with ⟨c244, hp⟩ | ⟨c244, hp⟩
  ·
   refine FW.condT k243 c244 ?_
   refine FW.seq (FW.region ?_)
   refine FL.v (E.assign (v := Value.bool false) rfl) ?_
   refine FL.nil ?_
   refine FW.ret ?_
   obtain rfl := Option.some.inj hp
   exact ⟨nofun, rfl, ⟨.inr rfl, res1 rfl rfl ⟨rfl, S195.back⟩⟩⟩
  ·
   refine FW.condF k243 c244 ?_
   refine FW.skip (FW.region ?_)
   refine FL.v (E.add k242 rfl) ?_
   refine FL.v (E.move (v := Value.int .i64 (wr (((i22 : Nat) : Int) + 1))) rfl) ?_
   refine FL.nil ?_
   obtain rfl := Option.some.inj hp
   exact ⟨rfl, ⟨_, S195, (i136.tr i196), (nat_succ rfl (lt_of_get hx22) (p0.mono (i136.tr i196)).le), k239, k240, k241⟩⟩
 ·
  clear hp hq
  rintro s22 f256 w255 ⟨H252, S253, i254, k257, k258, k259, k260⟩
  refine FW.seq (FW.region ?_)
  refine FL.v (E.lss k257 k260) ?_
  refine FL.nil (FW.seq ?_)
  refine FW.condF rfl dlt_len ?_
  refine FW.exit ?_
  exact ⟨nofun, rfl, ⟨_, S253, i254, k258⟩⟩
 ·
  clear hq
  intro e f250 w249 hD
  rcases q22 with s22 | x22
  ·
   obtain ⟨rfl, hD⟩ := hD
   obtain ⟨H246, S247, i248, k251⟩ := hD
   replace hp := el_go hp
   refine FW.seq (FW.region ?_)
   refine FL.v (E.move k251) ?_
   refine FL.v (E.lenP te22 rfl p0) ?_
   refine FL.v (E.leq rfl rfl) ?_
   refine FL.v (E.assign (v := Value.bool (decide ((len a0) ≤ 12))) rfl) ?_
   refine FL.nil ?_
   refine FW.ret ?_
   obtain rfl := Option.some.inj hp
   exact ⟨.inr rfl, res1 rfl rfl ⟨rfl, S247.back⟩⟩
  ·
   obtain ⟨he, hL⟩ := hD
   replace hp := el_rt hp
   obtain rfl := Option.some.inj hp
   subst he
   exact hL

theorem w_impl_IsSequent {Ha : GH} {wa : World} (hs : Sl Ha wa) (a0 : Sequent) (v0_0 : Value) (p0_0 : RSl Ha eS 1 v0_0 a0.left) (v0_1 : Value) (p0_1 : RSl Ha eS 1 v0_1 a0.right) {r : Bool} (hp : (PF.impl_IsSequent a0) = some r) :
  Calls Tryz.prog 120 #[Value.agg #[v0_0, v0_1]] wa (Sc Ha wa (Value.bool r)) := by
 unfold PF.impl_IsSequent at hp
 have S0 := St.init hs
 refine calls_go (N := 11) (args := [Value.agg #[v0_0, v0_1]]) Tryz.func120 rfl rfl rfl ?_
 refine FW.seq (FW.region ?_)
 obtain ⟨b21, w22, run23, S24⟩ := S0.box (P := Tryz.prog) 68 [v0_0, v0_1] (v := Value.agg #[v0_0, v0_1]) rfl (ones_cons p0_0.one (ones_cons p0_1.one ones_nil))
 refine FL.v (E.box rfl run23) ?_
 obtain ⟨H25, S26, i27, at28⟩ := S24.sealBox (i := 0) (l' := []) rfl rfl
 refine FL.v (E.assign (v := Value.bool false) rfl) ?_
 refine FL.nil (FW.seq (FW.region ?_))
 refine FL.v (E.fieldAddr tf68_0 rfl) ?_
 refine FL.v (E.load rfl (run_load1 Tryz.isAgg22 (at28.now S26.sl) rfl)) ?_
 obtain ⟨r29, hr30, hp⟩ := bnd hp
 refine FL.call rfl rfl rfl (E.call Tryz.call167 (A1 rfl)) (w_impl_sideOk S26.sl v0_0 a0.left (p0_0.mono i27) hr30) ?_
 rintro e w31 ⟨rfl, r32⟩
 refine ⟨_, rfl, ?_⟩
 have S33 := S26.call r32
 refine FL.v (E.move (v := Value.bool r29) rfl) ?_
 obtain ⟨t39, hqt39, hp⟩ := bnd hp
 refine FL.cut 4 (fun f w => ∃ H : GH, St Ha wa H w [] ∧ Inc H25 H ∧ f 10 = Value.bool t39) ?_ ?_
 ·
  clear hp; have hp := hqt39; clear hqt39
  rcases ifB hp with ⟨c45, hp⟩ | ⟨c45, hp⟩
  ·
   refine FL.val (wF_yes rfl rfl rfl c45) rfl rfl (E.fieldAddr tf68_1 rfl) ?_
   refine FL.val (wF_yes rfl rfl rfl c45) rfl rfl (E.load rfl (run_load1 Tryz.isAgg22 (at28.now S33.sl) rfl)) ?_
   obtain ⟨r46, hr47, hp⟩ := bnd hp
   refine FL.call (wF_yes rfl rfl rfl c45) rfl rfl (E.call Tryz.call167 (A1 rfl)) (w_impl_sideOk S33.sl v0_1 a0.right (p0_1.mono i27) hr47) ?_
   rintro e w48 ⟨rfl, r49⟩
   refine ⟨_, rfl, ?_⟩
   have S50 := S33.call r49
   obtain rfl := Option.some.inj hp
   refine FL.v (E.pickT rfl c45 rfl) ?_
   exact FL.nil ⟨rfl, _, S50, (Inc.rfl _), rfl⟩
  ·
   refine FL.skip (wF_no rfl rfl rfl c45) rfl ?_
   refine FL.skip (wF_no rfl rfl rfl c45) rfl ?_
   refine FL.skip (wF_no rfl rfl rfl c45) rfl ?_
   obtain rfl := Option.some.inj hp
   refine FL.v (E.pickF rfl c45 rfl) ?_
   exact FL.nil ⟨rfl, _, S33, (Inc.rfl _), rfl⟩
 rintro f44 w43 ⟨H40, S41, i42, k51⟩
 refine FL.v (E.assign k51) ?_
 refine FL.nil ?_
 refine FW.ret ?_
 obtain rfl := Option.some.inj hp
 exact ⟨.inr rfl, res1 rfl rfl ⟨rfl, S41.back⟩⟩

theorem w_slices_Index_string_string {Ha : GH} {wa : World} (hs : Sl Ha wa) (v0 : Value) (a0 : List ByteArray) (p0 : RSl Ha eS 1 v0 a0) (a1 : ByteArray) {r : Int} (hp : (PF.slices_Index_string_string a0 a1) = some r) :
  Calls Tryz.prog 239 #[v0, Value.string a1] wa (Sc Ha wa (Value.int .i64 r)) := by
 unfold PF.slices_Index_string_string at hp
 have S0 := St.init hs
 refine calls_go (N := 19) (args := [v0, Value.string a1]) Tryz.func239 rfl rfl rfl ?_
 refine FW.seq (FW.region ?_)
 refine FL.v (E.assign (v := Value.int .i64 0) rfl) ?_
 refine FL.nil (FW.seq (FW.seq (FW.region ?_)))
 refine FL.v (E.move (v := v0) rfl) ?_
 refine FL.v (E.lenP te22 rfl p0) ?_
 refine FL.v (E.move (v := Value.int .i64 0) rfl) ?_
 refine FL.nil ?_
 obtain ⟨q22, hq, hp⟩ := bndR hp
 refine FW.block ?_
 refine FW.mono (FW.forL (S := Unit) (X := Int) (fun (i22 : Nat) (s22 : Unit) f w => ∃ H : GH, St Ha wa H w [] ∧ Inc Ha H ∧ f 8 = Value.int .i64 ((i22 : Nat) : Int) ∧ f 0 = v0 ∧ f 1 = Value.string a1 ∧ f 7 = Value.int .i64 (len a0)) (fun q e f w => match q with | .go s22 => e = Exit.exit 0 ∧ (∃ H : GH, St Ha wa H w [] ∧ Inc Ha H) | .rt x => ((e = Exit.ret) ∧ (fun e f w => (e = Exit.normal ∨ e = Exit.ret) ∧ ∀ a, Fr (δ := []) 19 a f → ∃ v, (results Tryz.f239 a.tmps).run Tryz.prog w = .ok v w ∧ (Sc Ha wa (Value.int .i64 x)) (.returned v) w) e f w)) hq ⟨_, S0, (Inc.rfl _), rfl, rfl, rfl, rfl⟩ ?_ ?_) ?_
 ·
  clear hp hq
  rintro i22 y21 s22 f43 w42 ⟨H39, S40, i41, k44, k45, k46, k47⟩ hx22 o55 hp
  refine FW.seq (FW.region ?_)
  refine FL.v (E.lssT k44 k47 (lss_len hx22)) ?_
  refine FL.nil (FW.seq ?_)
  refine FW.condT rfl rfl ?_
  refine FW.skip (FW.seq (FW.block (FW.seq (FW.region ?_))))
  refine FL.v (E.move k44) ?_
  refine FL.v (E.assign (v := Value.int .i64 ((i22 : Nat) : Int)) rfl) ?_
  refine FL.nil (FW.seq (FW.region ?_))
  refine FL.v (E.move k46) ?_
  refine FL.v (E.move k45) ?_
  refine FL.v (E.move (v := Value.int .i64 ((i22 : Nat) : Int)) rfl) ?_
  obtain ⟨p48, cs49, pt50, l51, at52, rel53⟩ := p0.at (ix_nat hx22)
  obtain rfl := eS_open rel53
  refine FL.v (E.indexAddr te22 rfl rfl pt50) ?_
  refine FL.v (E.load rfl (run_load0 Tryz.isAgg9 ((at52.mono i41).now S40.sl) rfl)) ?_
  refine FL.v (E.eqlS rfl rfl) ?_
  refine FL.nil ?_
  rcases ifB hp with ⟨c54, hp⟩ | ⟨c54, hp⟩
  ·
   refine FW.condT rfl c54 ?_
   refine FW.seq (FW.region ?_)
   refine FL.v (E.move (v := Value.int .i64 ((i22 : Nat) : Int)) rfl) ?_
   refine FL.v (E.assign (v := Value.int .i64 ((i22 : Nat) : Int)) rfl) ?_
   refine FL.nil ?_
   refine FW.ret ?_
   obtain rfl := Option.some.inj hp
   exact ⟨nofun, rfl, ⟨.inr rfl, res1 rfl rfl ⟨rfl, S40.back⟩⟩⟩
  ·
   refine FW.condF rfl c54 ?_
   refine FW.skip (FW.region ?_)
   refine FL.v (E.add k44 rfl) ?_
   refine FL.v (E.move (v := Value.int .i64 (wr (((i22 : Nat) : Int) + 1))) rfl) ?_
   refine FL.nil ?_
   obtain rfl := Option.some.inj hp
   exact ⟨rfl, ⟨_, S40, i41, (nat_succ rfl (lt_of_get hx22) (p0.mono i41).le), k45, k46, k47⟩⟩
 ·
  clear hp hq
  rintro s22 f65 w64 ⟨H61, S62, i63, k66, k67, k68, k69⟩
  refine FW.seq (FW.region ?_)
  refine FL.v (E.lss k66 k69) ?_
  refine FL.nil (FW.seq ?_)
  refine FW.condF rfl dlt_len ?_
  refine FW.exit ?_
  exact ⟨nofun, rfl, ⟨_, S62, i63⟩⟩
 ·
  clear hq
  intro e f60 w59 hD
  rcases q22 with s22 | x22
  ·
   obtain ⟨rfl, hD⟩ := hD
   obtain ⟨H56, S57, i58⟩ := hD
   replace hp := el_go hp
   refine FW.seq (FW.region ?_)
   refine FL.v (E.assign (v := Value.int .i64 (-1)) rfl) ?_
   refine FL.nil ?_
   refine FW.ret ?_
   obtain rfl := Option.some.inj hp
   exact ⟨.inr rfl, res1 rfl rfl ⟨rfl, S57.back⟩⟩
  ·
   obtain ⟨he, hL⟩ := hD
   replace hp := el_rt hp
   obtain rfl := Option.some.inj hp
   subst he
   exact hL

theorem w_slices_Contains_string_string {Ha : GH} {wa : World} (hs : Sl Ha wa) (v0 : Value) (a0 : List ByteArray) (p0 : RSl Ha eS 1 v0 a0) (a1 : ByteArray) {r : Bool} (hp : (PF.slices_Contains_string_string a0 a1) = some r) :
  Calls Tryz.prog 189 #[v0, Value.string a1] wa (Sc Ha wa (Value.bool r)) := by
 unfold PF.slices_Contains_string_string at hp
 have S0 := St.init hs
 refine calls_go (N := 9) (args := [v0, Value.string a1]) Tryz.func189 rfl rfl rfl ?_
 refine FW.seq (FW.region ?_)
 refine FL.v (E.assign (v := Value.bool false) rfl) ?_
 refine FL.nil (FW.seq (FW.region ?_))
 refine FL.v (E.move (v := v0) rfl) ?_
 refine FL.v (E.move (v := Value.string a1) rfl) ?_
 obtain ⟨r21, hr22, hp⟩ := bnd hp
 refine FL.call rfl rfl rfl (E.call Tryz.call239 (A2 rfl rfl)) (w_slices_Index_string_string S0.sl v0 a0 p0 a1 hr22) ?_
 rintro e w23 ⟨rfl, r24⟩
 refine ⟨_, rfl, ?_⟩
 have S25 := S0.call r24
 refine FL.v (E.geq rfl rfl) ?_
 refine FL.v (E.assign (v := Value.bool (decide (0 ≤ r21))) rfl) ?_
 refine FL.nil ?_
 refine FW.ret ?_
 obtain rfl := Option.some.inj hp
 exact ⟨.inr rfl, res1 rfl rfl ⟨rfl, S25.back⟩⟩

theorem w_slices_IndexFunc_string_string {Ha : GH} {wa : World} (hs : Sl Ha wa) (v0 : Value) (a0 : List ByteArray) (p0 : RSl Ha eS 1 v0 a0) (v1 : Value) (a1 : ByteArray → Option Bool) (p1 : Fn_S_to_B Tryz.prog Ha v1 a1) {r : Int} (hp : (PF.slices_IndexFunc_string_string a0 a1) = some r) :
  Calls Tryz.prog 212 #[v0, v1] wa (Sc Ha wa (Value.int .i64 r)) := by
 unfold PF.slices_IndexFunc_string_string at hp
 have S0 := St.init hs
 refine calls_go (N := 19) (args := [v0, v1]) Tryz.func212 rfl rfl rfl ?_
 refine FW.seq (FW.region ?_)
 refine FL.v (E.assign (v := Value.int .i64 0) rfl) ?_
 refine FL.nil (FW.seq (FW.seq (FW.region ?_)))
 refine FL.v (E.move (v := v0) rfl) ?_
 refine FL.v (E.lenP te22 rfl p0) ?_
 refine FL.v (E.move (v := Value.int .i64 0) rfl) ?_
 refine FL.nil ?_
 obtain ⟨q22, hq, hp⟩ := bndR hp
 refine FW.block ?_
 refine FW.mono (FW.forL (S := Unit) (X := Int) (fun (i22 : Nat) (s22 : Unit) f w => ∃ H : GH, St Ha wa H w [] ∧ Inc Ha H ∧ f 8 = Value.int .i64 ((i22 : Nat) : Int) ∧ f 0 = v0 ∧ f 1 = v1 ∧ f 7 = Value.int .i64 (len a0)) (fun q e f w => match q with | .go s22 => e = Exit.exit 0 ∧ (∃ H : GH, St Ha wa H w [] ∧ Inc Ha H) | .rt x => ((e = Exit.ret) ∧ (fun e f w => (e = Exit.normal ∨ e = Exit.ret) ∧ ∀ a, Fr (δ := []) 19 a f → ∃ v, (results Tryz.f212 a.tmps).run Tryz.prog w = .ok v w ∧ (Sc Ha wa (Value.int .i64 x)) (.returned v) w) e f w)) hq ⟨_, S0, (Inc.rfl _), rfl, rfl, rfl, rfl⟩ ?_ ?_) ?_
 ·
  clear hp hq
  rintro i22 y21 s22 f53 w52 ⟨H49, S50, i51, k54, k55, k56, k57⟩ hx22 o75 hp
  refine FW.seq (FW.region ?_)
  refine FL.v (E.lssT k54 k57 (lss_len hx22)) ?_
  refine FL.nil (FW.seq ?_)
  refine FW.condT rfl rfl ?_
  refine FW.skip (FW.seq (FW.block (FW.seq (FW.region ?_))))
  refine FL.v (E.move k54) ?_
  refine FL.v (E.assign (v := Value.int .i64 ((i22 : Nat) : Int)) rfl) ?_
  refine FL.nil (FW.seq (FW.region ?_))
  refine FL.v (E.move k56) ?_
  refine FL.v (E.move k55) ?_
  refine FL.v (E.move (v := Value.int .i64 ((i22 : Nat) : Int)) rfl) ?_
  obtain ⟨p58, cs59, pt60, l61, at62, rel63⟩ := p0.at (ix_nat hx22)
  obtain rfl := eS_open rel63
  refine FL.v (E.indexAddr te22 rfl rfl pt60) ?_
  refine FL.v (E.load rfl (run_load0 Tryz.isAgg9 ((at62.mono i51).now S50.sl) rfl)) ?_
  obtain ⟨r64, hr65, hp⟩ := bnd hp
  obtain ⟨fi69, cs70, hv71, he72, hc73⟩ := (p1.mono i51) H49 w52 (Inc.rfl _) S50.sl y21 r64 hr65
  refine FL.call rfl rfl rfl (E.callV he72 (Eq.trans rfl hv71) (appA (A1 rfl) cs70)) hc73 ?_
  rintro e w66 ⟨rfl, r67⟩
  refine ⟨_, rfl, ?_⟩
  have S68 := S50.call r67
  refine FL.nil ?_
  rcases ifB hp with ⟨c74, hp⟩ | ⟨c74, hp⟩
  ·
   refine FW.condT rfl c74 ?_
   refine FW.seq (FW.region ?_)
   refine FL.v (E.move (v := Value.int .i64 ((i22 : Nat) : Int)) rfl) ?_
   refine FL.v (E.assign (v := Value.int .i64 ((i22 : Nat) : Int)) rfl) ?_
   refine FL.nil ?_
   refine FW.ret ?_
   obtain rfl := Option.some.inj hp
   exact ⟨nofun, rfl, ⟨.inr rfl, res1 rfl rfl ⟨rfl, S68.back⟩⟩⟩
  ·
   refine FW.condF rfl c74 ?_
   refine FW.skip (FW.region ?_)
   refine FL.v (E.add k54 rfl) ?_
   refine FL.v (E.move (v := Value.int .i64 (wr (((i22 : Nat) : Int) + 1))) rfl) ?_
   refine FL.nil ?_
   obtain rfl := Option.some.inj hp
   exact ⟨rfl, ⟨_, S68, i51, (nat_succ rfl (lt_of_get hx22) (p0.mono i51).le), k55, k56, k57⟩⟩
 ·
  clear hp hq
  rintro s22 f85 w84 ⟨H81, S82, i83, k86, k87, k88, k89⟩
  refine FW.seq (FW.region ?_)
  refine FL.v (E.lss k86 k89) ?_
  refine FL.nil (FW.seq ?_)
  refine FW.condF rfl dlt_len ?_
  refine FW.exit ?_
  exact ⟨nofun, rfl, ⟨_, S82, i83⟩⟩
 ·
  clear hq
  intro e f80 w79 hD
  rcases q22 with s22 | x22
  ·
   obtain ⟨rfl, hD⟩ := hD
   obtain ⟨H76, S77, i78⟩ := hD
   replace hp := el_go hp
   refine FW.seq (FW.region ?_)
   refine FL.v (E.assign (v := Value.int .i64 (-1)) rfl) ?_
   refine FL.nil ?_
   refine FW.ret ?_
   obtain rfl := Option.some.inj hp
   exact ⟨.inr rfl, res1 rfl rfl ⟨rfl, S77.back⟩⟩
  ·
   obtain ⟨he, hL⟩ := hD
   replace hp := el_rt hp
   obtain rfl := Option.some.inj hp
   subst he
   exact hL

theorem w_slices_ContainsFunc_string_string {Ha : GH} {wa : World} (hs : Sl Ha wa) (v0 : Value) (a0 : List ByteArray) (p0 : RSl Ha eS 1 v0 a0) (v1 : Value) (a1 : ByteArray → Option Bool) (p1 : Fn_S_to_B Tryz.prog Ha v1 a1) {r : Bool} (hp : (PF.slices_ContainsFunc_string_string a0 a1) = some r) :
  Calls Tryz.prog 187 #[v0, v1] wa (Sc Ha wa (Value.bool r)) := by
 unfold PF.slices_ContainsFunc_string_string at hp
 have S0 := St.init hs
 refine calls_go (N := 9) (args := [v0, v1]) Tryz.func187 rfl rfl rfl ?_
 refine FW.seq (FW.region ?_)
 refine FL.v (E.assign (v := Value.bool false) rfl) ?_
 refine FL.nil (FW.seq (FW.region ?_))
 refine FL.v (E.move (v := v0) rfl) ?_
 refine FL.v (E.move (v := v1) rfl) ?_
 obtain ⟨r21, hr22, hp⟩ := bnd hp
 refine FL.call rfl rfl rfl (E.call Tryz.call212 (A2 rfl rfl)) (w_slices_IndexFunc_string_string S0.sl v0 a0 p0 v1 a1 p1 hr22) ?_
 rintro e w23 ⟨rfl, r24⟩
 refine ⟨_, rfl, ?_⟩
 have S25 := S0.call r24
 refine FL.v (E.geq rfl rfl) ?_
 refine FL.v (E.assign (v := Value.bool (decide (0 ≤ r21))) rfl) ?_
 refine FL.nil ?_
 refine FW.ret ?_
 obtain rfl := Option.some.inj hp
 exact ⟨.inr rfl, res1 rfl rfl ⟨rfl, S25.back⟩⟩

theorem w_impl_isSeqAxiom_1 {Ha : GH} {wa : World} (hs : Sl Ha wa) (a0 : ByteArray) (q0 : Addr) (b0 : Sequent) (u0_0 : Value) (g0_0 : RSl Ha eS 1 u0_0 b0.left) (u0_1 : Value) (g0_1 : RSl Ha eS 1 u0_1 b0.right) (c0 : CAt Ha q0 [u0_0, u0_1]) {r : Bool} (hp : (PF.impl_isSeqAxiom_1 a0 b0) = some r) :
  Calls Tryz.prog 190 #[Value.string a0, Value.pointer (some q0)] wa (Sc Ha wa (Value.bool r)) := by
 unfold PF.impl_isSeqAxiom_1 at hp
 have S0 := St.init hs
 refine calls_go (N := 8) (args := [Value.string a0, Value.pointer (some q0)]) Tryz.func190 rfl rfl rfl ?_
 refine FW.seq (FW.region ?_)
 refine FL.v (E.assign (v := Value.bool false) rfl) ?_
 refine FL.nil (FW.seq (FW.region ?_))
 refine FL.v (E.fieldAddr tf68_1 rfl) ?_
 refine FL.v (E.load rfl (run_load1 Tryz.isAgg22 (c0.now S0.sl) rfl)) ?_
 refine FL.v (E.move (v := Value.string a0) rfl) ?_
 obtain ⟨r21, hr22, hp⟩ := bnd hp
 refine FL.call rfl rfl rfl (E.call Tryz.call189 (A2 rfl rfl)) (w_slices_Contains_string_string S0.sl u0_1 b0.right g0_1 a0 hr22) ?_
 rintro e w23 ⟨rfl, r24⟩
 refine ⟨_, rfl, ?_⟩
 have S25 := S0.call r24
 refine FL.v (E.assign (v := Value.bool r21) rfl) ?_
 refine FL.nil ?_
 refine FW.ret ?_
 obtain rfl := Option.some.inj hp
 exact ⟨.inr rfl, res1 rfl rfl ⟨rfl, S25.back⟩⟩

theorem w_impl_isSeqAxiom {Ha : GH} {wa : World} (hs : Sl Ha wa) (a0 : Sequent) (v0_0 : Value) (p0_0 : RSl Ha eS 1 v0_0 a0.left) (v0_1 : Value) (p0_1 : RSl Ha eS 1 v0_1 a0.right) {r : Bool} (hp : (PF.impl_isSeqAxiom a0) = some r) :
  Calls Tryz.prog 154 #[Value.agg #[v0_0, v0_1]] wa (Sc Ha wa (Value.bool r)) := by
 unfold PF.impl_isSeqAxiom at hp
 have S0 := St.init hs
 refine calls_go (N := 17) (args := [Value.agg #[v0_0, v0_1]]) Tryz.func154 rfl rfl rfl ?_
 refine FW.seq (FW.region ?_)
 obtain ⟨b21, w22, run23, S24⟩ := S0.box (P := Tryz.prog) 68 [v0_0, v0_1] (v := Value.agg #[v0_0, v0_1]) rfl (ones_cons p0_0.one (ones_cons p0_1.one ones_nil))
 refine FL.v (E.box rfl run23) ?_
 obtain ⟨H25, S26, i27, at28⟩ := S24.sealBox (i := 0) (l' := []) rfl rfl
 refine FL.v (E.assign (v := Value.bool false) rfl) ?_
 refine FL.nil (FW.seq (FW.region ?_))
 refine FL.v (E.fieldAddr tf68_0 rfl) ?_
 refine FL.v (E.load rfl (run_load1 Tryz.isAgg22 (at28.now S26.sl) rfl)) ?_
 obtain ⟨r29, hr30, hp⟩ := bnd hp
 refine FL.call rfl rfl rfl (E.call Tryz.call189 (A2 rfl rfl)) (w_slices_Contains_string_string S26.sl v0_0 a0.left (p0_0.mono i27) (ByteArray.mk #[48]) hr30) ?_
 rintro e w31 ⟨rfl, r32⟩
 refine ⟨_, rfl, ?_⟩
 have S33 := S26.call r32
 refine FL.v (E.move (v := Value.bool r29) rfl) ?_
 obtain ⟨t39, hqt39, hp⟩ := bnd hp
 refine FL.cut 4 (fun f w => ∃ H : GH, St Ha wa H w [] ∧ Inc H25 H ∧ f 1 = Value.pointer (some ⟨b21, 0, none⟩) ∧ f 10 = Value.bool t39) ?_ ?_
 ·
  clear hp; have hp := hqt39; clear hqt39
  rcases ifB hp with ⟨c45, hp⟩ | ⟨c45, hp⟩
  ·
   refine FL.skip (wF_no rfl rfl rfl c45) rfl ?_
   refine FL.skip (wF_no rfl rfl rfl c45) rfl ?_
   refine FL.skip (wF_no rfl rfl rfl c45) rfl ?_
   obtain rfl := Option.some.inj hp
   refine FL.v (E.pickT rfl c45 rfl) ?_
   exact FL.nil ⟨rfl, _, S33, (Inc.rfl _), rfl, rfl⟩
  ·
   refine FL.val (wF_yes rfl rfl rfl c45) rfl rfl (E.fieldAddr tf68_1 rfl) ?_
   refine FL.val (wF_yes rfl rfl rfl c45) rfl rfl (E.load rfl (run_load1 Tryz.isAgg22 (at28.now S33.sl) rfl)) ?_
   obtain ⟨r46, hr47, hp⟩ := bnd hp
   refine FL.call (wF_yes rfl rfl rfl c45) rfl rfl (E.call Tryz.call189 (A2 rfl rfl)) (w_slices_Contains_string_string S33.sl v0_1 a0.right (p0_1.mono i27) (ByteArray.mk #[49]) hr47) ?_
   rintro e w48 ⟨rfl, r49⟩
   refine ⟨_, rfl, ?_⟩
   have S50 := S33.call r49
   obtain rfl := Option.some.inj hp
   refine FL.v (E.pickF rfl c45 rfl) ?_
   exact FL.nil ⟨rfl, _, S50, (Inc.rfl _), rfl, rfl⟩
 rintro f44 w43 ⟨H40, S41, i42, k51, k52⟩
 refine FL.v (E.move k52) ?_
 obtain ⟨t58, hqt58, hp⟩ := bnd hp
 refine FL.cut 5 (fun f w => ∃ H : GH, St Ha wa H w [] ∧ Inc H40 H ∧ f 16 = Value.bool t58) ?_ ?_
 ·
  clear hp; have hp := hqt58; clear hqt58
  rcases ifB hp with ⟨c64, hp⟩ | ⟨c64, hp⟩
  ·
   refine FL.skip (wF_no rfl rfl rfl c64) rfl ?_
   refine FL.skip (wF_no rfl rfl rfl c64) rfl ?_
   refine FL.skip (wF_no rfl rfl rfl c64) rfl ?_
   refine FL.skip (wF_no rfl rfl rfl c64) rfl ?_
   obtain rfl := Option.some.inj hp
   refine FL.v (E.pickT rfl c64 rfl) ?_
   exact FL.nil ⟨rfl, _, S41, (Inc.rfl _), rfl⟩
  ·
   refine FL.val (wF_yes rfl rfl rfl c64) rfl rfl (E.fieldAddr tf68_0 k51) ?_
   refine FL.val (wF_yes rfl rfl rfl c64) rfl rfl (E.load rfl (run_load1 Tryz.isAgg22 ((at28.mono i42).now S41.sl) rfl)) ?_
   refine FL.val (wF_yes rfl rfl rfl c64) rfl rfl (E.makeFunc A0 (A1 k51)) ?_
   obtain ⟨r65, hr66, hp⟩ := bnd hp
   refine FL.call (wF_yes rfl rfl rfl c64) rfl rfl (E.call Tryz.call187 (A2 rfl rfl)) (w_slices_ContainsFunc_string_string S41.sl v0_0 a0.left (p0_0.mono (i27.tr i42)) (Value.func (.func 190) #[] #[Value.pointer (some ⟨b21, 0, none⟩)]) (fun x0 => PF.impl_isSeqAxiom_1 x0 a0) (fun H2 w2 hi2 hs2 x0 r hr => ⟨190, #[Value.pointer (some ⟨b21, 0, none⟩)], rfl, Tryz.call190, w_impl_isSeqAxiom_1 hs2 x0 ⟨b21, 0, none⟩ a0 v0_0 ((p0_0.mono (i27.tr i42)).mono hi2) v0_1 ((p0_1.mono (i27.tr i42)).mono hi2) ((at28.mono i42).mono hi2) hr⟩) hr66) ?_
   rintro e w67 ⟨rfl, r68⟩
   refine ⟨_, rfl, ?_⟩
   have S69 := S41.call r68
   obtain rfl := Option.some.inj hp
   refine FL.v (E.pickF rfl c64 rfl) ?_
   exact FL.nil ⟨rfl, _, S69, (Inc.rfl _), rfl⟩
 rintro f63 w62 ⟨H59, S60, i61, k70⟩
 refine FL.v (E.assign k70) ?_
 refine FL.nil ?_
 refine FW.ret ?_
 obtain rfl := Option.some.inj hp
 exact ⟨.inr rfl, res1 rfl rfl ⟨rfl, S60.back⟩⟩

theorem w_impl_seqCorrect_1 {Ha : GH} {wa : World} (hs : Sl Ha wa) (a0 : Int) (v1 : Value) (a1 : Sequent → Option Bool) (p1 : Fn_Sequent_to_B Tryz.prog Ha v1 a1) (q0 : Addr) (b0 : Int) (c0 : CAt Ha q0 [Value.int .i64 b0]) (q1 : Addr) (b1 : List SeqStep) (u1_0 : Value) (g1_0 : RSl Ha eSeqStep 6 u1_0 b1) (c1 : CAt Ha q1 [u1_0]) {r : Bool} (hp : (PF.impl_seqCorrect_1 a0 a1 b0 b1) = some r) :
  Calls Tryz.prog 194 #[Value.int .i64 a0, v1, Value.pointer (some q0), Value.pointer (some q1)] wa (Sc Ha wa (Value.bool r)) := by
 unfold PF.impl_seqCorrect_1 at hp
 have S0 := St.init hs
 refine calls_go (N := 28) (args := [Value.int .i64 a0, v1, Value.pointer (some q0), Value.pointer (some q1)]) Tryz.func194 rfl rfl rfl ?_
 refine FW.seq (FW.region ?_)
 refine FL.v (E.assign (v := Value.bool false) rfl) ?_
 refine FL.nil (FW.seq (FW.region ?_))
 refine FL.v (E.move (v := Value.int .i64 a0) rfl) ?_
 refine FL.v (E.load rfl (run_load0 Tryz.isAgg3 (c0.now S0.sl) rfl)) ?_
 refine FL.v (E.sub rfl rfl) ?_
 refine FL.call rfl rfl rfl (E.call Tryz.call91 (A3 rfl rfl rfl)) (w_impl_within S0.sl a0 0 (wr (b0 - 1))) ?_
 rintro e w21 ⟨rfl, r22⟩
 refine ⟨_, rfl, ?_⟩
 have S23 := S0.call r22
 refine FL.v (E.move (v := Value.bool (PF.impl_within a0 0 (wr (b0 - 1)))) rfl) ?_
 obtain ⟨t41, hqt41, hp⟩ := bnd hp
 refine FL.cut 7 (fun f w => ∃ H : GH, St Ha wa H w [] ∧ Inc Ha H ∧ f 0 = Value.int .i64 a0 ∧ f 1 = v1 ∧ f 3 = Value.pointer (some q1) ∧ f 18 = Value.bool t41) ?_ ?_
 ·
  clear hp; have hp := hqt41; clear hqt41
  rcases ifB hp with ⟨c47, hp⟩ | ⟨c47, hp⟩
  ·
   refine FL.val (wF_yes rfl rfl rfl c47) rfl rfl (E.load rfl (run_load0 Tryz.isAgg24 (c1.now S23.sl) rfl)) ?_
   refine FL.val (wF_yes rfl rfl rfl c47) rfl rfl (E.move (v := Value.int .i64 a0) rfl) ?_
   obtain ⟨x54, hx55, hp⟩ := bnd hp
   obtain ⟨p48, cs49, pt50, l51, at52, rel53⟩ := g1_0.at hx55
   obtain ⟨v56, v58, rfl, h57, h59⟩ := eSeqStep_open rel53
   refine FL.val (wF_yes rfl rfl rfl c47) rfl rfl (E.indexAddr te24 rfl rfl pt50) ?_
   refine FL.val (wF_yes rfl rfl rfl c47) rfl rfl (E.fieldAddr tf74_0 rfl) ?_
   refine FL.val (wF_yes rfl rfl rfl c47) rfl rfl (E.load rfl (run_loadA Tryz.isAgg68 Tryz.sizeOf68 ((at52.now S23.sl).sub (j := 0) (n := 2) (c := [v56, v58]) rfl) rfl)) ?_
   obtain ⟨r60, hr61, hp⟩ := bnd hp
   refine FL.call (wF_yes rfl rfl rfl c47) rfl rfl (E.call Tryz.call120 (A1 rfl)) (w_impl_IsSequent S23.sl x54.seq v56 h57 v58 h59 hr61) ?_
   rintro e w62 ⟨rfl, r63⟩
   refine ⟨_, rfl, ?_⟩
   have S64 := S23.call r63
   obtain rfl := Option.some.inj hp
   refine FL.v (E.pickT rfl c47 rfl) ?_
   exact FL.nil ⟨rfl, _, S64, (Inc.rfl _), rfl, rfl, rfl, rfl⟩
  ·
   refine FL.skip (wF_no rfl rfl rfl c47) rfl ?_
   refine FL.skip (wF_no rfl rfl rfl c47) rfl ?_
   refine FL.skip (wF_no rfl rfl rfl c47) rfl ?_
   refine FL.skip (wF_no rfl rfl rfl c47) rfl ?_
   refine FL.skip (wF_no rfl rfl rfl c47) rfl ?_
   refine FL.skip (wF_no rfl rfl rfl c47) rfl ?_
   obtain rfl := Option.some.inj hp
   refine FL.v (E.pickF rfl c47 rfl) ?_
   exact FL.nil ⟨rfl, _, S23, (Inc.rfl _), rfl, rfl, rfl, rfl⟩
 rintro f46 w45 ⟨H42, S43, i44, k65, k66, k67, k68⟩
 refine FL.v (E.move k68) ?_
 obtain ⟨t91, hqt91, hp⟩ := bnd hp
 refine FL.cut 8 (fun f w => ∃ H : GH, St Ha wa H w [] ∧ Inc H42 H ∧ f 27 = Value.bool t91) ?_ ?_
 ·
  clear hp; have hp := hqt91; clear hqt91
  rcases ifB hp with ⟨c97, hp⟩ | ⟨c97, hp⟩
  ·
   refine FL.val (wF_yes rfl rfl rfl c97) rfl rfl (E.move k66) ?_
   refine FL.val (wF_yes rfl rfl rfl c97) rfl rfl (E.load k67 (run_load0 Tryz.isAgg24 ((c1.mono i44).now S43.sl) rfl)) ?_
   refine FL.val (wF_yes rfl rfl rfl c97) rfl rfl (E.move k65) ?_
   obtain ⟨x104, hx105, hp⟩ := bnd hp
   obtain ⟨p98, cs99, pt100, l101, at102, rel103⟩ := g1_0.at hx105
   obtain ⟨v106, v108, rfl, h107, h109⟩ := eSeqStep_open rel103
   refine FL.val (wF_yes rfl rfl rfl c97) rfl rfl (E.indexAddr te24 rfl rfl pt100) ?_
   refine FL.val (wF_yes rfl rfl rfl c97) rfl rfl (E.fieldAddr tf74_0 rfl) ?_
   refine FL.val (wF_yes rfl rfl rfl c97) rfl rfl (E.load rfl (run_loadA Tryz.isAgg68 Tryz.sizeOf68 (((at102.mono i44).now S43.sl).sub (j := 0) (n := 2) (c := [v106, v108]) rfl) rfl)) ?_
   obtain ⟨r110, hr111, hp⟩ := bnd hp
   obtain ⟨fi115, cs116, hv117, he118, hc119⟩ := (p1.mono i44) H42 w45 (Inc.rfl _) S43.sl x104.seq v106 (h107.mono i44) v108 (h109.mono i44) r110 hr111
   refine FL.call (wF_yes rfl rfl rfl c97) rfl rfl (E.callV he118 (Eq.trans rfl hv117) (appA (A1 rfl) cs116)) hc119 ?_
   rintro e w112 ⟨rfl, r113⟩
   refine ⟨_, rfl, ?_⟩
   have S114 := S43.call r113
   obtain rfl := Option.some.inj hp
   refine FL.v (E.pickT rfl c97 rfl) ?_
   exact FL.nil ⟨rfl, _, S114, (Inc.rfl _), rfl⟩
  ·
   refine FL.skip (wF_no rfl rfl rfl c97) rfl ?_
   refine FL.skip (wF_no rfl rfl rfl c97) rfl ?_
   refine FL.skip (wF_no rfl rfl rfl c97) rfl ?_
   refine FL.skip (wF_no rfl rfl rfl c97) rfl ?_
   refine FL.skip (wF_no rfl rfl rfl c97) rfl ?_
   refine FL.skip (wF_no rfl rfl rfl c97) rfl ?_
   refine FL.skip (wF_no rfl rfl rfl c97) rfl ?_
   obtain rfl := Option.some.inj hp
   refine FL.v (E.pickF rfl c97 rfl) ?_
   exact FL.nil ⟨rfl, _, S43, (Inc.rfl _), rfl⟩
 rintro f96 w95 ⟨H92, S93, i94, k120⟩
 refine FL.v (E.assign k120) ?_
 refine FL.nil ?_
 refine FW.ret ?_
 obtain rfl := Option.some.inj hp
 exact ⟨.inr rfl, res1 rfl rfl ⟨rfl, S93.back⟩⟩

theorem w_impl_contained_1 {Ha : GH} {wa : World} (hs : Sl Ha wa) (a0 : ByteArray) (q0 : Addr) (b0 : List ByteArray) (u0_0 : Value) (g0_0 : RSl Ha eS 1 u0_0 b0) (c0 : CAt Ha q0 [u0_0]) {r : Bool} (hp : (PF.impl_contained_1 a0 b0) = some r) :
  Calls Tryz.prog 241 #[Value.string a0, Value.pointer (some q0)] wa (Sc Ha wa (Value.bool r)) := by
 unfold PF.impl_contained_1 at hp
 have S0 := St.init hs
 refine calls_go (N := 8) (args := [Value.string a0, Value.pointer (some q0)]) Tryz.func241 rfl rfl rfl ?_
 refine FW.seq (FW.region ?_)
 refine FL.v (E.assign (v := Value.bool false) rfl) ?_
 refine FL.nil (FW.seq (FW.region ?_))
 refine FL.v (E.load rfl (run_load0 Tryz.isAgg22 (c0.now S0.sl) rfl)) ?_
 refine FL.v (E.move (v := Value.string a0) rfl) ?_
 obtain ⟨r21, hr22, hp⟩ := bnd hp
 refine FL.call rfl rfl rfl (E.call Tryz.call189 (A2 rfl rfl)) (w_slices_Contains_string_string S0.sl u0_0 b0 g0_0 a0 hr22) ?_
 rintro e w23 ⟨rfl, r24⟩
 refine ⟨_, rfl, ?_⟩
 have S25 := S0.call r24
 refine FL.v (E.not rfl) ?_
 refine FL.v (E.assign (v := Value.bool (!r21)) rfl) ?_
 refine FL.nil ?_
 refine FW.ret ?_
 obtain rfl := Option.some.inj hp
 exact ⟨.inr rfl, res1 rfl rfl ⟨rfl, S25.back⟩⟩

theorem w_impl_contained {Ha : GH} {wa : World} (hs : Sl Ha wa) (v0 : Value) (a0 : List ByteArray) (p0 : RSl Ha eS 1 v0 a0) (v1 : Value) (a1 : List ByteArray) (p1 : RSl Ha eS 1 v1 a1) {r : Bool} (hp : (PF.impl_contained a0 a1) = some r) :
  Calls Tryz.prog 199 #[v0, v1] wa (Sc Ha wa (Value.bool r)) := by
 unfold PF.impl_contained at hp
 have S0 := St.init hs
 refine calls_go (N := 9) (args := [v0, v1]) Tryz.func199 rfl rfl rfl ?_
 refine FW.seq (FW.region ?_)
 obtain ⟨b21, w22, run23, S24⟩ := S0.box (P := Tryz.prog) 22 [v1] (v := v1) p1.cells (ones_cons p1.one ones_nil)
 refine FL.v (E.box rfl run23) ?_
 obtain ⟨H25, S26, i27, at28⟩ := S24.sealBox (i := 0) (l' := []) rfl rfl
 refine FL.v (E.assign (v := Value.bool false) rfl) ?_
 refine FL.nil (FW.seq (FW.region ?_))
 refine FL.v (E.move (v := v0) rfl) ?_
 refine FL.v (E.makeFunc A0 (A1 rfl)) ?_
 obtain ⟨r29, hr30, hp⟩ := bnd hp
 refine FL.call rfl rfl rfl (E.call Tryz.call187 (A2 rfl rfl)) (w_slices_ContainsFunc_string_string S26.sl v0 a0 (p0.mono i27) (Value.func (.func 241) #[] #[Value.pointer (some ⟨b21, 0, none⟩)]) (fun x0 => PF.impl_contained_1 x0 a1) (fun H2 w2 hi2 hs2 x0 r hr => ⟨241, #[Value.pointer (some ⟨b21, 0, none⟩)], rfl, Tryz.call241, w_impl_contained_1 hs2 x0 ⟨b21, 0, none⟩ a1 v1 ((p1.mono i27).mono hi2) (at28.mono hi2) hr⟩) hr30) ?_
 rintro e w31 ⟨rfl, r32⟩
 refine ⟨_, rfl, ?_⟩
 have S33 := S26.call r32
 refine FL.v (E.not rfl) ?_
 refine FL.v (E.assign (v := Value.bool (!r29)) rfl) ?_
 refine FL.nil ?_
 refine FW.ret ?_
 obtain rfl := Option.some.inj hp
 exact ⟨.inr rfl, res1 rfl rfl ⟨rfl, S33.back⟩⟩

theorem w_impl_seqCorrect_3 {Ha : GH} {wa : World} (hs : Sl Ha wa) (a0 : Sequent) (v0_0 : Value) (p0_0 : RSl Ha eS 1 v0_0 a0.left) (v0_1 : Value) (p0_1 : RSl Ha eS 1 v0_1 a0.right) (q0 : Addr) (b0 : SeqStep) (u0_0 : Value) (g0_0 : RSl Ha eS 1 u0_0 b0.seq.left) (u0_1 : Value) (g0_1 : RSl Ha eS 1 u0_1 b0.seq.right) (c0 : CAt Ha q0 [u0_0, u0_1, Value.int .i64 b0.rule, Value.string b0.main, Value.int .i64 b0.a, Value.int .i64 b0.b]) {r : Bool} (hp : (PF.impl_seqCorrect_3 a0 b0) = some r) :
  Calls Tryz.prog 198 #[Value.agg #[v0_0, v0_1], Value.pointer (some q0)] wa (Sc Ha wa (Value.bool r)) := by
 unfold PF.impl_seqCorrect_3 at hp
 have S0 := St.init hs
 refine calls_go (N := 18) (args := [Value.agg #[v0_0, v0_1], Value.pointer (some q0)]) Tryz.func198 rfl rfl rfl ?_
 refine FW.seq (FW.region ?_)
 obtain ⟨b21, w22, run23, S24⟩ := S0.box (P := Tryz.prog) 68 [v0_0, v0_1] (v := Value.agg #[v0_0, v0_1]) rfl (ones_cons p0_0.one (ones_cons p0_1.one ones_nil))
 refine FL.v (E.box rfl run23) ?_
 obtain ⟨H25, S26, i27, at28⟩ := S24.sealBox (i := 0) (l' := []) rfl rfl
 refine FL.v (E.assign (v := Value.bool false) rfl) ?_
 refine FL.nil (FW.seq (FW.region ?_))
 refine FL.v (E.fieldAddr tf68_0 rfl) ?_
 refine FL.v (E.load rfl (run_load1 Tryz.isAgg22 (at28.now S26.sl) rfl)) ?_
 refine FL.v (E.fieldAddr tf74_0 rfl) ?_
 refine FL.v (E.fieldAddrN tf68_0 rfl rfl) ?_
 refine FL.v (E.load rfl (run_load1 Tryz.isAgg22 ((c0.mono i27).now S26.sl) rfl)) ?_
 obtain ⟨r29, hr30, hp⟩ := bnd hp
 refine FL.call rfl rfl rfl (E.call Tryz.call199 (A2 rfl rfl)) (w_impl_contained S26.sl v0_0 a0.left (p0_0.mono i27) u0_0 b0.seq.left (g0_0.mono i27) hr30) ?_
 rintro e w31 ⟨rfl, r32⟩
 refine ⟨_, rfl, ?_⟩
 have S33 := S26.call r32
 refine FL.v (E.move (v := Value.bool r29) rfl) ?_
 obtain ⟨t39, hqt39, hp⟩ := bnd hp
 refine FL.cut 7 (fun f w => ∃ H : GH, St Ha wa H w [] ∧ Inc H25 H ∧ f 17 = Value.bool t39) ?_ ?_
 ·
  clear hp; have hp := hqt39; clear hqt39
  rcases ifB hp with ⟨c45, hp⟩ | ⟨c45, hp⟩
  ·
   refine FL.val (wF_yes rfl rfl rfl c45) rfl rfl (E.fieldAddr tf68_1 rfl) ?_
   refine FL.val (wF_yes rfl rfl rfl c45) rfl rfl (E.load rfl (run_load1 Tryz.isAgg22 (at28.now S33.sl) rfl)) ?_
   refine FL.val (wF_yes rfl rfl rfl c45) rfl rfl (E.fieldAddr tf74_0 rfl) ?_
   refine FL.val (wF_yes rfl rfl rfl c45) rfl rfl (E.fieldAddrN tf68_1 rfl rfl) ?_
   refine FL.val (wF_yes rfl rfl rfl c45) rfl rfl (E.load rfl (run_load1 Tryz.isAgg22 ((c0.mono i27).now S33.sl) rfl)) ?_
   obtain ⟨r46, hr47, hp⟩ := bnd hp
   refine FL.call (wF_yes rfl rfl rfl c45) rfl rfl (E.call Tryz.call199 (A2 rfl rfl)) (w_impl_contained S33.sl v0_1 a0.right (p0_1.mono i27) u0_1 b0.seq.right (g0_1.mono i27) hr47) ?_
   rintro e w48 ⟨rfl, r49⟩
   refine ⟨_, rfl, ?_⟩
   have S50 := S33.call r49
   obtain rfl := Option.some.inj hp
   refine FL.v (E.pickT rfl c45 rfl) ?_
   exact FL.nil ⟨rfl, _, S50, (Inc.rfl _), rfl⟩
  ·
   refine FL.skip (wF_no rfl rfl rfl c45) rfl ?_
   refine FL.skip (wF_no rfl rfl rfl c45) rfl ?_
   refine FL.skip (wF_no rfl rfl rfl c45) rfl ?_
   refine FL.skip (wF_no rfl rfl rfl c45) rfl ?_
   refine FL.skip (wF_no rfl rfl rfl c45) rfl ?_
   refine FL.skip (wF_no rfl rfl rfl c45) rfl ?_
   obtain rfl := Option.some.inj hp
   refine FL.v (E.pickF rfl c45 rfl) ?_
   exact FL.nil ⟨rfl, _, S33, (Inc.rfl _), rfl⟩
 rintro f44 w43 ⟨H40, S41, i42, k51⟩
 refine FL.v (E.assign k51) ?_
 refine FL.nil ?_
 refine FW.ret ?_
 obtain rfl := Option.some.inj hp
 exact ⟨.inr rfl, res1 rfl rfl ⟨rfl, S41.back⟩⟩

@[reducible] def p_slices_Grow_string_string (Ha : GH) (wa : World) (r : List ByteArray) : Ending → World → Prop :=
 fun e w' => ∃ H' : GH, ∃ v0 : Value, ∃ n0 : Nat, ∃ c0 : List Value, e = .returned (v0) ∧ St Ha wa H' w' [.row 9 1 v0 n0 c0] ∧ Els (up wa.heap.size H') eS 1 c0 r
theorem w_slices_Grow_string_string {Ha : GH} {wa : World} (hs : Sl Ha wa) (a1 : Int) {r : List ByteArray} (hp : PF.slices_Grow_string_string a1 = some r) :
  Calls Tryz.prog 161 #[.slice none 0 0, .int .i64 a1] wa (p_slices_Grow_string_string Ha wa r) := by
 unfold PF.slices_Grow_string_string at hp
 split at hp
 ·
  rename_i h
  cases hp
  refine (growNil (En := eS) te22 hs h.1 h.2 (fun w => Any8.slices_Grow_room (P := Tryz.prog) Tryz.grow161 none 0 0 0 w (Nat.le_refl _) (by decide) (by decide) (by decide))
   (fun n w h0 hl => ?_)).mono ?_
  ·
   have h := Any8.slices_Grow_grow (P := Tryz.prog) Tryz.grow161 _ _ Tryz.type9 rfl (by decide) none 0 0 n [] w (Nat.le_refl _) (by omega) ?_ (by unfold lim at hl; omega) (by simp) (fun _ => rfl) (by simp)
   ·
    refine h.mono ?_
    rintro _ _ ⟨rfl, rfl⟩
    refine ⟨by simp; rfl, ?_⟩
    simp
    rfl
   ·
    rw [Nat.zero_add]; refine Nat.le_trans (Nat.mul_le_mul hl (show _ ≤ 4096 by decide)) (by decide)
  ·
   rintro e w' ⟨v, n, c, rfl, h1, h2⟩
   exact ⟨_, _, _, _, rfl, h1, h2 _⟩
 ·
  cases hp

@[reducible] def p_slices_Concat_string_string (Ha : GH) (wa : World) (r : (List ByteArray)) : Ending → World → Prop :=
 fun e w' => ∃ H' : GH, ∃ v0 : Value, ∃ n0 : Nat, ∃ c0 : List Value, e = .returned (v0) ∧ St Ha wa H' w' [.row 9 1 v0 n0 c0] ∧ Els (up wa.heap.size H') eS 1 c0 r
set_option maxHeartbeats 4000000 in
theorem w_slices_Concat_string_string {Ha : GH} {wa : World} (hs : Sl Ha wa) (v0 : Value) (a0 : List (List ByteArray)) (p0 : RSl Ha (eL eS 1) 1 v0 a0) {r : (List ByteArray)} (hp : (PF.slices_Concat_string_string a0) = some r) :
  Calls Tryz.prog 116 #[v0] wa (p_slices_Concat_string_string Ha wa r) := by
 unfold PF.slices_Concat_string_string at hp
 have S0 := St.init hs
 refine calls_go (N := 36) (args := [v0]) Tryz.func116 rfl rfl rfl ?_
 refine FW.seq (FW.region ?_)
 refine FL.v (E.assign (v := Value.slice none 0 0) rfl) ?_
 refine FL.nil (FW.seq (FW.region ?_))
 refine FL.v (E.assign (v := Value.int .i64 0) rfl) ?_
 refine FL.nil (FW.seq (FW.seq (FW.region ?_)))
 refine FL.v (E.move (v := v0) rfl) ?_
 refine FL.v (E.lenP te181 rfl p0) ?_
 refine FL.v (E.move (v := Value.int .i64 0) rfl) ?_
 refine FL.nil ?_
 obtain ⟨q22, hq, hp⟩ := bndR hp
 refine FW.block ?_
 refine FW.mono (FW.forL (S := Int) (X := Empty) (fun (i22 : Nat) (s22 : Int) f w => ∃ H : GH, St Ha wa H w [] ∧ Inc Ha H ∧ f 11 = Value.int .i64 ((i22 : Nat) : Int) ∧ f 0 = v0 ∧ f 3 = Value.int .i64 s22 ∧ f 9 = v0 ∧ f 10 = Value.int .i64 (len a0)) (fun (q : Rs Int Empty) e f w => match q with | .go s22 => e = Exit.exit 0 ∧ (∃ H : GH, St Ha wa H w [] ∧ Inc Ha H ∧ f 0 = v0 ∧ f 3 = Value.int .i64 s22) | .rt x => x.elim) hq ⟨_, S0, (Inc.rfl _), rfl, rfl, rfl, rfl, rfl⟩ ?_ ?_) ?_
 ·
  clear hp hq
  rintro i22 y21 s22 f46 w45 ⟨H42, S43, i44, k47, k48, k49, k50, k51⟩ hx22 o61 hp
  refine FW.seq (FW.region ?_)
  refine FL.v (E.lssT k47 k51 (lss_len hx22)) ?_
  refine FL.nil (FW.seq ?_)
  refine FW.condT rfl rfl ?_
  refine FW.skip (FW.seq (FW.block (FW.seq (FW.region ?_))))
  obtain ⟨p52, cs53, pt54, l55, at56, rel57⟩ := p0.at (ix_nat hx22)
  obtain ⟨v58, rfl, h59⟩ := eL_open rel57
  refine FL.v (E.indexAddr te181 k50 k47 pt54) ?_
  refine FL.v (E.load rfl (run_load0 Tryz.isAgg22 ((at56.mono i44).now S43.sl) rfl)) ?_
  refine FL.v (E.assign (v := v58) rfl) ?_
  refine FL.nil (FW.seq (FW.region ?_))
  refine FL.v (E.move k49) ?_
  refine FL.v (E.move (v := v58) rfl) ?_
  refine FL.v (E.lenP te22 rfl h59) ?_
  refine FL.v (E.add rfl rfl) ?_
  refine FL.v (E.assign (v := Value.int .i64 (wr (s22 + (len y21)))) rfl) ?_
  refine FL.nil (FW.seq (FW.region ?_))
  refine FL.v (E.move (v := Value.int .i64 (wr (s22 + (len y21)))) rfl) ?_
  refine FL.v (E.lss rfl rfl) ?_
  refine FL.nil ?_
  rcases ifB hp with ⟨c60, hp⟩ | ⟨c60, hp⟩
  ·
   refine FW.condT rfl c60 ?_
   cases hp
  ·
   refine FW.condF rfl c60 ?_
   refine FW.skip (FW.region ?_)
   refine FL.v (E.add k47 rfl) ?_
   refine FL.v (E.move (v := Value.int .i64 (wr (((i22 : Nat) : Int) + 1))) rfl) ?_
   refine FL.nil ?_
   obtain rfl := Option.some.inj hp
   exact ⟨rfl, ⟨_, S43, i44, (nat_succ rfl (lt_of_get hx22) (p0.mono i44).le), k48, rfl, k50, k51⟩⟩
 ·
  clear hp hq
  rintro s22 f159 w158 ⟨H155, S156, i157, k160, k161, k162, k163, k164⟩
  refine FW.seq (FW.region ?_)
  refine FL.v (E.lss k160 k164) ?_
  refine FL.nil (FW.seq ?_)
  refine FW.condF rfl dlt_len ?_
  refine FW.exit ?_
  exact ⟨nofun, rfl, ⟨_, S156, i157, k161, k162⟩⟩
 ·
  clear hq
  intro e f66 w65 hD
  rcases q22 with s22 | x22
  ·
   obtain ⟨rfl, hD⟩ := hD
   obtain ⟨H62, S63, i64, k67, k68⟩ := hD
   replace hp := el_go hp
   refine FW.seq (FW.region ?_)
   refine FL.v (E.move k68) ?_
   obtain ⟨r69, hr70, hp⟩ := bnd hp
   refine FL.call rfl rfl rfl (E.call Tryz.call161 (A2 rfl rfl)) (w_slices_Grow_string_string S63.sl s22 hr70) ?_
   rintro e w72 ⟨H71, v75, n76, cs77, rfl, r74, els78⟩
   refine ⟨_, rfl, ?_⟩
   have els78 := els78.mono (up_le S63.size)
   have S73 := S63.join (l' := [.row 9 1 v75 n76 cs77]) r74 rfl
   refine FL.v (E.assign (v := v75) rfl) ?_
   refine FL.nil (FW.seq (FW.seq (FW.region ?_)))
   refine FL.v (E.move k67) ?_
   refine FL.v (E.lenP te181 rfl p0) ?_
   refine FL.v (E.move (v := Value.int .i64 0) rfl) ?_
   refine FL.nil ?_
   obtain ⟨q80, hq, hp⟩ := bndR hp
   refine FW.block ?_
   refine FW.mono (FW.forL (S := (List ByteArray)) (X := Empty) (fun (i80 : Nat) (s80 : (List ByteArray)) f w => ∃ H : GH, ∃ v81 : Value, ∃ n82 : Nat, ∃ cs83 : List Value, St Ha wa H w [.row 9 1 v81 n82 cs83] ∧ Inc H71 H ∧ Els (up wa.heap.size H) eS 1 cs83 s80 ∧ f 27 = Value.int .i64 ((i80 : Nat) : Int) ∧ f 6 = v81 ∧ f 25 = v0 ∧ f 26 = Value.int .i64 (len a0)) (fun (q : Rs (List ByteArray) Empty) e f w => match q with | .go s80 => e = Exit.exit 2 ∧ (∃ H : GH, ∃ v81 : Value, ∃ n82 : Nat, ∃ cs83 : List Value, St Ha wa H w [.row 9 1 v81 n82 cs83] ∧ Inc H71 H ∧ Els (up wa.heap.size H) eS 1 cs83 s80 ∧ f 6 = v81) | .rt x => x.elim) hq ⟨_, _, _, _, S73, (Inc.rfl _), els78, rfl, rfl, rfl, rfl⟩ ?_ ?_) ?_
   ·
    clear hp hq
    rintro i80 y79 s80 f116 w115 ⟨H112, v81, n82, cs83, S113, i114, els84, k117, k118, k119, k120⟩ hx80 o139 hp
    refine FW.seq (FW.region ?_)
    refine FL.v (E.lssT k117 k120 (lss_len hx80)) ?_
    refine FL.nil (FW.seq ?_)
    refine FW.condT rfl rfl ?_
    refine FW.skip (FW.seq (FW.block (FW.seq (FW.region ?_))))
    obtain ⟨p121, cs122, pt123, l124, at125, rel126⟩ := p0.at (ix_nat hx80)
    obtain ⟨v127, rfl, h128⟩ := eL_open rel126
    refine FL.v (E.indexAddr te181 k119 k117 pt123) ?_
    refine FL.v (E.load rfl (run_load0 Tryz.isAgg22 ((at125.mono ((i64.tr r74.run.inc).tr i114)).now S113.sl) rfl)) ?_
    refine FL.v (E.assign (v := v127) rfl) ?_
    refine FL.nil (FW.region ?_)
    refine FL.v (E.move k118) ?_
    refine FL.v (E.move (v := v127) rfl) ?_
    obtain ⟨xs129, hz130, hp⟩ := bnd hp
    obtain ⟨v131, w134, n132, cs133, run135, S136, els137⟩ := S113.appendP (P := Tryz.prog) (Inc.rfl _) te22 (i := 0) rfl (els84.mono upI) (h128.mono ((i64.tr r74.run.inc).tr i114)) hz130
    have S136 : St Ha wa H112 w134 [.row 9 1 v131 n132 cs133] := S136
    have els137 : Els (up wa.heap.size H112) eS 1 cs133 xs129 := els137.any (fun _ _ _ _ h => h)
    refine FL.v (E.append rfl rfl run135) ?_
    refine FL.v (E.assign (v := v131) rfl) ?_
    refine FL.nil (FW.region ?_)
    refine FL.v (E.add k117 rfl) ?_
    refine FL.v (E.move (v := Value.int .i64 (wr (((i80 : Nat) : Int) + 1))) rfl) ?_
    refine FL.nil ?_
    obtain rfl := Option.some.inj hp
    exact ⟨rfl, ⟨_, _, _, _, S136, i114, els137, (nat_succ rfl (lt_of_get hx80) (p0.mono ((i64.tr r74.run.inc).tr i114)).le), rfl, k119, k120⟩⟩
   ·
    clear hp hq
    rintro s80 f150 w149 ⟨H146, v81, n82, cs83, S147, i148, els84, k151, k152, k153, k154⟩
    refine FW.seq (FW.region ?_)
    refine FL.v (E.lss k151 k154) ?_
    refine FL.nil (FW.seq ?_)
    refine FW.condF rfl dlt_len ?_
    refine FW.exit ?_
    exact ⟨nofun, rfl, ⟨_, _, _, _, S147, i148, els84, k152⟩⟩
   ·
    clear hq
    intro e f144 w143 hD
    rcases q80 with s80 | x80
    ·
     obtain ⟨rfl, hD⟩ := hD
     obtain ⟨H140, v81, n82, cs83, S141, i142, els84, k145⟩ := hD
     replace hp := el_go hp
     refine FW.seq (FW.region ?_)
     refine FL.v (E.move k145) ?_
     refine FL.v (E.assign (v := v81) rfl) ?_
     refine FL.nil ?_
     refine FW.ret ?_
     obtain rfl := Option.some.inj hp
     exact ⟨.inr rfl, res1 rfl rfl ⟨_, _, _, _, rfl, S141, els84⟩⟩
    ·
     exact x80.elim
  ·
   exact x22.elim

@[reducible] def p_slices_SortFunc_string_string (H0 : GH) (w0 : World) (Ha : GH) (L : List MO) (v0 : Value) (n0 : Nat) (r : (List ByteArray)) : Ending → World → Prop :=
 fun e w' => ∃ H' : GH, ∃ c0k : List Value, e = .returned (Value.tuple #[]) ∧ (St H0 w0 H' w' (.row 9 1 v0 n0 c0k :: L) ∧ Inc Ha H') ∧ Els (up w0.heap.size H') eS 1 c0k r
theorem w_slices_SortFunc_string_string {H0 Ha : GH} {w0 wa : World} {L : List MO} {v0 : Value} {n0 : Nat} {k0 : List Value} (S0 : St H0 w0 Ha wa (.row 9 1 v0 n0 k0 :: L)) (a0 : List ByteArray) (p0 : Els (up w0.heap.size Ha) eS 1 k0 a0) (v1 : Value) (a1 : ByteArray → ByteArray → Option Int) (p1 : Fn_S_S_to_I Tryz.prog Ha v1 a1) {r : (List ByteArray)} (hp : (PF.slices_SortFunc_string_string a0 a1) = some r) :
  Calls Tryz.prog 117 #[v0, v1] wa (p_slices_SortFunc_string_string H0 w0 Ha L v0 n0 r) := by
 refine (St.sortF (l := .row 9 1 v0 n0 k0 :: L) (i := 0) upI S0 rfl p0 (fun H2 w2 hi hs2 c x hc d y hd r hr => by cases eS_open hc; cases eS_open hd; exact p1 H2 w2 hi hs2 x y r hr) (fun p cap fv w => AnyF.slices_SortFunc_none (P := Tryz.prog) (ρ := Tryz.sort117_ren) { Tryz.sort117 with } p cap fv w) (fun α _ enc h1 cf hO g cb blk off cap d w eg hc hH hb hs => Any.slices_SortFunc Tryz.sort117 enc h1 cf hO g cb blk off cap d w eg hc hH hb hs) hp).mono ?_
 rintro e w' ⟨rfl, c', h1, h2, hq⟩
 exact ⟨_, _, rfl, ⟨h1, Inc.rfl _⟩, h2⟩

@[reducible] def p_slices_Compact_string_string (H0 : GH) (w0 : World) (Ha : GH) (L : List MO) (r : (List ByteArray)) : Ending → World → Prop :=
 fun e w' => ∃ H' : GH, ∃ v0r : Value, ∃ n0r : Nat, ∃ c0r : List Value, e = .returned (v0r) ∧ (St H0 w0 H' w' (.row 9 1 v0r n0r c0r :: L) ∧ Inc Ha H') ∧ Els (up w0.heap.size H') eS 1 c0r r
theorem w_slices_Compact_string_string {H0 Ha : GH} {w0 wa : World} {L : List MO} {v0 : Value} {n0 : Nat} {k0 : List Value} (S0 : St H0 w0 Ha wa (.row 9 1 v0 n0 k0 :: L)) (a0 : List ByteArray) (p0 : Els (up w0.heap.size Ha) eS 1 k0 a0) {r : (List ByteArray)} (hp : (PF.slices_Compact_string_string a0) = some r) :
  Calls Tryz.prog 119 #[v0] wa (p_slices_Compact_string_string H0 w0 Ha L r) := by
 cases hp
 refine (St.compactF (l := .row 9 1 v0 n0 k0 :: L) (i := 0) S0 rfl p0 (enc := Value.string) (fun _ => rfl) (fun _ _ _ h => by cases eS_open h; rfl) (fun _ _ => rfl) ByteArray.empty (fun w => compact_none Tryz.comp119 w) (fun blk off cap d w hH hs hc => AnyE.slices_Compact Tryz.comp119 Value.string (fun _ => rfl) (EqlAt.stringD _ _) (NeqAt.stringD _ _) ByteArray.empty (fun w => Tryz.zeroValue9 w) blk off cap d w hH hs hc)).mono ?_
 rintro e w' ⟨v', n', c', rfl, h1, h2⟩
 exact ⟨_, _, _, _, rfl, ⟨h1, Inc.rfl _⟩, h2⟩

@[reducible] def p_impl_with (Ha : GH) (wa : World) (r : (List ByteArray)) : Ending → World → Prop :=
 fun e w' => ∃ H' : GH, ∃ v0 : Value, ∃ n0 : Nat, ∃ c0 : List Value, e = .returned (v0) ∧ St Ha wa H' w' [.row 9 1 v0 n0 c0] ∧ Els (up wa.heap.size H') eS 1 c0 r
theorem w_impl_with {Ha : GH} {wa : World} (hs : Sl Ha wa) (v0 : Value) (a0 : List ByteArray) (p0 : RSl Ha eS 1 v0 a0) (v1 : Value) (a1 : List ByteArray) (p1 : RSl Ha eS 1 v1 a1) {r : (List ByteArray)} (hp : (PF.impl_with a0 a1) = some r) :
  Calls Tryz.prog 68 #[v0, v1] wa (p_impl_with Ha wa r) := by
 unfold PF.impl_with at hp
 have S0 := St.init hs
 refine calls_go (N := 14) (args := [v0, v1]) Tryz.func68 rfl rfl rfl ?_
 refine FW.seq (FW.region ?_)
 refine FL.v (E.assign (v := Value.slice none 0 0) rfl) ?_
 refine FL.nil (FW.seq (FW.region ?_))
 refine FL.v (E.move (v := v0) rfl) ?_
 refine FL.v (E.move (v := v1) rfl) ?_
 obtain ⟨v21, w22, run23, S24⟩ := S0.buildSlice (P := Tryz.prog) te181 [v0, v1] (parts := #[(0, v0), (1, v1)]) (cells := [v0, v1]) rfl (szs_cons (cells_size p0.cells) (szs_cons (cells_size p1.cells) szs_nil)) (fc_cons p0.cells (fc_cons p1.cells fc_nil)) (ones_cons p0.one (ones_cons p1.one ones_nil)) (Nat.le_of_ble_eq_true rfl)
 have els25 : Els Ha (eL eS 1) 1 [v0, v1] [a0, a1] := (Els.snoc (H := Ha) (E := (eL eS 1)) (k := 1) (c := [v1]) (x := a1) (Els.snoc (H := Ha) (E := (eL eS 1)) (k := 1) (c := [v0]) (x := a0) Els.nil rfl ⟨_, rfl, p0⟩) rfl ⟨_, rfl, p1⟩)
 refine FL.v (E.buildSlice (B2 rfl rfl) run23) ?_
 obtain ⟨H26, S27, i28, h29⟩ := S24.sealRow (i := 0) (l' := []) rfl els25 (by decide) rfl
 obtain ⟨r31, hr32, hp⟩ := bnd hp
 refine FL.call rfl rfl rfl (E.call Tryz.call116 (A1 rfl)) (w_slices_Concat_string_string S27.sl v21 [a0, a1] h29 hr32) ?_
 rintro e w34 ⟨H33, v39, n40, cs41, rfl, r36, els42⟩
 refine ⟨_, rfl, ?_⟩
 obtain ⟨H37, r36, hU38⟩ := St.lendX i28 S24.sl r36
 have els42 := els42.mono (hU38.tr (up_le S24.size))
 have S35 := S24.join (l' := [.row 9 1 v39 n40 cs41, .row 22 1 v21 2 [v0, v1]]) r36 rfl
 refine FL.v (E.assign (v := v39) rfl) ?_
 refine FL.nil (FW.seq (FW.region ?_))
 refine FL.v (E.move (v := v39) rfl) ?_
 obtain ⟨r43, hr44, hp⟩ := bnd hp
 refine FL.call rfl rfl rfl (E.call Tryz.call117 (A2 rfl rfl)) (w_slices_SortFunc_string_string (L := [.row 22 1 v21 2 [v0, v1]]) S35 r31 els42 (Value.func (.func 118) #[] #[]) (fun x0 x1 => PF.impl_compareFormulas x0 x1) (fun H2 w2 hi2 hs2 x0 x1 r hr => ⟨118, #[], rfl, Tryz.call118, w_impl_compareFormulas hs2 x0 x1  hr⟩) hr44) ?_
 rintro e w46 ⟨H45, cs49, rfl, ⟨S47, i48⟩, els50⟩
 refine ⟨_, rfl, ?_⟩
 have S47 : St Ha wa H45 w46 [.row 9 1 v39 n40 cs49, .row 22 1 v21 2 [v0, v1]] := S47
 refine FL.nil (FW.seq (FW.region ?_))
 refine FL.v (E.move (v := v39) rfl) ?_
 obtain ⟨r51, hr52, hp⟩ := bnd hp
 refine FL.call rfl rfl rfl (E.call Tryz.call119 (A1 rfl)) (w_slices_Compact_string_string (L := [.row 22 1 v21 2 [v0, v1]]) S47 r43 els50 hr52) ?_
 rintro e w54 ⟨H53, v57, n58, cs59, rfl, ⟨S55, i56⟩, els60⟩
 refine ⟨_, rfl, ?_⟩
 have S55 : St Ha wa H53 w54 [.row 9 1 v57 n58 cs59, .row 22 1 v21 2 [v0, v1]] := S55
 refine FL.v (E.assign (v := v57) rfl) ?_
 refine FL.nil ?_
 refine FW.ret ?_
 obtain rfl := Option.some.inj hp
 exact ⟨.inr rfl, res1 rfl rfl ⟨_, _, _, _, rfl, (S55.sel [0] (by decide) rfl), els60⟩⟩

theorem w_impl_seqCorrect_2 {Ha : GH} {wa : World} (hs : Sl Ha wa) (a0 : Sequent) (v0_0 : Value) (p0_0 : RSl Ha eS 1 v0_0 a0.left) (v0_1 : Value) (p0_1 : RSl Ha eS 1 v0_1 a0.right) :
  Calls Tryz.prog 195 #[Value.agg #[v0_0, v0_1]] wa (fun e w' => ∃ H' : GH, ∃ q0_0 : Addr, e = .returned (Value.func (.func 196) #[] #[Value.pointer (some q0_0)]) ∧ Run wa.heap.size Ha wa H' w' ∧ CAt H' q0_0 [v0_0, v0_1]) := by
 obtain ⟨r, hp⟩ : ∃ r, (PF.impl_seqCorrect_2 a0) = r := ⟨_, rfl⟩
 unfold PF.impl_seqCorrect_2 at hp
 have S0 := St.init hs
 refine calls_go (N := 4) (args := [Value.agg #[v0_0, v0_1]]) Tryz.func195 rfl rfl rfl ?_
 refine FW.seq (FW.region ?_)
 obtain ⟨b21, w22, run23, S24⟩ := S0.box (P := Tryz.prog) 68 [v0_0, v0_1] (v := Value.agg #[v0_0, v0_1]) rfl (ones_cons p0_0.one (ones_cons p0_1.one ones_nil))
 refine FL.v (E.box rfl run23) ?_
 obtain ⟨H25, S26, i27, at28⟩ := S24.sealBox (i := 0) (l' := []) rfl rfl
 refine FL.v (E.assign (v := Value.nilFunc) rfl) ?_
 refine FL.nil (FW.seq (FW.region ?_))
 refine FL.v (E.makeFunc A0 (A1 rfl)) ?_
 refine FL.v (E.assign (v := Value.func (.func 196) #[] #[Value.pointer (some ⟨b21, 0, none⟩)]) rfl) ?_
 refine FL.nil ?_
 refine FW.ret ?_
 obtain rfl := hp
 exact ⟨.inr rfl, res1 (R := fun e w' => ∃ H' : GH, ∃ q0_0 : Addr, e = .returned (Value.func (.func 196) #[] #[Value.pointer (some q0_0)]) ∧ Run wa.heap.size Ha wa H' w' ∧ CAt H' q0_0 [v0_0, v0_1]) rfl rfl ⟨_, _, rfl, S26.run, at28⟩⟩

set_option maxHeartbeats 4000000 in
theorem w_slices_Equal_string_string {Ha : GH} {wa : World} (hs : Sl Ha wa) (v0 : Value) (a0 : List ByteArray) (p0 : RSl Ha eS 1 v0 a0) (v1 : Value) (a1 : List ByteArray) (p1 : RSl Ha eS 1 v1 a1) {r : Bool} (hp : (PF.slices_Equal_string_string a0 a1) = some r) :
  Calls Tryz.prog 67 #[v0, v1] wa (Sc Ha wa (Value.bool r)) := by
 unfold PF.slices_Equal_string_string at hp
 have S0 := St.init hs
 refine calls_go (N := 26) (args := [v0, v1]) Tryz.func67 rfl rfl rfl ?_
 refine FW.seq (FW.region ?_)
 refine FL.v (E.assign (v := Value.bool false) rfl) ?_
 refine FL.nil (FW.seq (FW.seq (FW.region ?_)))
 refine FL.v (E.move (v := v0) rfl) ?_
 refine FL.v (E.lenP te22 rfl p0) ?_
 refine FL.v (E.move (v := v1) rfl) ?_
 refine FL.v (E.lenP te22 rfl p1) ?_
 refine FL.v (E.neq rfl rfl) ?_
 refine FL.nil ?_
 rcases ifB hp with ⟨c21, hp⟩ | ⟨c21, hp⟩
 ·
  refine FW.condT rfl c21 ?_
  refine FW.seq (FW.region ?_)
  refine FL.v (E.assign (v := Value.bool false) rfl) ?_
  refine FL.nil ?_
  refine FW.ret ?_
  obtain rfl := Option.some.inj hp
  exact ⟨.inr rfl, res1 rfl rfl ⟨rfl, S0.back⟩⟩
 ·
  refine FW.condF rfl c21 ?_
  refine FW.skip (FW.seq (FW.seq (FW.region ?_)))
  refine FL.v (E.move (v := v0) rfl) ?_
  refine FL.v (E.lenP te22 rfl p0) ?_
  refine FL.v (E.move (v := Value.int .i64 0) rfl) ?_
  refine FL.nil ?_
  obtain ⟨q23, hq, hp⟩ := bndR hp
  refine FW.block ?_
  refine FW.mono (FW.forL (S := Unit) (X := Bool) (fun (i23 : Nat) (s23 : Unit) f w => ∃ H : GH, St Ha wa H w [] ∧ Inc Ha H ∧ f 13 = Value.int .i64 ((i23 : Nat) : Int) ∧ f 0 = v0 ∧ f 1 = v1 ∧ f 12 = Value.int .i64 (len a0)) (fun q e f w => match q with | .go s23 => e = Exit.exit 0 ∧ (∃ H : GH, St Ha wa H w [] ∧ Inc Ha H) | .rt x => ((e = Exit.ret) ∧ (fun e f w => (e = Exit.normal ∨ e = Exit.ret) ∧ ∀ a, Fr (δ := []) 26 a f → ∃ v, (results Tryz.f67 a.tmps).run Tryz.prog w = .ok v w ∧ (Sc Ha wa (Value.bool x)) (.returned v) w) e f w)) hq ⟨_, S0, (Inc.rfl _), rfl, rfl, rfl, rfl⟩ ?_ ?_) ?_
  ·
   clear hp hq
   rintro i23 y22 s23 f56 w55 ⟨H52, S53, i54, k57, k58, k59, k60⟩ hx23 o80 hp
   refine FW.seq (FW.region ?_)
   refine FL.v (E.lssT k57 k60 (lss_len hx23)) ?_
   refine FL.nil (FW.seq ?_)
   refine FW.condT rfl rfl ?_
   refine FW.skip (FW.seq (FW.block (FW.seq (FW.region ?_))))
   refine FL.v (E.move k57) ?_
   refine FL.v (E.assign (v := Value.int .i64 ((i23 : Nat) : Int)) rfl) ?_
   refine FL.nil (FW.seq ?_)
   refine FW.draw (fun w' => Run w55.heap.size H52 w55 H52 w') (by kernel_rfl) (by kernel_rfl) (run_drew S53.sl) ?_
   refine FD.val rfl rfl rfl (fun w' hw' => (E.move k58)) ?_
   refine FD.val rfl rfl rfl (fun w' hw' => (E.move (v := Value.int .i64 ((i23 : Nat) : Int)) rfl)) ?_
   obtain ⟨p62, cs63, pt64, l65, at66, rel67⟩ := p0.at (ix_nat hx23)
   obtain rfl := eS_open rel67
   refine FD.val rfl rfl rfl (fun w' hw' => (E.indexAddr te22 rfl rfl pt64)) ?_
   refine FD.val rfl rfl rfl (fun w' hw' => (E.load rfl (run_load0 Tryz.isAgg9 ((at66.mono i54).now (S53.call hw').sl) rfl))) ?_
   refine FD.val rfl rfl rfl (fun w' hw' => (E.move k59)) ?_
   refine FD.val rfl rfl rfl (fun w' hw' => (E.move (v := Value.int .i64 ((i23 : Nat) : Int)) rfl)) ?_
   obtain ⟨x74, hx75, hp⟩ := bnd hp
   obtain ⟨p68, cs69, pt70, l71, at72, rel73⟩ := p1.at hx75
   obtain rfl := eS_open rel73
   refine FD.val rfl rfl rfl (fun w' hw' => (E.indexAddr te22 rfl rfl pt70)) ?_
   refine FD.val rfl rfl rfl (fun w' hw' => (E.load rfl (run_load0 Tryz.isAgg9 ((at72.mono i54).now (S53.call hw').sl) rfl))) ?_
   refine FD.val rfl rfl rfl (fun w' hw' => (E.neqS rfl rfl)) ?_
   refine FD.nil ?_
   intro w76 r78
   have S77 := S53.call r78
   rcases ifB hp with ⟨c79, hp⟩ | ⟨c79, hp⟩
   ·
    refine FW.condT rfl c79 ?_
    refine FW.seq (FW.region ?_)
    refine FL.v (E.assign (v := Value.bool false) rfl) ?_
    refine FL.nil ?_
    refine FW.ret ?_
    obtain rfl := Option.some.inj hp
    exact ⟨nofun, rfl, ⟨.inr rfl, res1 rfl rfl ⟨rfl, S77.back⟩⟩⟩
   ·
    refine FW.condF rfl c79 ?_
    refine FW.skip (FW.region ?_)
    refine FL.v (E.add k57 rfl) ?_
    refine FL.v (E.move (v := Value.int .i64 (wr (((i23 : Nat) : Int) + 1))) rfl) ?_
    refine FL.nil ?_
    obtain rfl := Option.some.inj hp
    exact ⟨rfl, ⟨_, S77, i54, (nat_succ rfl (lt_of_get hx23) (p0.mono i54).le), k58, k59, k60⟩⟩
  ·
   clear hp hq
   rintro s23 f90 w89 ⟨H86, S87, i88, k91, k92, k93, k94⟩
   refine FW.seq (FW.region ?_)
   refine FL.v (E.lss k91 k94) ?_
   refine FL.nil (FW.seq ?_)
   refine FW.condF rfl dlt_len ?_
   refine FW.exit ?_
   exact ⟨nofun, rfl, ⟨_, S87, i88⟩⟩
  ·
   clear hq
   intro e f85 w84 hD
   rcases q23 with s23 | x23
   ·
    obtain ⟨rfl, hD⟩ := hD
    obtain ⟨H81, S82, i83⟩ := hD
    replace hp := el_go hp
    refine FW.seq (FW.region ?_)
    refine FL.v (E.assign (v := Value.bool true) rfl) ?_
    refine FL.nil ?_
    refine FW.ret ?_
    obtain rfl := Option.some.inj hp
    exact ⟨.inr rfl, res1 rfl rfl ⟨rfl, S82.back⟩⟩
   ·
    obtain ⟨he, hL⟩ := hD
    replace hp := el_rt hp
    obtain rfl := Option.some.inj hp
    subst he
    exact hL

theorem w_impl_sameSequent {Ha : GH} {wa : World} (hs : Sl Ha wa) (a0 : Sequent) (v0_0 : Value) (p0_0 : RSl Ha eS 1 v0_0 a0.left) (v0_1 : Value) (p0_1 : RSl Ha eS 1 v0_1 a0.right) (a1 : Sequent) (v1_0 : Value) (p1_0 : RSl Ha eS 1 v1_0 a1.left) (v1_1 : Value) (p1_1 : RSl Ha eS 1 v1_1 a1.right) {r : Bool} (hp : (PF.impl_sameSequent a0 a1) = some r) :
  Calls Tryz.prog 197 #[Value.agg #[v0_0, v0_1], Value.agg #[v1_0, v1_1]] wa (Sc Ha wa (Value.bool r)) := by
 unfold PF.impl_sameSequent at hp
 have S0 := St.init hs
 refine calls_go (N := 17) (args := [Value.agg #[v0_0, v0_1], Value.agg #[v1_0, v1_1]]) Tryz.func197 rfl rfl rfl ?_
 refine FW.seq (FW.region ?_)
 obtain ⟨b21, w22, run23, S24⟩ := S0.box (P := Tryz.prog) 68 [v0_0, v0_1] (v := Value.agg #[v0_0, v0_1]) rfl (ones_cons p0_0.one (ones_cons p0_1.one ones_nil))
 refine FL.v (E.box rfl run23) ?_
 obtain ⟨H25, S26, i27, at28⟩ := S24.sealBox (i := 0) (l' := []) rfl rfl
 obtain ⟨b29, w30, run31, S32⟩ := S26.box (P := Tryz.prog) 68 [v1_0, v1_1] (v := Value.agg #[v1_0, v1_1]) rfl (ones_cons p1_0.one (ones_cons p1_1.one ones_nil))
 refine FL.v (E.box rfl run31) ?_
 obtain ⟨H33, S34, i35, at36⟩ := S32.sealBox (i := 0) (l' := []) rfl rfl
 refine FL.v (E.assign (v := Value.bool false) rfl) ?_
 refine FL.nil (FW.seq (FW.region ?_))
 refine FL.v (E.fieldAddr tf68_0 rfl) ?_
 refine FL.v (E.load rfl (run_load1 Tryz.isAgg22 ((at28.mono i35).now S34.sl) rfl)) ?_
 refine FL.v (E.fieldAddr tf68_0 rfl) ?_
 refine FL.v (E.load rfl (run_load1 Tryz.isAgg22 (at36.now S34.sl) rfl)) ?_
 obtain ⟨r37, hr38, hp⟩ := bnd hp
 refine FL.call rfl rfl rfl (E.call Tryz.call67 (A2 rfl rfl)) (w_slices_Equal_string_string S34.sl v0_0 a0.left (p0_0.mono (i27.tr i35)) v1_0 a1.left (p1_0.mono (i27.tr i35)) hr38) ?_
 rintro e w39 ⟨rfl, r40⟩
 refine ⟨_, rfl, ?_⟩
 have S41 := S34.call r40
 refine FL.v (E.move (v := Value.bool r37) rfl) ?_
 obtain ⟨t47, hqt47, hp⟩ := bnd hp
 refine FL.cut 6 (fun f w => ∃ H : GH, St Ha wa H w [] ∧ Inc H33 H ∧ f 16 = Value.bool t47) ?_ ?_
 ·
  clear hp; have hp := hqt47; clear hqt47
  rcases ifB hp with ⟨c53, hp⟩ | ⟨c53, hp⟩
  ·
   refine FL.val (wF_yes rfl rfl rfl c53) rfl rfl (E.fieldAddr tf68_1 rfl) ?_
   refine FL.val (wF_yes rfl rfl rfl c53) rfl rfl (E.load rfl (run_load1 Tryz.isAgg22 ((at28.mono i35).now S41.sl) rfl)) ?_
   refine FL.val (wF_yes rfl rfl rfl c53) rfl rfl (E.fieldAddr tf68_1 rfl) ?_
   refine FL.val (wF_yes rfl rfl rfl c53) rfl rfl (E.load rfl (run_load1 Tryz.isAgg22 (at36.now S41.sl) rfl)) ?_
   obtain ⟨r54, hr55, hp⟩ := bnd hp
   refine FL.call (wF_yes rfl rfl rfl c53) rfl rfl (E.call Tryz.call67 (A2 rfl rfl)) (w_slices_Equal_string_string S41.sl v0_1 a0.right (p0_1.mono (i27.tr i35)) v1_1 a1.right (p1_1.mono (i27.tr i35)) hr55) ?_
   rintro e w56 ⟨rfl, r57⟩
   refine ⟨_, rfl, ?_⟩
   have S58 := S41.call r57
   obtain rfl := Option.some.inj hp
   refine FL.v (E.pickT rfl c53 rfl) ?_
   exact FL.nil ⟨rfl, _, S58, (Inc.rfl _), rfl⟩
  ·
   refine FL.skip (wF_no rfl rfl rfl c53) rfl ?_
   refine FL.skip (wF_no rfl rfl rfl c53) rfl ?_
   refine FL.skip (wF_no rfl rfl rfl c53) rfl ?_
   refine FL.skip (wF_no rfl rfl rfl c53) rfl ?_
   refine FL.skip (wF_no rfl rfl rfl c53) rfl ?_
   obtain rfl := Option.some.inj hp
   refine FL.v (E.pickF rfl c53 rfl) ?_
   exact FL.nil ⟨rfl, _, S41, (Inc.rfl _), rfl⟩
 rintro f52 w51 ⟨H48, S49, i50, k59⟩
 refine FL.v (E.assign k59) ?_
 refine FL.nil ?_
 refine FW.ret ?_
 obtain rfl := Option.some.inj hp
 exact ⟨.inr rfl, res1 rfl rfl ⟨rfl, S49.back⟩⟩

theorem w_impl_seqCorrect_2_1 {Ha : GH} {wa : World} (hs : Sl Ha wa) (a0 : Sequent) (v0_0 : Value) (p0_0 : RSl Ha eS 1 v0_0 a0.left) (v0_1 : Value) (p0_1 : RSl Ha eS 1 v0_1 a0.right) (q0 : Addr) (b0 : Sequent) (u0_0 : Value) (g0_0 : RSl Ha eS 1 u0_0 b0.left) (u0_1 : Value) (g0_1 : RSl Ha eS 1 u0_1 b0.right) (c0 : CAt Ha q0 [u0_0, u0_1]) {r : Bool} (hp : (PF.impl_seqCorrect_2_1 a0 b0) = some r) :
  Calls Tryz.prog 196 #[Value.agg #[v0_0, v0_1], Value.pointer (some q0)] wa (Sc Ha wa (Value.bool r)) := by
 unfold PF.impl_seqCorrect_2_1 at hp
 have S0 := St.init hs
 refine calls_go (N := 7) (args := [Value.agg #[v0_0, v0_1], Value.pointer (some q0)]) Tryz.func196 rfl rfl rfl ?_
 refine FW.seq (FW.region ?_)
 obtain ⟨b21, w22, run23, S24⟩ := S0.box (P := Tryz.prog) 68 [v0_0, v0_1] (v := Value.agg #[v0_0, v0_1]) rfl (ones_cons p0_0.one (ones_cons p0_1.one ones_nil))
 refine FL.v (E.box rfl run23) ?_
 obtain ⟨H25, S26, i27, at28⟩ := S24.sealBox (i := 0) (l' := []) rfl rfl
 refine FL.v (E.assign (v := Value.bool false) rfl) ?_
 refine FL.nil (FW.seq (FW.region ?_))
 refine FL.v (E.load rfl (run_loadA Tryz.isAgg68 Tryz.sizeOf68 ((c0.mono i27).now S26.sl) rfl)) ?_
 refine FL.v (E.load rfl (run_loadA Tryz.isAgg68 Tryz.sizeOf68 (at28.now S26.sl) rfl)) ?_
 obtain ⟨r29, hr30, hp⟩ := bnd hp
 refine FL.call rfl rfl rfl (E.call Tryz.call197 (A2 rfl rfl)) (w_impl_sameSequent S26.sl b0 u0_0 (g0_0.mono i27) u0_1 (g0_1.mono i27) a0 v0_0 (p0_0.mono i27) v0_1 (p0_1.mono i27) hr30) ?_
 rintro e w31 ⟨rfl, r32⟩
 refine ⟨_, rfl, ?_⟩
 have S33 := S26.call r32
 refine FL.v (E.assign (v := Value.bool r29) rfl) ?_
 refine FL.nil ?_
 refine FW.ret ?_
 obtain rfl := Option.some.inj hp
 exact ⟨.inr rfl, res1 rfl rfl ⟨rfl, S33.back⟩⟩

theorem w_impl_ruleFor {Ha : GH} {wa : World} (hs : Sl Ha wa) (a0 : Int) (a1 : Bool) :
  Calls Tryz.prog 191 #[Value.int .u8 a0, Value.bool a1] wa (Sc Ha wa (Value.int .i64 (PF.impl_ruleFor a0 a1))) := by
 obtain ⟨r, hp⟩ : ∃ r, (PF.impl_ruleFor a0 a1) = r := ⟨_, rfl⟩
 rw [hp]
 unfold PF.impl_ruleFor at hp
 have S0 := St.init hs
 refine calls_go (N := 24) (args := [Value.int .u8 a0, Value.bool a1]) Tryz.func191 rfl rfl rfl ?_
 refine FW.seq (FW.region ?_)
 refine FL.v (E.assign (v := Value.int .i64 0) rfl) ?_
 refine FL.nil (FW.seq (FW.region ?_))
 obtain ⟨b21, o22, w23, run24, S25, hm26⟩ := S0.makeMap (P := Tryz.prog) (K := Int) (V := Int) 231 (Value.int .u8) (Value.int .i64)
 refine FL.v (E.makeMap run24) ?_
 obtain ⟨o27, w28, run29, S30, hm31⟩ := S25.mapPut (P := Tryz.prog) (i := 0) rfl hm26 Tryz.runUnderlying231 (KeyNow.intk Tryz.runUnderlying5) 126 2
 have S30 : St Ha wa Ha w28 [.raw b21 o27] := S30
 refine FL.act rfl rfl (E.insert rfl rfl rfl run29) ?_
 obtain ⟨o32, w33, run34, S35, hm36⟩ := S30.mapPut (P := Tryz.prog) (i := 0) rfl hm31 Tryz.runUnderlying231 (KeyNow.intk Tryz.runUnderlying5) 38 4
 have S35 : St Ha wa Ha w33 [.raw b21 o32] := S35
 refine FL.act rfl rfl (E.insert rfl rfl rfl run34) ?_
 obtain ⟨o37, w38, run39, S40, hm41⟩ := S35.mapPut (P := Tryz.prog) (i := 0) rfl hm36 Tryz.runUnderlying231 (KeyNow.intk Tryz.runUnderlying5) 124 6
 have S40 : St Ha wa Ha w38 [.raw b21 o37] := S40
 refine FL.act rfl rfl (E.insert rfl rfl rfl run39) ?_
 obtain ⟨o42, w43, run44, S45, hm46⟩ := S40.mapPut (P := Tryz.prog) (i := 0) rfl hm41 Tryz.runUnderlying231 (KeyNow.intk Tryz.runUnderlying5) 62 8
 have S45 : St Ha wa Ha w43 [.raw b21 o42] := S45
 refine FL.act rfl rfl (E.insert rfl rfl rfl run44) ?_
 refine FL.v (E.move (v := Value.map (some b21)) rfl) ?_
 refine FL.v (E.assign (v := Value.map (some b21)) rfl) ?_
 refine FL.nil (FW.seq (FW.region ?_))
 refine FL.v (E.move (v := Value.map (some b21)) rfl) ?_
 refine FL.v (E.move (v := Value.int .u8 a0) rfl) ?_
 refine FL.v (E.lookup rfl rfl (S45.mapGetOk (P := Tryz.prog) (i := 0) rfl hm46 Tryz.runUnderlying231 (KeyNow.intk Tryz.runUnderlying5) (z := 0) Tryz.zeroValue3 a0)) ?_
 refine FL.v (E.move (v := Value.tuple #[Value.int .i64 ((mget (mput (mput (mput (mput ([] : List (Int × Int)) 126 2) 38 4) 124 6) 62 8) a0).getD 0), Value.bool ((mget (mput (mput (mput (mput ([] : List (Int × Int)) 126 2) 38 4) 124 6) 62 8) a0).isSome)]) rfl) ?_
 refine FL.v (E.extract (i := 0) rfl rfl) ?_
 refine FL.v (E.extract (i := 1) rfl rfl) ?_
 refine FL.v (E.assign (v := Value.int .i64 ((mget (mput (mput (mput (mput ([] : List (Int × Int)) 126 2) 38 4) 124 6) 62 8) a0).getD 0)) rfl) ?_
 refine FL.v (E.assign (v := Value.bool ((mget (mput (mput (mput (mput ([] : List (Int × Int)) 126 2) 38 4) 124 6) 62 8) a0).isSome)) rfl) ?_
 refine FL.nil (FW.seq (FW.seq (FW.region ?_)))
 refine FL.v (E.move (v := Value.bool ((mget (mput (mput (mput (mput ([] : List (Int × Int)) 126 2) 38 4) 124 6) 62 8) a0).isSome)) rfl) ?_
 refine FL.v (E.move (v := Value.bool ((mget (mput (mput (mput (mput ([] : List (Int × Int)) 126 2) 38 4) 124 6) 62 8) a0).isSome)) rfl) ?_
 refine FL.cut 3 (fun f w => ∃ H : GH, St Ha wa H w [.raw b21 o42] ∧ Inc Ha H ∧ f 6 = Value.int .i64 ((mget (mput (mput (mput (mput ([] : List (Int × Int)) 126 2) 38 4) 124 6) 62 8) a0).getD 0) ∧ f 20 = Value.bool (bif (mget (mput (mput (mput (mput ([] : List (Int × Int)) 126 2) 38 4) 124 6) 62 8) a0).isSome then (!a1) else false)) ?_ ?_
 ·
  rcases bcase ((mget (mput (mput (mput (mput ([] : List (Int × Int)) 126 2) 38 4) 124 6) 62 8) a0).isSome) with c53 | c53
  ·
   refine FL.val (wF_yes rfl rfl rfl c53) rfl rfl (E.move (v := Value.bool a1) rfl) ?_
   refine FL.val (wF_yes rfl rfl rfl c53) rfl rfl (E.not rfl) ?_
   refine FL.v (E.pickT rfl c53 rfl) ?_
   exact FL.nil ⟨rfl, _, S45, (Inc.rfl _), rfl, (congrArg Value.bool (bifT c53).symm)⟩
  ·
   refine FL.skip (wF_no rfl rfl rfl c53) rfl ?_
   refine FL.skip (wF_no rfl rfl rfl c53) rfl ?_
   refine FL.v (E.pickF rfl c53 rfl) ?_
   exact FL.nil ⟨rfl, _, S45, (Inc.rfl _), rfl, (congrArg Value.bool (bifF c53).symm)⟩
 rintro f52 w51 ⟨H48, S49, i50, k54, k55⟩
 refine FL.nil ?_
 rcases ifT hp with ⟨c56, hp⟩ | ⟨c56, hp⟩
 ·
  refine FW.condT k55 c56 ?_
  refine FW.region ?_
  refine FL.v (E.move k54) ?_
  refine FL.v (E.add rfl rfl) ?_
  refine FL.v (E.assign (v := Value.int .i64 (wr (((mget (mput (mput (mput (mput ([] : List (Int × Int)) 126 2) 38 4) 124 6) 62 8) a0).getD 0) + 1))) rfl) ?_
  refine FL.nil (FW.seq (FW.region ?_))
  refine FL.v (E.move (v := Value.int .i64 (wr (((mget (mput (mput (mput (mput ([] : List (Int × Int)) 126 2) 38 4) 124 6) 62 8) a0).getD 0) + 1))) rfl) ?_
  refine FL.v (E.assign (v := Value.int .i64 (wr (((mget (mput (mput (mput (mput ([] : List (Int × Int)) 126 2) 38 4) 124 6) 62 8) a0).getD 0) + 1))) rfl) ?_
  refine FL.nil ?_
  refine FW.ret ?_
  obtain rfl := hp
  exact ⟨.inr rfl, res1 rfl rfl ⟨rfl, S49.back⟩⟩
 ·
  refine FW.condF k55 c56 ?_
  refine FW.skip (FW.seq (FW.region ?_))
  refine FL.v (E.move k54) ?_
  refine FL.v (E.assign (v := Value.int .i64 ((mget (mput (mput (mput (mput ([] : List (Int × Int)) 126 2) 38 4) 124 6) 62 8) a0).getD 0)) rfl) ?_
  refine FL.nil ?_
  refine FW.ret ?_
  obtain rfl := hp
  exact ⟨.inr rfl, res1 rfl rfl ⟨rfl, S49.back⟩⟩

@[reducible] def p_slices_Clone_string_string (Ha : GH) (wa : World) (r : (List ByteArray)) : Ending → World → Prop :=
 fun e w' => ∃ H' : GH, ∃ v0 : Value, ∃ n0 : Nat, ∃ c0 : List Value, e = .returned (v0) ∧ St Ha wa H' w' [.row 9 1 v0 n0 c0] ∧ Els (up wa.heap.size H') eS 1 c0 r
theorem w_slices_Clone_string_string {Ha : GH} {wa : World} (hs : Sl Ha wa) (v0 : Value) (a0 : List ByteArray) (p0 : RSl Ha eS 1 v0 a0) {r : (List ByteArray)} (hp : (PF.slices_Clone_string_string a0) = some r) :
  Calls Tryz.prog 160 #[v0] wa (p_slices_Clone_string_string Ha wa r) := by
 unfold PF.slices_Clone_string_string at hp
 have S0 := St.init hs
 refine calls_go (N := 8) (args := [v0]) Tryz.func160 rfl rfl rfl ?_
 refine FW.seq (FW.region ?_)
 refine FL.v (E.assign (v := Value.slice none 0 0) rfl) ?_
 refine FL.nil (FW.seq (FW.seq (FW.region ?_)))
 refine FL.v (E.move (v := v0) rfl) ?_
 obtain ⟨nb21, run22, hn23⟩ := RSl.nilTest te22 p0
 refine FL.v (run22 _ _ _ _ _ _ _ _ _ _ _ _ rfl rfl) ?_
 refine FL.nil ?_
 rcases bcase nb21 with c24 | c24
 ·
  refine FW.condT (b := nb21) rfl c24 ?_
  rw [hn23 c24, app_nil2] at hp
  refine FW.seq (FW.region ?_)
  refine FL.v (E.assign (v := Value.slice none 0 0) rfl) ?_
  refine FL.nil ?_
  refine FW.ret ?_
  obtain rfl := Option.some.inj hp
  exact ⟨.inr rfl, res1 rfl rfl ⟨_, _, _, _, rfl, (S0.nil 9 1), Els.nil⟩⟩
 ·
  refine FW.condF (b := nb21) rfl c24 ?_
  refine FW.skip (FW.seq (FW.region ?_))
  obtain ⟨v25, w26, run27, S28⟩ := S0.buildSlice (P := Tryz.prog) te22 [] (parts := #[]) (cells := []) rfl szs_nil fc_nil ones_nil (Nat.le_of_ble_eq_true rfl)
  have els29 : Els (up wa.heap.size Ha) eS 1 [] [] := Els.nil
  refine FL.v (E.buildSlice (B0) run27) ?_
  refine FL.v (E.move (v := v0) rfl) ?_
  obtain ⟨xs30, hz31, hp⟩ := bnd hp
  obtain ⟨v32, w35, n33, cs34, run36, S37, els38⟩ := S28.appendP (P := Tryz.prog) (Inc.rfl _) te22 (i := 0) rfl (els29.mono upI) p0 hz31
  have S37 : St Ha wa Ha w35 [.row 9 1 v32 n33 cs34] := S37
  have els38 : Els (up wa.heap.size Ha) eS 1 cs34 xs30 := els38.any (fun _ _ _ _ h => h)
  refine FL.v (E.append rfl rfl run36) ?_
  refine FL.v (E.assign (v := v32) rfl) ?_
  refine FL.nil ?_
  refine FW.ret ?_
  obtain rfl := Option.some.inj hp
  exact ⟨.inr rfl, res1 rfl rfl ⟨_, _, _, _, rfl, S37, els38⟩⟩

@[reducible] def p_slices_DeleteFunc_string_string (H0 : GH) (w0 : World) (Ha : GH) (L : List MO) (r : (List ByteArray)) : Ending → World → Prop :=
 fun e w' => ∃ H' : GH, ∃ v0r : Value, ∃ n0r : Nat, ∃ c0r : List Value, e = .returned (v0r) ∧ (St H0 w0 H' w' (.row 9 1 v0r n0r c0r :: L) ∧ Inc Ha H') ∧ Els (up w0.heap.size H') eS 1 c0r r
set_option maxHeartbeats 4000000 in
theorem w_slices_DeleteFunc_string_string {H0 Ha : GH} {w0 wa : World} {L : List MO} {v0 : Value} {n0 : Nat} {k0 : List Value} (S0 : St H0 w0 Ha wa (.row 9 1 v0 n0 k0 :: L)) (a0 : List ByteArray) (p0 : Els (up w0.heap.size Ha) eS 1 k0 a0) (v1 : Value) (a1 : ByteArray → Option Bool) (p1 : Fn_S_to_B Tryz.prog Ha v1 a1) {r : (List ByteArray)} (hp : (PF.slices_DeleteFunc_string_string a0 a1) = some r) :
  Calls Tryz.prog 168 #[v0, v1] wa (p_slices_DeleteFunc_string_string H0 w0 Ha L r) := by
 unfold PF.slices_DeleteFunc_string_string at hp
 refine calls_go (N := 42) (args := [v0, v1]) Tryz.func168 rfl rfl rfl ?_
 refine FW.seq (FW.region ?_)
 refine FL.v (E.assign (v := Value.slice none 0 0) rfl) ?_
 refine FL.nil (FW.seq (FW.region ?_))
 refine FL.v (E.move (v := v0) rfl) ?_
 refine FL.v (E.move (v := v1) rfl) ?_
 obtain ⟨H21, S22, i23, h24, nv25⟩ := S0.sealRowU (i := 0) (l' := L) rfl p0 (by decide) rfl
 obtain ⟨r26, hr27, hp⟩ := bnd hp
 refine FL.call rfl rfl rfl (E.call Tryz.call212 (A2 rfl rfl)) (w_slices_IndexFunc_string_string S22.sl v0 a0 (h24.mono upI) v1 a1 (p1.mono i23) hr27) ?_
 rintro e w28 ⟨rfl, r29⟩
 refine ⟨_, rfl, ?_⟩
 have r29 := Run.lend i23 S0.sl r29
 have S30 := S0.call r29
 refine FL.v (E.assign (v := Value.int .i64 r26) rfl) ?_
 refine FL.nil (FW.seq (FW.seq (FW.region ?_)))
 refine FL.v (E.move (v := Value.int .i64 r26) rfl) ?_
 refine FL.v (E.eql rfl rfl) ?_
 refine FL.nil ?_
 rcases ifB hp with ⟨c31, hp⟩ | ⟨c31, hp⟩
 ·
  refine FW.condT rfl c31 ?_
  refine FW.seq (FW.region ?_)
  refine FL.v (E.move (v := v0) rfl) ?_
  refine FL.v (E.assign (v := v0) rfl) ?_
  refine FL.nil ?_
  refine FW.ret ?_
  obtain rfl := Option.some.inj hp
  exact ⟨.inr rfl, res1 rfl rfl ⟨_, _, _, _, rfl, ⟨S30, (Inc.rfl _)⟩, p0⟩⟩
 ·
  refine FW.condF rfl c31 ?_
  refine FW.skip (FW.seq (FW.seq (FW.region ?_)))
  refine FL.v (E.move (v := Value.int .i64 r26) rfl) ?_
  refine FL.v (E.add rfl rfl) ?_
  refine FL.v (E.assign (v := Value.int .i64 (wr (r26 + 1))) rfl) ?_
  refine FL.nil ?_
  obtain ⟨q32, hq, hp⟩ := bndR hp
  refine FW.block ?_
  refine FW.mono (FW.iter (S := ((List ByteArray) × Int × Int)) (X := Empty) (fun (s32 : ((List ByteArray) × Int × Int)) f w => ∃ H : GH, ∃ cs78 : List Value, St H0 w0 H w (.row 9 1 v0 n0 cs78 :: L) ∧ Inc Ha H ∧ Els (up w0.heap.size H) eS 1 cs78 s32.1 ∧ f 0 = v0 ∧ f 1 = v1 ∧ f 5 = Value.int .i64 s32.2.1 ∧ f 6 = Value.int .i64 s32.2.2) (fun (q : Rs ((List ByteArray) × Int × Int) Empty) e f w => match q with | .go s32 => e = Exit.exit 0 ∧ (∃ H : GH, ∃ cs78 : List Value, St H0 w0 H w (.row 9 1 v0 n0 cs78 :: L) ∧ Inc Ha H ∧ Els (up w0.heap.size H) eS 1 cs78 s32.1 ∧ f 0 = v0 ∧ f 5 = Value.int .i64 s32.2.1) | .rt x => x.elim) hq ⟨_, _, S30, (Inc.rfl _), p0, rfl, rfl, rfl, rfl⟩ ?_) ?_
  ·
   clear hp hq
   rintro s32 f129 w128 ⟨H125, cs78, S126, i127, els79, k130, k131, k132, k133⟩ o170 hp
   refine FW.seq (FW.seq (FW.region ?_))
   refine FL.v (E.move k133) ?_
   refine FL.v (E.move k130) ?_
   refine FL.v (E.lenO te22 rfl S126 (i := 0) rfl els79 (by decide)) ?_
   refine FL.v (E.lss rfl rfl) ?_
   refine FL.nil ?_
   rcases ifB hp with ⟨c134, hp⟩ | ⟨c134, hp⟩
   ·
    refine FW.condT rfl c134 ?_
    refine FW.skip (FW.seq (FW.block (FW.seq (FW.region ?_))))
    refine FL.v (E.move k130) ?_
    refine FL.v (E.move k133) ?_
    obtain ⟨x141, hx142, hp⟩ := bnd hp
    obtain ⟨p135, cs136, pt137, l138, at139, rel140⟩ := S126.row_at (i := 0) rfl els79 (by decide) hx142
    obtain rfl := eS_open rel140
    refine FL.v (E.indexAddr te22 rfl rfl pt137) ?_
    refine FL.v (E.load rfl (run_load0 Tryz.isAgg9 at139 rfl)) ?_
    refine FL.v (E.assign (v := Value.string x141) rfl) ?_
    refine FL.nil (FW.seq (FW.region ?_))
    refine FL.v (E.move k131) ?_
    refine FL.v (E.move (v := Value.string x141) rfl) ?_
    obtain ⟨r143, hr144, hp⟩ := bnd hp
    obtain ⟨fi148, cs149, hv150, he151, hc152⟩ := (p1.mono i127) H125 w128 (Inc.rfl _) S126.sl x141 r143 hr144
    refine FL.call rfl rfl rfl (E.callV he151 (Eq.trans rfl hv150) (appA (A1 rfl) cs149)) hc152 ?_
    rintro e w145 ⟨rfl, r146⟩
    refine ⟨_, rfl, ?_⟩
    have S147 := S126.call r146
    refine FL.v (E.not rfl) ?_
    refine FL.nil ?_
    rcases ifB hp with ⟨c153, hp⟩ | ⟨c153, hp⟩
    ·
     refine FW.condT rfl c153 ?_
     refine FW.seq (FW.region ?_)
     refine FL.v (E.move k130) ?_
     refine FL.v (E.move k132) ?_
     refine FL.v (E.move (v := Value.string x141) rfl) ?_
     obtain ⟨x160, hx161, hp⟩ := bnd hp
     obtain ⟨p154, cs155, pt156, l157, at158, rel159⟩ := S147.row_at (i := 0) rfl els79 (by decide) hx161
     obtain rfl := eS_open rel159
     refine FL.v (E.indexAddr te22 rfl rfl pt156) ?_
     obtain ⟨xs165, hput166, hp⟩ := bnd hp
     obtain ⟨w162, cs168, run163, S164, els167, ce169⟩ := S147.putEls (P := Tryz.prog) (t := 9) (i := 0) rfl els79 hput166 pt156 Tryz.sizeOf9 (u := Value.string x141) (c := [Value.string x141]) rfl rfl (ones_cons rfl ones_nil) rfl
     have S164 : St H0 w0 H125 w162 (.row 9 1 v0 n0 cs168 :: L) := S164
     refine FL.act rfl rfl (E.store rfl rfl run163) ?_
     refine FL.nil (FW.region ?_)
     refine FL.v (E.move k132) ?_
     refine FL.v (E.add rfl rfl) ?_
     refine FL.v (E.assign (v := Value.int .i64 (wr (s32.2.1 + 1))) rfl) ?_
     refine FL.nil (FW.region ?_)
     refine FL.v (E.move k133) ?_
     refine FL.v (E.add rfl rfl) ?_
     refine FL.v (E.assign (v := Value.int .i64 (wr (s32.2.2 + 1))) rfl) ?_
     refine FL.nil ?_
     obtain rfl := Option.some.inj hp
     exact ⟨rfl, ⟨_, _, S164, i127, els167, k130, k131, rfl, rfl⟩⟩
    ·
     refine FW.condF rfl c153 ?_
     refine FW.skip (FW.region ?_)
     refine FL.v (E.move k133) ?_
     refine FL.v (E.add rfl rfl) ?_
     refine FL.v (E.assign (v := Value.int .i64 (wr (s32.2.2 + 1))) rfl) ?_
     refine FL.nil ?_
     obtain rfl := Option.some.inj hp
     exact ⟨rfl, ⟨_, _, S147, i127, els79, k130, k131, k132, rfl⟩⟩
   ·
    refine FW.condF rfl c134 ?_
    refine FW.exit ?_
    obtain rfl := Option.some.inj hp
    exact ⟨nofun, rfl, ⟨_, _, S126, i127, els79, k130, k132⟩⟩
  ·
   clear hq
   intro e f175 w174 hD
   rcases q32 with s32 | x32
   ·
    obtain ⟨rfl, hD⟩ := hD
    obtain ⟨H171, cs78, S172, i173, els79, k176, k177⟩ := hD
    replace hp := el_go hp
    refine FW.seq (FW.region ?_)
    refine FL.v (E.move k176) ?_
    refine FL.v (E.move k177) ?_
    obtain ⟨xs178, hc179, hp⟩ := bnd hp
    obtain ⟨v180, run181, h182⟩ := S172.tail te22 (kk := .i64) (i := 0) rfl els79 hc179
    refine FL.v (E.slice te22 rfl (congrArg some rfl) rfl rfl (run181 _)) ?_
    obtain ⟨w183, cs184, run185, S186, els187⟩ := S172.clearTail (P := Tryz.prog) te22 (i := 0) rfl els79 h182 rfl (ones_cons rfl ones_nil)
    have S186 : St H0 w0 H171 w183 (.row 9 1 v0 n0 cs184 :: L) := S186
    refine FL.val0 rfl rfl (E.clear rfl run185) ?_
    refine FL.nil (FW.seq (FW.region ?_))
    refine FL.v (E.move k176) ?_
    refine FL.v (E.move k177) ?_
    obtain ⟨xs188, hc189, hp⟩ := bnd hp
    obtain ⟨v190, n191, cs192, run193, S194, els195, nd196⟩ := S186.cutRow te22 (kk := .i64) (i := 0) rfl els187 hc189
    have S194 : St H0 w0 H171 w183 (.row 9 1 v190 n191 cs192 :: L) := S194
    refine FL.v (E.slice te22 rfl rfl (congrArg some rfl) rfl (run193 _)) ?_
    refine FL.v (E.assign (v := v190) rfl) ?_
    refine FL.nil ?_
    refine FW.ret ?_
    obtain rfl := Option.some.inj hp
    exact ⟨.inr rfl, res1 rfl rfl ⟨_, _, _, _, rfl, ⟨S194, i173⟩, els195⟩⟩
   ·
    exact x32.elim

theorem w_impl_lacking_1 {Ha : GH} {wa : World} (hs : Sl Ha wa) (a0 : ByteArray) (q0 : Addr) (b0 : ByteArray) (c0 : CAt Ha q0 [Value.string b0]) :
  Calls Tryz.prog 169 #[Value.string a0, Value.pointer (some q0)] wa (Sc Ha wa (Value.bool (PF.impl_lacking_1 a0 b0))) := by
 obtain ⟨r, hp⟩ : ∃ r, (PF.impl_lacking_1 a0 b0) = r := ⟨_, rfl⟩
 rw [hp]
 unfold PF.impl_lacking_1 at hp
 have S0 := St.init hs
 refine calls_go (N := 7) (args := [Value.string a0, Value.pointer (some q0)]) Tryz.func169 rfl rfl rfl ?_
 refine FW.seq (FW.region ?_)
 refine FL.v (E.assign (v := Value.bool false) rfl) ?_
 refine FL.nil (FW.seq (FW.region ?_))
 refine FL.v (E.load rfl (run_load0 Tryz.isAgg9 (c0.now S0.sl) rfl)) ?_
 refine FL.v (E.move (v := Value.string a0) rfl) ?_
 refine FL.v (E.eqlS rfl rfl) ?_
 refine FL.v (E.assign (v := Value.bool (b0.toList == a0.toList)) rfl) ?_
 refine FL.nil ?_
 refine FW.ret ?_
 obtain rfl := hp
 exact ⟨.inr rfl, res1 rfl rfl ⟨rfl, S0.back⟩⟩

@[reducible] def p_impl_lacking (Ha : GH) (wa : World) (r : (List ByteArray)) : Ending → World → Prop :=
 fun e w' => ∃ H' : GH, ∃ v0 : Value, ∃ n0 : Nat, ∃ c0 : List Value, e = .returned (v0) ∧ St Ha wa H' w' [.row 9 1 v0 n0 c0] ∧ Els (up wa.heap.size H') eS 1 c0 r
theorem w_impl_lacking {Ha : GH} {wa : World} (hs : Sl Ha wa) (v0 : Value) (a0 : List ByteArray) (p0 : RSl Ha eS 1 v0 a0) (a1 : ByteArray) {r : (List ByteArray)} (hp : (PF.impl_lacking a0 a1) = some r) :
  Calls Tryz.prog 125 #[v0, Value.string a1] wa (p_impl_lacking Ha wa r) := by
 unfold PF.impl_lacking at hp
 have S0 := St.init hs
 refine calls_go (N := 9) (args := [v0, Value.string a1]) Tryz.func125 rfl rfl rfl ?_
 refine FW.seq (FW.region ?_)
 obtain ⟨b21, w22, run23, S24⟩ := S0.box (P := Tryz.prog) 9 [Value.string a1] (v := Value.string a1) rfl (ones_cons rfl ones_nil)
 refine FL.v (E.box rfl run23) ?_
 obtain ⟨H25, S26, i27, at28⟩ := S24.sealBox (i := 0) (l' := []) rfl rfl
 refine FL.v (E.assign (v := Value.slice none 0 0) rfl) ?_
 refine FL.nil (FW.seq (FW.region ?_))
 refine FL.v (E.move (v := v0) rfl) ?_
 obtain ⟨r29, hr30, hp⟩ := bnd hp
 refine FL.call rfl rfl rfl (E.call Tryz.call160 (A1 rfl)) (w_slices_Clone_string_string S26.sl v0 a0 (p0.mono i27) hr30) ?_
 rintro e w32 ⟨H31, v35, n36, cs37, rfl, r34, els38⟩
 refine ⟨_, rfl, ?_⟩
 have els38 := els38.mono (up_le S26.size)
 have S33 := S26.join (l' := [.row 9 1 v35 n36 cs37]) r34 rfl
 refine FL.v (E.makeFunc A0 (A1 rfl)) ?_
 obtain ⟨r39, hr40, hp⟩ := bnd hp
 refine FL.call rfl rfl rfl (E.call Tryz.call168 (A2 rfl rfl)) (w_slices_DeleteFunc_string_string (L := []) S33 r29 els38 (Value.func (.func 169) #[] #[Value.pointer (some ⟨b21, 0, none⟩)]) (fun x0 => some (PF.impl_lacking_1 x0 a1)) (fun H2 w2 hi2 hs2 x0 r hr => ⟨169, #[Value.pointer (some ⟨b21, 0, none⟩)], rfl, Tryz.call169, by cases hr; exact w_impl_lacking_1 hs2 x0 ⟨b21, 0, none⟩ a1 ((at28.mono r34.run.inc).mono hi2)⟩) hr40) ?_
 rintro e w42 ⟨H41, v45, n46, cs47, rfl, ⟨S43, i44⟩, els48⟩
 refine ⟨_, rfl, ?_⟩
 have S43 : St Ha wa H41 w42 [.row 9 1 v45 n46 cs47] := S43
 refine FL.v (E.assign (v := v45) rfl) ?_
 refine FL.nil ?_
 refine FW.ret ?_
 obtain rfl := Option.some.inj hp
 exact ⟨.inr rfl, res1 rfl rfl ⟨_, _, _, _, rfl, S43, els48⟩⟩

end Go.Proofs
