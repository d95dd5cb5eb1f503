/- Part of the walks and plain laws behind the claim: it proves helpers, under no condition beyond their own. -/
import Derived.Test.YtgkmebdjookgnaaGreatWk2
set_option linter.unusedVariables false
set_option maxRecDepth 100000
namespace Go.Proofs
open Go.Mr Go.Pu Go.PF Go.RowKit

set_option maxHeartbeats 4000000 in
theorem w_laws_FnExactIsOrderedProof {Ha : GH} {wa : World} (hs : Sl Ha wa) (a0 : Cnf) (v0_1 : Value) (p0_1 : RSl Ha (eL eI 1) 1 v0_1 a0.clauses) (v1 : Value) (a1 : List ResStep) (p1 : RSl Ha eResStep 4 v1 a1) (v2 : Value) (a2 : List Int) (p2 : RSl Ha eI 1 v2 a2) {r : Bool} (hp : (PF.laws_FnExactIsOrderedProof a0 a1 a2) = some r) :
    Calls Tryz.prog 8 #[Value.agg #[Value.int .i64 a0.vars, v0_1], v1, v2] wa (Sc Ha wa (Value.bool r)) := by
  unfold PF.laws_FnExactIsOrderedProof at hp
  have S0 := St.init hs
  refine calls_go (N := 74) (args := [Value.agg #[Value.int .i64 a0.vars, v0_1], v1, v2]) Tryz.func8 rfl rfl rfl ?_
  refine FW.seq ?_
  refine FW.region ?_
  obtain ⟨w21, run22, S23, z24⟩ := S0.boxB (P := Tryz.prog) 24 [Value.int .i64 a0.vars, v0_1] (v := Value.agg #[Value.int .i64 a0.vars, v0_1]) rfl (ones_cons rfl (ones_cons p0_1.one ones_nil))
  refine FL.val rfl rfl rfl (E.box rfl run22) ?_
  obtain ⟨H25, S26, i27, at28⟩ := S23.sealBoxB (i := 0) (l' := []) rfl rfl
  refine FL.val rfl rfl rfl (E.assign (v := Value.bool false) rfl) ?_
  refine FL.nil ?_
  refine FW.seq ?_
  refine FW.seq ?_
  refine FW.region ?_
  refine FL.val rfl rfl rfl (E.move (v := v2) rfl) ?_
  refine FL.val rfl rfl rfl (E.lenP te61 rfl p2) ?_
  refine FL.val rfl rfl rfl (E.gtr rfl rfl) ?_
  refine FL.nil ?_
  rcases ifB hp with ⟨c29, hp⟩ | ⟨c29, hp⟩
  ·
    refine FW.condT rfl c29 ?_
    refine FW.seq ?_
    refine FW.region ?_
    refine FL.val rfl rfl rfl (E.assign (v := Value.bool true) rfl) ?_
    refine FL.nil ?_
    refine FW.ret ?_
    obtain rfl := Option.some.inj hp
    exact ⟨.inr rfl, res1 rfl rfl ⟨rfl, S26.back⟩⟩
  ·
    refine FW.condF rfl c29 ?_
    refine FW.skip ?_
    refine FW.seq ?_
    refine FW.region ?_
    refine FL.val rfl rfl rfl (E.assign (v := Value.int .i64 1048576) rfl) ?_
    refine FL.nil ?_
    refine FW.seq ?_
    refine FW.region ?_
    refine FL.val rfl rfl rfl (E.load rfl (run_loadA Tryz.isAgg24 Tryz.sizeOf24 ((at28.mono sgI).now S26.sl) rfl)) ?_
    refine FL.val rfl rfl rfl (E.move (v := Value.int .i64 1048576) rfl) ?_
    obtain ⟨r30, hr31, hp⟩ := bnd hp
    refine FL.call rfl rfl rfl (E.call Tryz.call15 (A2 rfl rfl)) (w_laws_szCnf S26.sl a0 v0_1 (p0_1.mono i27) 1048576 hr31) ?_
    rintro e w32 ⟨rfl, r33⟩
    refine ⟨_, rfl, ?_⟩
    have S34 := S26.call r33
    have z35 := r33.bel.size
    refine FL.val rfl rfl rfl (E.assign (v := Value.int .i64 r30) rfl) ?_
    refine FL.nil ?_
    refine FW.seq ?_
    refine FW.seq ?_
    refine FW.region ?_
    refine FL.val rfl rfl rfl (E.move (v := Value.int .i64 r30) rfl) ?_
    refine FL.val rfl rfl rfl (E.lss rfl rfl) ?_
    refine FL.nil ?_
    rcases ifB hp with ⟨c36, hp⟩ | ⟨c36, hp⟩
    ·
      refine FW.condT rfl c36 ?_
      refine FW.seq ?_
      refine FW.region ?_
      refine FL.val rfl rfl rfl (E.assign (v := Value.bool true) rfl) ?_
      refine FL.nil ?_
      refine FW.ret ?_
      obtain rfl := Option.some.inj hp
      exact ⟨.inr rfl, res1 rfl rfl ⟨rfl, S34.back⟩⟩
    ·
      refine FW.condF rfl c36 ?_
      refine FW.skip ?_
      refine FW.seq ?_
      refine FW.region ?_
      refine FL.val rfl rfl rfl (E.move (v := v1) rfl) ?_
      refine FL.val rfl rfl rfl (E.move (v := Value.int .i64 r30) rfl) ?_
      obtain ⟨r37, hr38, hp⟩ := bnd hp
      refine FL.call rfl rfl rfl (E.call Tryz.call41 (A2 rfl rfl)) (w_laws_szResStepS S34.sl v1 a1 (p1.mono i27) r30 hr38) ?_
      rintro e w39 ⟨rfl, r40⟩
      refine ⟨_, rfl, ?_⟩
      have S41 := S34.call r40
      have z42 := r40.bel.size
      refine FL.val rfl rfl rfl (E.assign (v := Value.int .i64 r37) rfl) ?_
      refine FL.nil ?_
      refine FW.seq ?_
      refine FW.seq ?_
      refine FW.region ?_
      refine FL.val rfl rfl rfl (E.move (v := Value.int .i64 r37) rfl) ?_
      refine FL.val rfl rfl rfl (E.lss rfl rfl) ?_
      refine FL.nil ?_
      rcases ifB hp with ⟨c43, hp⟩ | ⟨c43, hp⟩
      ·
        refine FW.condT rfl c43 ?_
        refine FW.seq ?_
        refine FW.region ?_
        refine FL.val rfl rfl rfl (E.assign (v := Value.bool true) rfl) ?_
        refine FL.nil ?_
        refine FW.ret ?_
        obtain rfl := Option.some.inj hp
        exact ⟨.inr rfl, res1 rfl rfl ⟨rfl, S41.back⟩⟩
      ·
        refine FW.condF rfl c43 ?_
        refine FW.skip ?_
        refine FW.seq ?_
        refine FW.region ?_
        refine FL.val rfl rfl rfl (E.load rfl (run_loadA Tryz.isAgg24 Tryz.sizeOf24 ((at28.mono sgI).now S41.sl) rfl)) ?_
        obtain ⟨r44, hr45, hp⟩ := bnd hp
        refine FL.call rfl rfl rfl (E.call Tryz.call18 (A1 rfl)) (w_laws_toCnf S41.sl a0 v0_1 (p0_1.mono i27) hr45) ?_
        rintro e w47 ⟨H46, v50, rfl, r49, ⟨c53, ns52⟩⟩
        refine ⟨_, rfl, ?_⟩
        have h51 := ns52.rsl
        have nv54 : New H25 [v50] := New.of_up S41.sl h51.dom
        have S48 := S41.call r49
        have z55 := r49.bel.size
        have h51 := h51.mono (sg_of S48.sl)
        have ns52 := ns52.mono (sg_of S48.sl)
        refine FL.val rfl rfl rfl (E.move (v := v1) rfl) ?_
        obtain ⟨r56, hr57, hp⟩ := bnd hp
        refine FL.call rfl rfl rfl (E.call Tryz.call43 (A1 rfl)) (w_laws_toResStepS S48.sl v1 a1 (p1.mono (i27.tr r49.inc)) hr57) ?_
        rintro e w59 ⟨H58, v62, n63, cs64, rfl, r61, els65, nd66⟩
        refine ⟨_, rfl, ?_⟩
        have nv67 : New H46 cs64 := New.of_up S48.sl els65.dom
        obtain ⟨H68, r69, i70, ns73, nv72⟩ := r61.sealRowN (i := 0) (l' := []) rfl els65 nd66 (by decide) rfl
        have h71 := ns73.rsl
        have S60 := S48.call r69.run
        have z74 := r69.run.bel.size
        have h71 := h71.mono (sg_of S60.sl)
        have ns73 := ns73.mono (sg_of S60.sl)
        refine FL.val rfl rfl rfl (E.move (v := v2) rfl) ?_
        obtain ⟨r75, hr76, hp⟩ := bnd hp
        refine FL.call rfl rfl rfl (E.call Tryz.call46 (A1 rfl)) (w_laws_toIntS S60.sl v2 a2 (p2.mono ((i27.tr r49.inc).tr r69.run.inc)) hr76) ?_
        rintro e w78 ⟨H77, v81, n82, cs83, rfl, r80, els84⟩
        refine ⟨_, rfl, ?_⟩
        obtain ⟨H85, r86, i87, h88, nv89⟩ := r80.sealRowU (i := 0) (l' := []) rfl els84 (by decide) rfl
        have S79 := S60.call r86.run
        have z90 := r86.run.bel.size
        have h88 := h88.mono (sg_of S79.sl)
        obtain ⟨r91, hr92, hp⟩ := bnd hp
        refine FL.call rfl rfl rfl (E.call Tryz.call45 (A3 rfl rfl rfl)) (w_spec_IsOrderedProof S79.sl r44 v50 (h51.mono (sgI.tr (r69.run.inc.tr r86.run.inc))) v62 r56 (h71.mono (sgI.tr r86.run.inc)) v81 r75 (h88.mono sgI) hr92) ?_
        rintro e w93 ⟨rfl, r94⟩
        refine ⟨_, rfl, ?_⟩
        have S95 := S79.call r94
        have z96 := r94.bel.size
        refine FL.val rfl rfl rfl (E.move (v := Value.tuple #[Value.bool r91.1, Value.bool r91.2]) rfl) ?_
        refine FL.val rfl rfl rfl (E.extract (i := 0) rfl rfl) ?_
        refine FL.val rfl rfl rfl (E.extract (i := 1) rfl rfl) ?_
        refine FL.val rfl rfl rfl (E.assign (v := Value.bool r91.1) rfl) ?_
        refine FL.val rfl rfl rfl (E.assign (v := Value.bool r91.2) rfl) ?_
        refine FL.nil ?_
        refine FW.seq ?_
        refine FW.region ?_
        refine FL.val rfl rfl rfl (E.load rfl (run_loadA Tryz.isAgg24 Tryz.sizeOf24 ((at28.mono (sgI.tr ((r49.inc.tr r69.run.inc).tr r86.run.inc))).now S95.sl) rfl)) ?_
        obtain ⟨r97, hr98, hp⟩ := bnd hp
        refine FL.call rfl rfl rfl (E.call Tryz.call18 (A1 rfl)) (w_laws_toCnf S95.sl a0 v0_1 (p0_1.mono (((i27.tr r49.inc).tr r69.run.inc).tr r86.run.inc)) hr98) ?_
        rintro e w100 ⟨H99, v103, rfl, r102, ⟨c106, ns105⟩⟩
        refine ⟨_, rfl, ?_⟩
        have h104 := ns105.rsl
        have nv107 : New H85 [v103] := New.of_up S95.sl h104.dom
        have S101 := S95.call r102
        have z108 := r102.bel.size
        have h104 := h104.mono (sg_of S101.sl)
        have ns105 := ns105.mono (sg_of S101.sl)
        obtain ⟨w109, run110, S111, z112⟩ := S101.allocB (P := Tryz.prog) 30 [Value.int .i64 0, Value.slice none 0 0] Tryz.zeroValue30 rfl (ones_cons rfl (ones_cons rfl ones_nil))
        refine FL.val rfl rfl rfl (E.alloc run110) ?_
        obtain ⟨w113, run114, S115, z116⟩ := S111.store0B (P := Tryz.prog) (t := 30) (i := 0) (cs' := [Value.int .i64 r97.vars, v103]) (l' := [.box w100.heap.size 30 [Value.int .i64 r97.vars, v103]]) (v := Value.agg #[Value.int .i64 r97.vars, v103]) (c := [Value.int .i64 r97.vars, v103]) rfl Tryz.sizeOf30 rfl rfl (ones_cons rfl (ones_cons h104.one ones_nil)) (Nat.le_of_ble_eq_true rfl) rfl rfl
        refine FL.act rfl rfl (E.store rfl rfl run114) ?_
        obtain ⟨H117, S118, i119, at120⟩ := S115.sealBoxB (i := 0) (l' := []) rfl rfl
        refine FL.nil ?_
        refine FW.seq ?_
        refine FW.region ?_
        refine FL.val rfl rfl rfl (E.move (v := v1) rfl) ?_
        obtain ⟨r121, hr122, hp⟩ := bnd hp
        refine FL.call rfl rfl rfl (E.call Tryz.call43 (A1 rfl)) (w_laws_toResStepS S118.sl v1 a1 (p1.mono (((((i27.tr r49.inc).tr r69.run.inc).tr r86.run.inc).tr r102.inc).tr i119)) hr122) ?_
        rintro e w124 ⟨H123, v127, n128, cs129, rfl, r126, els130, nd131⟩
        refine ⟨_, rfl, ?_⟩
        have nv132 : New H117 cs129 := New.of_up S118.sl els130.dom
        obtain ⟨H133, r134, i135, ns138, nv137⟩ := r126.sealRowN (i := 0) (l' := []) rfl els130 nd131 (by decide) rfl
        have h136 := ns138.rsl
        have S125 := S118.call r134.run
        have z139 := r134.run.bel.size
        have h136 := h136.mono (sg_of S125.sl)
        have ns138 := ns138.mono (sg_of S125.sl)
        refine FL.val rfl rfl rfl (E.assign (v := v127) rfl) ?_
        refine FL.nil ?_
        refine FW.seq ?_
        refine FW.region ?_
        refine FL.val rfl rfl rfl (E.move (v := v2) rfl) ?_
        obtain ⟨r140, hr141, hp⟩ := bnd hp
        refine FL.call rfl rfl rfl (E.call Tryz.call46 (A1 rfl)) (w_laws_toIntS S125.sl v2 a2 (p2.mono ((((((i27.tr r49.inc).tr r69.run.inc).tr r86.run.inc).tr r102.inc).tr i119).tr r134.run.inc)) hr141) ?_
        rintro e w143 ⟨H142, v146, n147, cs148, rfl, r145, els149⟩
        refine ⟨_, rfl, ?_⟩
        obtain ⟨H150, r151, i152, h153, nv154⟩ := r145.sealRowU (i := 0) (l' := []) rfl els149 (by decide) rfl
        have S144 := S125.call r151.run
        have z155 := r151.run.bel.size
        have h153 := h153.mono (sg_of S144.sl)
        refine FL.val rfl rfl rfl (E.assign (v := v146) rfl) ?_
        refine FL.nil ?_
        refine FW.seq ?_
        refine FW.region ?_
        refine FL.val rfl rfl rfl (E.load rfl (run_loadA Tryz.isAgg30 Tryz.sizeOf30 ((at120.mono (sgI.tr (r134.run.inc.tr r151.run.inc))).now S144.sl) rfl)) ?_
        refine FL.val rfl rfl rfl (E.move (v := v127) rfl) ?_
        refine FL.val rfl rfl rfl (E.move (v := v146) rfl) ?_
        obtain ⟨r156, hr157, hp⟩ := bnd hp
        refine FL.call rfl rfl rfl (E.call Tryz.call47 (A3 rfl rfl rfl)) (w_impl_IsOrderedProof S144.sl r97 v103 (h104.mono (sgI.tr ((i119.tr r134.run.inc).tr r151.run.inc))) v127 r121 (h136.mono (sgI.tr r151.run.inc)) v146 r140 (h153.mono sgI) hr157) ?_
        rintro e w158 ⟨rfl, r159⟩
        refine ⟨_, rfl, ?_⟩
        have S160 := S144.call r159
        have z161 := r159.bel.size
        refine FL.val rfl rfl rfl (E.move (v := Value.tuple #[Value.bool r156.1, Value.bool r156.2]) rfl) ?_
        refine FL.val rfl rfl rfl (E.extract (i := 0) rfl rfl) ?_
        refine FL.val rfl rfl rfl (E.extract (i := 1) rfl rfl) ?_
        refine FL.val rfl rfl rfl (E.assign (v := Value.bool r156.1) rfl) ?_
        refine FL.val rfl rfl rfl (E.assign (v := Value.bool r156.2) rfl) ?_
        refine FL.nil ?_
        refine FW.seq ?_
        refine FW.seq ?_
        refine FW.region ?_
        refine FL.val rfl rfl rfl (E.move (v := Value.bool r156.1) rfl) ?_
        refine FL.val rfl rfl rfl (E.move (v := Value.bool r91.1) rfl) ?_
        refine FL.val rfl rfl rfl (E.neqB Tryz.runUnderlying4 rfl rfl) ?_
        refine FL.val rfl rfl rfl (E.move (v := Value.bool (!(r156.1 == r91.1))) rfl) ?_
        refine FL.cut 4 (fun f w => ∃ H : GH, St Ha wa H w [] ∧ Inc H150 H ∧ f 1 = v1 ∧ f 2 = v2 ∧ f 3 = Value.pointer (some ⟨wa.heap.size, 0, none⟩) ∧ f 10 = Value.pointer (some ⟨w100.heap.size, 0, none⟩) ∧ f 11 = v127 ∧ f 12 = v146 ∧ f 58 = Value.bool (bif (!(r156.1 == r91.1)) then true else (!(r156.2 == r91.2)))) ?_ ?_
        ·
          rcases bcase (!(r156.1 == r91.1)) with c168 | c168
          ·
            refine FL.skip (wF_no rfl rfl rfl c168) rfl ?_
            refine FL.skip (wF_no rfl rfl rfl c168) rfl ?_
            refine FL.skip (wF_no rfl rfl rfl c168) rfl ?_
            refine FL.val rfl rfl rfl (E.pickT rfl c168 rfl) ?_
            exact FL.nil ⟨rfl, _, S160, (Inc.rfl _), rfl, rfl, rfl, rfl, rfl, rfl, (congrArg Value.bool (bifT c168).symm)⟩
          ·
            refine FL.val (wF_yes rfl rfl rfl c168) rfl rfl (E.move (v := Value.bool r156.2) rfl) ?_
            refine FL.val (wF_yes rfl rfl rfl c168) rfl rfl (E.move (v := Value.bool r91.2) rfl) ?_
            refine FL.val (wF_yes rfl rfl rfl c168) rfl rfl (E.neqB Tryz.runUnderlying4 rfl rfl) ?_
            refine FL.val rfl rfl rfl (E.pickF rfl c168 rfl) ?_
            exact FL.nil ⟨rfl, _, S160, (Inc.rfl _), rfl, rfl, rfl, rfl, rfl, rfl, (congrArg Value.bool (bifF c168).symm)⟩
        rintro f167 w166 ⟨H163, S164, i165, k169, k170, k171, k172, k173, k174, k175⟩
        refine FL.nil ?_
        rcases ifB hp with ⟨c176, hp⟩ | ⟨c176, hp⟩
        ·
          refine FW.condT k175 c176 ?_
          refine FW.seq ?_
          refine FW.region ?_
          refine FL.val rfl rfl rfl (E.assign (v := Value.bool false) rfl) ?_
          refine FL.nil ?_
          refine FW.ret ?_
          obtain rfl := Option.some.inj hp
          exact ⟨.inr rfl, res1 rfl rfl ⟨rfl, S164.back⟩⟩
        ·
          refine FW.condF k175 c176 ?_
          refine FW.skip ?_
          refine FW.seq ?_
          refine FW.seq ?_
          obtain ⟨r1377, hr1378, hp⟩ := bnd hp
          obtain ⟨r1777, hr1778, hp⟩ := bnd hp
          refine FW.drawA (Sl H163) (fun f w => ∃ H : GH, St Ha wa H w [] ∧ Inc H163 H ∧ f 1 = v1 ∧ f 2 = v2 ∧ f 11 = v127 ∧ f 12 = v146 ∧ f 63 = Value.bool (!r1777)) (by kernel_rfl) S164.sl ?_ ?_
          ·
            intro w177 r178
            have S179 := S164.call r178
            refine FA.take (i := 0) (l' := #[true, false, false, false, false]) rfl (by kernel_rfl) (by kernel_rfl) (by kernel_rfl) (by kernel_rfl) S179.sl rfl rfl rfl (fun w' hw' => (E.load k172 (run_loadA Tryz.isAgg30 Tryz.sizeOf30 ((at120.mono (sgI.tr ((r134.run.inc.tr r151.run.inc).tr i165))).now hw') rfl))) ?_
            refine FA.take (i := 1) (l' := #[true, true, false, false, false]) rfl (by kernel_rfl) (by kernel_rfl) (by kernel_rfl) (by kernel_rfl) S179.sl rfl rfl rfl (fun w' hw' => (E.load k171 (run_loadA Tryz.isAgg24 Tryz.sizeOf24 ((at28.mono (sgI.tr (((((((r49.inc.tr r69.run.inc).tr r86.run.inc).tr r102.inc).tr i119).tr r134.run.inc).tr r151.run.inc).tr i165))).now hw') rfl))) ?_
            refine FA.all1 (i := 2) (by kernel_rfl) ?_
            ·
              refine FO.call (l' := #[true, true, true, false, false]) rfl (by kernel_rfl) rfl rfl rfl (E.call Tryz.call18 (A1 rfl)) (w_laws_toCnf S179.sl a0 v0_1 (p0_1.mono ((((((((i27.tr r49.inc).tr r69.run.inc).tr r86.run.inc).tr r102.inc).tr i119).tr r134.run.inc).tr r151.run.inc).tr i165)) hr1378) ?_
              rintro e w1380 ⟨H1379, v1383, rfl, r1382, ⟨c1386, ns1385⟩⟩
              refine ⟨_, rfl, ?_⟩
              have h1384 := ns1385.rsl
              have nv1387 : New H163 [v1383] := New.of_up S179.sl h1384.dom
              have S1381 := S179.call r1382
              have z1388 := r1382.bel.size
              have h1384 := h1384.mono (sg_of S1381.sl)
              have ns1385 := ns1385.mono (sg_of S1381.sl)
              refine ⟨(Sl.of_inc r1382.inc S1381.sl), ?_⟩
              refine FA.all1 (i := 3) (by kernel_rfl) ?_
              ·
                refine FO.call (l' := #[true, true, true, true, false]) rfl (by kernel_rfl) rfl rfl rfl (E.call Tryz.call22 (A2 rfl rfl)) (w_laws_eqCnf S1381.sl r97 v103 (h104.mono (sgI.tr ((((i119.tr r134.run.inc).tr r151.run.inc).tr i165).tr r1382.inc))) r1377 v1383 (h1384.mono sgI) hr1778) ?_
                rintro e w1779 ⟨rfl, r1780⟩
                refine ⟨_, rfl, ?_⟩
                have S1781 := S1381.call r1780
                have z1782 := r1780.bel.size
                refine ⟨(Sl.of_inc r1382.inc S1781.sl), ?_⟩
                refine FA.take (i := 4) (l' := #[true, true, true, true, true]) rfl (by kernel_rfl) (by kernel_rfl) (by kernel_rfl) (by kernel_rfl) (Sl.of_inc r1382.inc S1781.sl) rfl rfl rfl (fun w' hw' => (E.not rfl)) ?_
                exact FA.done (by kernel_rfl) ⟨_, S1781, r1382.inc, k169, k170, k173, k174, rfl⟩
          ·
            rintro f2982 w2981 ⟨H2978, S2979, i2980, k2983, k2984, k2985, k2986, k2987⟩
            rcases ifB hp with ⟨c2988, hp⟩ | ⟨c2988, hp⟩
            ·
              refine FW.condT k2987 c2988 ?_
              refine FW.seq ?_
              refine FW.region ?_
              refine FL.val rfl rfl rfl (E.assign (v := Value.bool false) rfl) ?_
              refine FL.nil ?_
              refine FW.ret ?_
              obtain rfl := Option.some.inj hp
              exact ⟨.inr rfl, res1 rfl rfl ⟨rfl, S2979.back⟩⟩
            ·
              refine FW.condF k2987 c2988 ?_
              refine FW.skip ?_
              refine FW.seq ?_
              refine FW.seq ?_
              refine FW.region ?_
              refine FL.val rfl rfl rfl (E.move k2985) ?_
              refine FL.val rfl rfl rfl (E.move k2983) ?_
              obtain ⟨r2989, hr2990, hp⟩ := bnd hp
              refine FL.call rfl rfl rfl (E.call Tryz.call43 (A1 rfl)) (w_laws_toResStepS S2979.sl v1 a1 (p1.mono (((((((((i27.tr r49.inc).tr r69.run.inc).tr r86.run.inc).tr r102.inc).tr i119).tr r134.run.inc).tr r151.run.inc).tr i165).tr i2980)) hr2990) ?_
              rintro e w2992 ⟨H2991, v2995, n2996, cs2997, rfl, r2994, els2998, nd2999⟩
              refine ⟨_, rfl, ?_⟩
              have nv3000 : New H2978 cs2997 := New.of_up S2979.sl els2998.dom
              obtain ⟨H3001, r3002, i3003, ns3006, nv3005⟩ := r2994.sealRowN (i := 0) (l' := []) rfl els2998 nd2999 (by decide) rfl
              have h3004 := ns3006.rsl
              have S2993 := S2979.call r3002.run
              have z3007 := r3002.run.bel.size
              have h3004 := h3004.mono (sg_of S2993.sl)
              have ns3006 := ns3006.mono (sg_of S2993.sl)
              obtain ⟨r3008, hr3009, hp⟩ := bnd hp
              refine FL.call rfl rfl rfl (E.call Tryz.call32 (A2 rfl rfl)) (w_laws_eqResStepS S2993.sl v127 r121 (h136.mono (sgI.tr (((r151.run.inc.tr i165).tr i2980).tr r3002.run.inc))) v2995 r2989 (h3004.mono sgI) hr3009) ?_
              rintro e w3010 ⟨rfl, r3011⟩
              refine ⟨_, rfl, ?_⟩
              have S3012 := S2993.call r3011
              have z3013 := r3011.bel.size
              refine FL.val rfl rfl rfl (E.not rfl) ?_
              refine FL.nil ?_
              rcases ifB hp with ⟨c3014, hp⟩ | ⟨c3014, hp⟩
              ·
                refine FW.condT rfl c3014 ?_
                refine FW.seq ?_
                refine FW.region ?_
                refine FL.val rfl rfl rfl (E.assign (v := Value.bool false) rfl) ?_
                refine FL.nil ?_
                refine FW.ret ?_
                obtain rfl := Option.some.inj hp
                exact ⟨.inr rfl, res1 rfl rfl ⟨rfl, S3012.back⟩⟩
              ·
                refine FW.condF rfl c3014 ?_
                refine FW.skip ?_
                refine FW.seq ?_
                refine FW.seq ?_
                refine FW.region ?_
                refine FL.val rfl rfl rfl (E.move k2986) ?_
                refine FL.val rfl rfl rfl (E.move k2984) ?_
                obtain ⟨r3015, hr3016, hp⟩ := bnd hp
                refine FL.call rfl rfl rfl (E.call Tryz.call46 (A1 rfl)) (w_laws_toIntS S3012.sl v2 a2 (p2.mono ((((((((((i27.tr r49.inc).tr r69.run.inc).tr r86.run.inc).tr r102.inc).tr i119).tr r134.run.inc).tr r151.run.inc).tr i165).tr i2980).tr r3002.run.inc)) hr3016) ?_
                rintro e w3018 ⟨H3017, v3021, n3022, cs3023, rfl, r3020, els3024⟩
                refine ⟨_, rfl, ?_⟩
                obtain ⟨H3025, r3026, i3027, h3028, nv3029⟩ := r3020.sealRowU (i := 0) (l' := []) rfl els3024 (by decide) rfl
                have S3019 := S3012.call r3026.run
                have z3030 := r3026.run.bel.size
                have h3028 := h3028.mono (sg_of S3019.sl)
                obtain ⟨r3031, hr3032, hp⟩ := bnd hp
                refine FL.call rfl rfl rfl (E.call Tryz.call48 (A2 rfl rfl)) (w_laws_eqIntS S3019.sl v146 r140 (h153.mono (sgI.tr (((i165.tr i2980).tr r3002.run.inc).tr r3026.run.inc))) v3021 r3015 (h3028.mono sgI) hr3032) ?_
                rintro e w3033 ⟨rfl, r3034⟩
                refine ⟨_, rfl, ?_⟩
                have S3035 := S3019.call r3034
                have z3036 := r3034.bel.size
                refine FL.val rfl rfl rfl (E.not rfl) ?_
                refine FL.nil ?_
                rcases ifB hp with ⟨c3037, hp⟩ | ⟨c3037, hp⟩
                ·
                  refine FW.condT rfl c3037 ?_
                  refine FW.seq ?_
                  refine FW.region ?_
                  refine FL.val rfl rfl rfl (E.assign (v := Value.bool false) rfl) ?_
                  refine FL.nil ?_
                  refine FW.ret ?_
                  obtain rfl := Option.some.inj hp
                  exact ⟨.inr rfl, res1 rfl rfl ⟨rfl, S3035.back⟩⟩
                ·
                  refine FW.condF rfl c3037 ?_
                  refine FW.skip ?_
                  refine FW.seq ?_
                  refine FW.region ?_
                  refine FL.val rfl rfl rfl (E.assign (v := Value.bool true) rfl) ?_
                  refine FL.nil ?_
                  refine FW.ret ?_
                  obtain rfl := Option.some.inj hp
                  exact ⟨.inr rfl, res1 rfl rfl ⟨rfl, S3035.back⟩⟩

end Go.Proofs
