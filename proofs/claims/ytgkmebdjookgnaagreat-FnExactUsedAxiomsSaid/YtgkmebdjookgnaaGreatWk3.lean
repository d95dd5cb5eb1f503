/- Part of the walks and plain laws behind the claim: it proves helpers, under no condition beyond their own. -/
import Derived.Test.YtgkmebdjookgnaaGreatWk2
set_option linter.unusedVariables false
set_option maxRecDepth 100000
namespace Go.Proofs
open Go.Mr Go.Pu Go.PF Go.RowKit

set_option maxHeartbeats 4000000 in
theorem w_laws_FnExactUsedAxioms {Ha : GH} {wa : World} (hs : Sl Ha wa) (a0 : Cnf) (v0_1 : Value) (p0_1 : RSl Ha (eL eI 1) 1 v0_1 a0.clauses) (v1 : Value) (a1 : List ResStep) (p1 : RSl Ha eResStep 4 v1 a1) {r : Bool} (hp : (PF.laws_FnExactUsedAxioms a0 a1) = some r) :
    Calls Tryz.prog 11 #[Value.agg #[Value.int .i64 a0.vars, v0_1], v1] wa (Sc Ha wa (Value.bool r)) := by
  unfold PF.laws_FnExactUsedAxioms at hp
  have S0 := St.init hs
  refine calls_go (N := 119) (args := [Value.agg #[Value.int .i64 a0.vars, v0_1], v1]) Tryz.func11 rfl rfl rfl ?_
  refine FW.seq ?_
  refine FW.region ?_
  obtain ⟨w21, run22, S23, z24⟩ := S0.boxB (P := Tryz.prog) 24 [Value.int .i64 a0.vars, v0_1] (v := Value.agg #[Value.int .i64 a0.vars, v0_1]) rfl (ones_cons rfl (ones_cons p0_1.one ones_nil))
  refine FL.val rfl rfl rfl (E.box rfl run22) ?_
  obtain ⟨H25, S26, i27, at28⟩ := S23.sealBoxB (i := 0) (l' := []) rfl rfl
  refine FL.val rfl rfl rfl (E.assign (v := Value.bool false) rfl) ?_
  refine FL.nil ?_
  refine FW.seq ?_
  refine FW.region ?_
  refine FL.val rfl rfl rfl (E.assign (v := Value.int .i64 1048576) rfl) ?_
  refine FL.nil ?_
  refine FW.seq ?_
  refine FW.region ?_
  refine FL.val rfl rfl rfl (E.load rfl (run_loadA Tryz.isAgg24 Tryz.sizeOf24 ((at28.mono sgI).now S26.sl) rfl)) ?_
  refine FL.val rfl rfl rfl (E.move (v := Value.int .i64 1048576) rfl) ?_
  obtain ⟨r29, hr30, hp⟩ := bnd hp
  refine FL.call rfl rfl rfl (E.call Tryz.call15 (A2 rfl rfl)) (w_laws_szCnf S26.sl a0 v0_1 (p0_1.mono i27) 1048576 hr30) ?_
  rintro e w31 ⟨rfl, r32⟩
  refine ⟨_, rfl, ?_⟩
  have S33 := S26.call r32
  have z34 := r32.bel.size
  refine FL.val rfl rfl rfl (E.assign (v := Value.int .i64 r29) rfl) ?_
  refine FL.nil ?_
  refine FW.seq ?_
  refine FW.seq ?_
  refine FW.region ?_
  refine FL.val rfl rfl rfl (E.move (v := Value.int .i64 r29) rfl) ?_
  refine FL.val rfl rfl rfl (E.lss rfl rfl) ?_
  refine FL.nil ?_
  rcases ifB hp with ⟨c35, hp⟩ | ⟨c35, hp⟩
  ·
    refine FW.condT rfl c35 ?_
    refine FW.seq ?_
    refine FW.region ?_
    refine FL.val rfl rfl rfl (E.assign (v := Value.bool true) rfl) ?_
    refine FL.nil ?_
    refine FW.ret ?_
    obtain rfl := Option.some.inj hp
    exact ⟨.inr rfl, res1 rfl rfl ⟨rfl, S33.back⟩⟩
  ·
    refine FW.condF rfl c35 ?_
    refine FW.skip ?_
    refine FW.seq ?_
    refine FW.region ?_
    refine FL.val rfl rfl rfl (E.move (v := v1) rfl) ?_
    refine FL.val rfl rfl rfl (E.move (v := Value.int .i64 r29) rfl) ?_
    obtain ⟨r36, hr37, hp⟩ := bnd hp
    refine FL.call rfl rfl rfl (E.call Tryz.call41 (A2 rfl rfl)) (w_laws_szResStepS S33.sl v1 a1 (p1.mono i27) r29 hr37) ?_
    rintro e w38 ⟨rfl, r39⟩
    refine ⟨_, rfl, ?_⟩
    have S40 := S33.call r39
    have z41 := r39.bel.size
    refine FL.val rfl rfl rfl (E.assign (v := Value.int .i64 r36) rfl) ?_
    refine FL.nil ?_
    refine FW.seq ?_
    refine FW.seq ?_
    refine FW.region ?_
    refine FL.val rfl rfl rfl (E.move (v := Value.int .i64 r36) rfl) ?_
    refine FL.val rfl rfl rfl (E.lss rfl rfl) ?_
    refine FL.nil ?_
    rcases ifB hp with ⟨c42, hp⟩ | ⟨c42, hp⟩
    ·
      refine FW.condT rfl c42 ?_
      refine FW.seq ?_
      refine FW.region ?_
      refine FL.val rfl rfl rfl (E.assign (v := Value.bool true) rfl) ?_
      refine FL.nil ?_
      refine FW.ret ?_
      obtain rfl := Option.some.inj hp
      exact ⟨.inr rfl, res1 rfl rfl ⟨rfl, S40.back⟩⟩
    ·
      refine FW.condF rfl c42 ?_
      refine FW.skip ?_
      refine FW.seq ?_
      refine FW.region ?_
      refine FL.val rfl rfl rfl (E.load rfl (run_loadA Tryz.isAgg24 Tryz.sizeOf24 ((at28.mono sgI).now S40.sl) rfl)) ?_
      obtain ⟨r43, hr44, hp⟩ := bnd hp
      refine FL.call rfl rfl rfl (E.call Tryz.call18 (A1 rfl)) (w_laws_toCnf S40.sl a0 v0_1 (p0_1.mono i27) hr44) ?_
      rintro e w46 ⟨H45, v49, rfl, r48, ⟨c52, ns51⟩⟩
      refine ⟨_, rfl, ?_⟩
      have h50 := ns51.rsl
      have nv53 : New H25 [v49] := New.of_up S40.sl h50.dom
      have S47 := S40.call r48
      have z54 := r48.bel.size
      have h50 := h50.mono (sg_of S47.sl)
      have ns51 := ns51.mono (sg_of S47.sl)
      refine FL.val rfl rfl rfl (E.move (v := v1) rfl) ?_
      obtain ⟨r55, hr56, hp⟩ := bnd hp
      refine FL.call rfl rfl rfl (E.call Tryz.call43 (A1 rfl)) (w_laws_toResStepS S47.sl v1 a1 (p1.mono (i27.tr r48.inc)) hr56) ?_
      rintro e w58 ⟨H57, v61, n62, cs63, rfl, r60, els64, nd65⟩
      refine ⟨_, rfl, ?_⟩
      have nv66 : New H45 cs63 := New.of_up S47.sl els64.dom
      obtain ⟨H67, r68, i69, ns72, nv71⟩ := r60.sealRowN (i := 0) (l' := []) rfl els64 nd65 (by decide) rfl
      have h70 := ns72.rsl
      have S59 := S47.call r68.run
      have z73 := r68.run.bel.size
      have h70 := h70.mono (sg_of S59.sl)
      have ns72 := ns72.mono (sg_of S59.sl)
      obtain ⟨r74, hr75, hp⟩ := bnd hp
      refine FL.call rfl rfl rfl (E.call Tryz.call56 (A2 rfl rfl)) (w_spec_UsedAxioms S59.sl r43 v49 (h50.mono (sgI.tr r68.run.inc)) v61 r55 (h70.mono sgI) hr75) ?_
      rintro e w77 ⟨H76, v80, rfl, r79, h81⟩
      refine ⟨_, rfl, ?_⟩
      have S78 := S59.call r79
      have z82 := r79.bel.size
      have h81 := h81.mono (bw_of S78.sl)
      refine FL.val rfl rfl rfl (E.move (v := Value.tuple #[v80, Value.bool r74.2]) rfl) ?_
      refine FL.val rfl rfl rfl (E.extract (i := 0) rfl rfl) ?_
      refine FL.val rfl rfl rfl (E.extract (i := 1) rfl rfl) ?_
      refine FL.val rfl rfl rfl (E.assign (v := v80) rfl) ?_
      refine FL.val rfl rfl rfl (E.assign (v := Value.bool r74.2) rfl) ?_
      refine FL.nil ?_
      refine FW.seq ?_
      refine FW.region ?_
      refine FL.val rfl rfl rfl (E.load rfl (run_loadA Tryz.isAgg24 Tryz.sizeOf24 ((at28.mono (sgI.tr ((r48.inc.tr r68.run.inc).tr r79.inc))).now S78.sl) rfl)) ?_
      obtain ⟨r83, hr84, hp⟩ := bnd hp
      refine FL.call rfl rfl rfl (E.call Tryz.call18 (A1 rfl)) (w_laws_toCnf S78.sl a0 v0_1 (p0_1.mono (((i27.tr r48.inc).tr r68.run.inc).tr r79.inc)) hr84) ?_
      rintro e w86 ⟨H85, v89, rfl, r88, ⟨c92, ns91⟩⟩
      refine ⟨_, rfl, ?_⟩
      have h90 := ns91.rsl
      have nv93 : New H76 [v89] := New.of_up S78.sl h90.dom
      have S87 := S78.call r88
      have z94 := r88.bel.size
      have h90 := h90.mono (sg_of S87.sl)
      have ns91 := ns91.mono (sg_of S87.sl)
      obtain ⟨w95, run96, S97, z98⟩ := S87.allocB (P := Tryz.prog) 30 [Value.int .i64 0, Value.slice none 0 0] Tryz.zeroValue30 rfl (ones_cons rfl (ones_cons rfl ones_nil))
      refine FL.val rfl rfl rfl (E.alloc run96) ?_
      obtain ⟨w99, run100, S101, z102⟩ := S97.store0B (P := Tryz.prog) (t := 30) (i := 0) (cs' := [Value.int .i64 r83.vars, v89]) (l' := [.box w86.heap.size 30 [Value.int .i64 r83.vars, v89]]) (v := Value.agg #[Value.int .i64 r83.vars, v89]) (c := [Value.int .i64 r83.vars, v89]) rfl Tryz.sizeOf30 rfl rfl (ones_cons rfl (ones_cons h90.one ones_nil)) (Nat.le_of_ble_eq_true rfl) rfl rfl
      refine FL.act rfl rfl (E.store rfl rfl run100) ?_
      obtain ⟨H103, S104, i105, at106⟩ := S101.sealBoxB (i := 0) (l' := []) rfl rfl
      refine FL.nil ?_
      refine FW.seq ?_
      refine FW.region ?_
      refine FL.val rfl rfl rfl (E.move (v := v1) rfl) ?_
      obtain ⟨r107, hr108, hp⟩ := bnd hp
      refine FL.call rfl rfl rfl (E.call Tryz.call43 (A1 rfl)) (w_laws_toResStepS S104.sl v1 a1 (p1.mono (((((i27.tr r48.inc).tr r68.run.inc).tr r79.inc).tr r88.inc).tr i105)) hr108) ?_
      rintro e w110 ⟨H109, v113, n114, cs115, rfl, r112, els116, nd117⟩
      refine ⟨_, rfl, ?_⟩
      have nv118 : New H103 cs115 := New.of_up S104.sl els116.dom
      obtain ⟨H119, r120, i121, ns124, nv123⟩ := r112.sealRowN (i := 0) (l' := []) rfl els116 nd117 (by decide) rfl
      have h122 := ns124.rsl
      have S111 := S104.call r120.run
      have z125 := r120.run.bel.size
      have h122 := h122.mono (sg_of S111.sl)
      have ns124 := ns124.mono (sg_of S111.sl)
      refine FL.val rfl rfl rfl (E.assign (v := v113) rfl) ?_
      refine FL.nil ?_
      refine FW.seq ?_
      refine FW.region ?_
      refine FL.val rfl rfl rfl (E.load rfl (run_loadA Tryz.isAgg30 Tryz.sizeOf30 ((at106.mono (sgI.tr r120.run.inc)).now S111.sl) rfl)) ?_
      refine FL.val rfl rfl rfl (E.move (v := v113) rfl) ?_
      obtain ⟨r126, hr127, hp⟩ := bnd hp
      refine FL.call rfl rfl rfl (E.call Tryz.call57 (A2 rfl rfl)) (w_impl_UsedAxioms S111.sl r83 v89 (h90.mono (sgI.tr (i105.tr r120.run.inc))) v113 r107 (h122.mono sgI) hr127) ?_
      rintro e w129 ⟨H128, v132, n133, cs134, rfl, r131, els135⟩
      refine ⟨_, rfl, ?_⟩
      obtain ⟨H136, r137, i138, h139, nv140⟩ := r131.sealRowU (i := 0) (l' := []) rfl els135 (by decide) rfl
      have S130 := S111.call r137.run
      have z141 := r137.run.bel.size
      have h139 := h139.mono (sg_of S130.sl)
      refine FL.val rfl rfl rfl (E.move (v := Value.tuple #[v132, Value.bool r126.2]) rfl) ?_
      refine FL.val rfl rfl rfl (E.extract (i := 0) rfl rfl) ?_
      refine FL.val rfl rfl rfl (E.extract (i := 1) rfl rfl) ?_
      refine FL.val rfl rfl rfl (E.assign (v := v132) rfl) ?_
      refine FL.val rfl rfl rfl (E.assign (v := Value.bool r126.2) rfl) ?_
      refine FL.nil ?_
      refine FW.seq ?_
      refine FW.seq ?_
      refine FW.region ?_
      refine FL.val rfl rfl rfl (E.move (v := v132) rfl) ?_
      refine FL.val rfl rfl rfl (E.move (v := v80) rfl) ?_
      obtain ⟨r142, hr143, hp⟩ := bnd hp
      refine FL.call rfl rfl rfl (E.call Tryz.call48 (A2 rfl rfl)) (w_laws_eqIntS S130.sl v132 r126.1 (h139.mono sgI) v80 r74.1 (h81.mono (bwI.tr (((r88.inc.tr i105).tr r120.run.inc).tr r137.run.inc))) hr143) ?_
      rintro e w144 ⟨rfl, r145⟩
      refine ⟨_, rfl, ?_⟩
      have S146 := S130.call r145
      have z147 := r145.bel.size
      refine FL.val rfl rfl rfl (E.not rfl) ?_
      refine FL.val rfl rfl rfl (E.move (v := Value.bool (!r142)) rfl) ?_
      refine FL.cut 4 (fun f w => ∃ H : GH, St Ha wa H w [] ∧ Inc H136 H ∧ f 1 = v1 ∧ f 2 = Value.pointer (some ⟨wa.heap.size, 0, none⟩) ∧ f 6 = v80 ∧ f 7 = Value.bool r74.2 ∧ f 8 = Value.pointer (some ⟨w86.heap.size, 0, none⟩) ∧ f 9 = v113 ∧ f 10 = v132 ∧ f 11 = Value.bool r126.2 ∧ f 53 = Value.bool (bif (!r142) then true else (!(r126.2 == r74.2)))) ?_ ?_
      ·
        rcases bcase (!r142) with c154 | c154
        ·
          refine FL.skip (wF_no rfl rfl rfl c154) rfl ?_
          refine FL.skip (wF_no rfl rfl rfl c154) rfl ?_
          refine FL.skip (wF_no rfl rfl rfl c154) rfl ?_
          refine FL.val rfl rfl rfl (E.pickT rfl c154 rfl) ?_
          exact FL.nil ⟨rfl, _, S146, (Inc.rfl _), rfl, rfl, rfl, rfl, rfl, rfl, rfl, rfl, (congrArg Value.bool (bifT c154).symm)⟩
        ·
          refine FL.val (wF_yes rfl rfl rfl c154) rfl rfl (E.move (v := Value.bool r126.2) rfl) ?_
          refine FL.val (wF_yes rfl rfl rfl c154) rfl rfl (E.move (v := Value.bool r74.2) rfl) ?_
          refine FL.val (wF_yes rfl rfl rfl c154) rfl rfl (E.neqB Tryz.runUnderlying4 rfl rfl) ?_
          refine FL.val rfl rfl rfl (E.pickF rfl c154 rfl) ?_
          exact FL.nil ⟨rfl, _, S146, (Inc.rfl _), rfl, rfl, rfl, rfl, rfl, rfl, rfl, rfl, (congrArg Value.bool (bifF c154).symm)⟩
      rintro f153 w152 ⟨H149, S150, i151, k155, k156, k157, k158, k159, k160, k161, k162, k163⟩
      refine FL.nil ?_
      rcases ifB hp with ⟨c164, hp⟩ | ⟨c164, hp⟩
      ·
        refine FW.condT k163 c164 ?_
        refine FW.seq ?_
        refine FW.region ?_
        refine FL.val rfl rfl rfl (E.assign (v := Value.bool false) rfl) ?_
        refine FL.nil ?_
        refine FW.ret ?_
        obtain rfl := Option.some.inj hp
        exact ⟨.inr rfl, res1 rfl rfl ⟨rfl, S150.back⟩⟩
      ·
        refine FW.condF k163 c164 ?_
        refine FW.skip ?_
        refine FW.seq ?_
        refine FW.seq ?_
        obtain ⟨r1365, hr1366, hp⟩ := bnd hp
        obtain ⟨r1765, hr1766, hp⟩ := bnd hp
        refine FW.drawA (Sl H149) (fun f w => ∃ H : GH, St Ha wa H w [] ∧ Inc H149 H ∧ f 1 = v1 ∧ f 2 = Value.pointer (some ⟨wa.heap.size, 0, none⟩) ∧ f 6 = v80 ∧ f 7 = Value.bool r74.2 ∧ f 8 = Value.pointer (some ⟨w86.heap.size, 0, none⟩) ∧ f 9 = v113 ∧ f 10 = v132 ∧ f 11 = Value.bool r126.2 ∧ f 58 = Value.bool (!r1765)) (by kernel_rfl) S150.sl ?_ ?_
        ·
          intro w165 r166
          have S167 := S150.call r166
          refine FA.take (i := 0) (l' := #[true, false, false, false, false]) rfl (by kernel_rfl) (by kernel_rfl) (by kernel_rfl) (by kernel_rfl) S167.sl rfl rfl rfl (fun w' hw' => (E.load k159 (run_loadA Tryz.isAgg30 Tryz.sizeOf30 ((at106.mono (sgI.tr ((r120.run.inc.tr r137.run.inc).tr i151))).now hw') rfl))) ?_
          refine FA.take (i := 1) (l' := #[true, true, false, false, false]) rfl (by kernel_rfl) (by kernel_rfl) (by kernel_rfl) (by kernel_rfl) S167.sl rfl rfl rfl (fun w' hw' => (E.load k156 (run_loadA Tryz.isAgg24 Tryz.sizeOf24 ((at28.mono (sgI.tr (((((((r48.inc.tr r68.run.inc).tr r79.inc).tr r88.inc).tr i105).tr r120.run.inc).tr r137.run.inc).tr i151))).now hw') rfl))) ?_
          refine FA.all1 (i := 2) (by kernel_rfl) ?_
          ·
            refine FO.call (l' := #[true, true, true, false, false]) rfl (by kernel_rfl) rfl rfl rfl (E.call Tryz.call18 (A1 rfl)) (w_laws_toCnf S167.sl a0 v0_1 (p0_1.mono ((((((((i27.tr r48.inc).tr r68.run.inc).tr r79.inc).tr r88.inc).tr i105).tr r120.run.inc).tr r137.run.inc).tr i151)) hr1366) ?_
            rintro e w1368 ⟨H1367, v1371, rfl, r1370, ⟨c1374, ns1373⟩⟩
            refine ⟨_, rfl, ?_⟩
            have h1372 := ns1373.rsl
            have nv1375 : New H149 [v1371] := New.of_up S167.sl h1372.dom
            have S1369 := S167.call r1370
            have z1376 := r1370.bel.size
            have h1372 := h1372.mono (sg_of S1369.sl)
            have ns1373 := ns1373.mono (sg_of S1369.sl)
            refine ⟨(Sl.of_inc r1370.inc S1369.sl), ?_⟩
            refine FA.all1 (i := 3) (by kernel_rfl) ?_
            ·
              refine FO.call (l' := #[true, true, true, true, false]) rfl (by kernel_rfl) rfl rfl rfl (E.call Tryz.call22 (A2 rfl rfl)) (w_laws_eqCnf S1369.sl r83 v89 (h90.mono (sgI.tr ((((i105.tr r120.run.inc).tr r137.run.inc).tr i151).tr r1370.inc))) r1365 v1371 (h1372.mono sgI) hr1766) ?_
              rintro e w1767 ⟨rfl, r1768⟩
              refine ⟨_, rfl, ?_⟩
              have S1769 := S1369.call r1768
              have z1770 := r1768.bel.size
              refine ⟨(Sl.of_inc r1370.inc S1769.sl), ?_⟩
              refine FA.take (i := 4) (l' := #[true, true, true, true, true]) rfl (by kernel_rfl) (by kernel_rfl) (by kernel_rfl) (by kernel_rfl) (Sl.of_inc r1370.inc S1769.sl) rfl rfl rfl (fun w' hw' => (E.not rfl)) ?_
              exact FA.done (by kernel_rfl) ⟨_, S1769, r1370.inc, k155, k156, k157, k158, k159, k160, k161, k162, rfl⟩
        ·
          rintro f2970 w2969 ⟨H2966, S2967, i2968, k2971, k2972, k2973, k2974, k2975, k2976, k2977, k2978, k2979⟩
          rcases ifB hp with ⟨c2980, hp⟩ | ⟨c2980, hp⟩
          ·
            refine FW.condT k2979 c2980 ?_
            refine FW.seq ?_
            refine FW.region ?_
            refine FL.val rfl rfl rfl (E.assign (v := Value.bool false) rfl) ?_
            refine FL.nil ?_
            refine FW.ret ?_
            obtain rfl := Option.some.inj hp
            exact ⟨.inr rfl, res1 rfl rfl ⟨rfl, S2967.back⟩⟩
          ·
            refine FW.condF k2979 c2980 ?_
            refine FW.skip ?_
            refine FW.seq ?_
            refine FW.seq ?_
            refine FW.region ?_
            refine FL.val rfl rfl rfl (E.move k2976) ?_
            refine FL.val rfl rfl rfl (E.move k2971) ?_
            obtain ⟨r2981, hr2982, hp⟩ := bnd hp
            refine FL.call rfl rfl rfl (E.call Tryz.call43 (A1 rfl)) (w_laws_toResStepS S2967.sl v1 a1 (p1.mono (((((((((i27.tr r48.inc).tr r68.run.inc).tr r79.inc).tr r88.inc).tr i105).tr r120.run.inc).tr r137.run.inc).tr i151).tr i2968)) hr2982) ?_
            rintro e w2984 ⟨H2983, v2987, n2988, cs2989, rfl, r2986, els2990, nd2991⟩
            refine ⟨_, rfl, ?_⟩
            have nv2992 : New H2966 cs2989 := New.of_up S2967.sl els2990.dom
            obtain ⟨H2993, r2994, i2995, ns2998, nv2997⟩ := r2986.sealRowN (i := 0) (l' := []) rfl els2990 nd2991 (by decide) rfl
            have h2996 := ns2998.rsl
            have S2985 := S2967.call r2994.run
            have z2999 := r2994.run.bel.size
            have h2996 := h2996.mono (sg_of S2985.sl)
            have ns2998 := ns2998.mono (sg_of S2985.sl)
            obtain ⟨r3000, hr3001, hp⟩ := bnd hp
            refine FL.call rfl rfl rfl (E.call Tryz.call32 (A2 rfl rfl)) (w_laws_eqResStepS S2985.sl v113 r107 (h122.mono (sgI.tr (((r137.run.inc.tr i151).tr i2968).tr r2994.run.inc))) v2987 r2981 (h2996.mono sgI) hr3001) ?_
            rintro e w3002 ⟨rfl, r3003⟩
            refine ⟨_, rfl, ?_⟩
            have S3004 := S2985.call r3003
            have z3005 := r3003.bel.size
            refine FL.val rfl rfl rfl (E.not rfl) ?_
            refine FL.nil ?_
            rcases ifB hp with ⟨c3006, hp⟩ | ⟨c3006, hp⟩
            ·
              refine FW.condT rfl c3006 ?_
              refine FW.seq ?_
              refine FW.region ?_
              refine FL.val rfl rfl rfl (E.assign (v := Value.bool false) rfl) ?_
              refine FL.nil ?_
              refine FW.ret ?_
              obtain rfl := Option.some.inj hp
              exact ⟨.inr rfl, res1 rfl rfl ⟨rfl, S3004.back⟩⟩
            ·
              refine FW.condF rfl c3006 ?_
              refine FW.skip ?_
              refine FW.seq ?_
              refine FW.region ?_
              refine FL.val rfl rfl rfl (E.assign (v := Value.int .i64 1) rfl) ?_
              refine FL.nil ?_
              refine FW.seq ?_
              refine FW.region ?_
              refine FL.val rfl rfl rfl (E.load k2975 (run_loadA Tryz.isAgg30 Tryz.sizeOf30 ((at106.mono (sgI.tr ((((r120.run.inc.tr r137.run.inc).tr i151).tr i2968).tr r2994.run.inc))).now S3004.sl) rfl)) ?_
              refine FL.val rfl rfl rfl (E.move (v := Value.int .i64 1) rfl) ?_
              refine FL.call rfl rfl rfl (E.call Tryz.call24 (A2 rfl rfl)) (w_laws_markCnf S3004 hs r83 v89 c92 (ns91.mono (sg_up (by omega) (((((i105.tr r120.run.inc).tr r137.run.inc).tr i151).tr i2968).tr r2994.run.inc))) 1) ?_
              rintro e w3008 ⟨H3007, c3013, rfl, S3009, ns3015, hb3014, o3011⟩
              refine ⟨_, rfl, ?_⟩
              have o3012 := (ns91.mono (sg_mono (hi := w86.heap.size) (((((i105.tr r120.run.inc).tr r137.run.inc).tr i151).tr i2968).tr r2994.run.inc))).outside o3011
              have ns3015 := ns91.span (eL_loc eI_flat) (by omega) ns3015 hb3014
              have h3010 := ns3015.rsl
              have f3016 := at28.mono ((sg_mono (lo := wa.heap.size) (hi := wa.heap.size + 1) (((((((((r48.inc.tr r68.run.inc).tr r79.inc).tr r88.inc).tr i105).tr r120.run.inc).tr r137.run.inc).tr i151).tr i2968).tr r2994.run.inc)).tr (sg_keep o3012 (by omega)))
              have f3017 := h81.mono ((bw_mono (hi := w77.heap.size) ((((((r88.inc.tr i105).tr r120.run.inc).tr r137.run.inc).tr i151).tr i2968).tr r2994.run.inc)).tr (bw_keep o3012 (by omega)))
              have f3018 := at106.mono ((sg_mono (lo := w86.heap.size) (hi := w86.heap.size + 1) ((((r120.run.inc.tr r137.run.inc).tr i151).tr i2968).tr r2994.run.inc)).tr (sg_keep o3012 (by omega)))
              have f3019 := h122.mono ((sg_mono (lo := w99.heap.size) (hi := w110.heap.size) (((r137.run.inc.tr i151).tr i2968).tr r2994.run.inc)).tr (sg_keep o3012 (by omega)))
              have f3020 := ns124.mono ((sg_mono (lo := w99.heap.size) (hi := w110.heap.size) (((r137.run.inc.tr i151).tr i2968).tr r2994.run.inc)).tr (sg_keep o3012 (by omega)))
              have f3021 := h139.mono ((sg_mono (lo := w110.heap.size) (hi := w129.heap.size) ((i151.tr i2968).tr r2994.run.inc)).tr (sg_keep o3012 (by omega)))
              refine FL.val rfl rfl rfl (E.assign (v := Value.int .i64 ((PF.laws_markCnf r83 1).2)) rfl) ?_
              refine FL.nil ?_
              refine FW.seq ?_
              refine FW.region ?_
              refine FL.val rfl rfl rfl (E.move k2976) ?_
              refine FL.val rfl rfl rfl (E.move (v := Value.int .i64 ((PF.laws_markCnf r83 1).2)) rfl) ?_
              refine FL.call rfl rfl rfl (E.call Tryz.call33 (A2 rfl rfl)) (w_laws_markResStepS S3009 hs v113 r107 cs115 (f3020.mono (sg_up (by omega) (Inc.rfl _))) ((PF.laws_markCnf r83 1).2)) ?_
              rintro e w3023 ⟨H3022, c3028, rfl, S3024, ns3030, hb3029, o3026⟩
              refine ⟨_, rfl, ?_⟩
              have o3027 := (f3020.mono (sg_mono (hi := w110.heap.size) (Inc.rfl _))).outside o3026
              have ns3030 := f3020.span eResStep_loc (by omega) ns3030 hb3029
              have h3025 := ns3030.rsl
              have f3031 := f3016.mono ((sg_mono (lo := wa.heap.size) (hi := wa.heap.size + 1) (Inc.rfl _)).tr (sg_keep o3027 (by omega)))
              have f3032 := f3017.mono ((bw_mono (hi := w77.heap.size) (Inc.rfl _)).tr (bw_keep o3027 (by omega)))
              have f3033 := f3018.mono ((sg_mono (lo := w86.heap.size) (hi := w86.heap.size + 1) (Inc.rfl _)).tr (sg_keep o3027 (by omega)))
              have f3034 := h3010.mono ((sg_mono (lo := w77.heap.size) (hi := w86.heap.size) (Inc.rfl _)).tr (sg_keep o3027 (by omega)))
              have f3035 := ns3015.mono ((sg_mono (lo := w77.heap.size) (hi := w86.heap.size) (Inc.rfl _)).tr (sg_keep o3027 (by omega)))
              have f3036 := f3021.mono ((sg_mono (lo := w110.heap.size) (hi := w129.heap.size) (Inc.rfl _)).tr (sg_keep o3027 (by omega)))
              refine FL.val rfl rfl rfl (E.assign (v := Value.int .i64 ((PF.laws_markResStepS r107 ((PF.laws_markCnf r83 1).2)).2)) rfl) ?_
              refine FL.nil ?_
              refine FW.seq ?_
              refine FW.seq ?_
              refine FW.region ?_
              refine FL.val rfl rfl rfl (E.move (v := Value.int .i64 ((PF.laws_markResStepS r107 ((PF.laws_markCnf r83 1).2)).2)) rfl) ?_
              refine FL.val rfl rfl rfl (E.lss rfl rfl) ?_
              refine FL.val rfl rfl rfl (E.move (v := Value.bool (decide ((PF.laws_markResStepS r107 ((PF.laws_markCnf r83 1).2)).2 < 0))) rfl) ?_
              obtain ⟨t3043, hqt3043, hp⟩ := bnd hp
              refine FL.cut 5 (fun f w => ∃ H : GH, St Ha wa H w [] ∧ Inc H3022 H ∧ f 1 = v1 ∧ f 2 = Value.pointer (some ⟨wa.heap.size, 0, none⟩) ∧ f 6 = v80 ∧ f 7 = Value.bool r74.2 ∧ f 10 = v132 ∧ f 11 = Value.bool r126.2 ∧ f 77 = Value.bool t3043) ?_ ?_
              ·
                clear hp; have hp := hqt3043; clear hqt3043
                rcases ifB hp with ⟨c3049, hp⟩ | ⟨c3049, hp⟩
                ·
                  refine FL.skip (wF_no rfl rfl rfl c3049) rfl ?_
                  refine FL.skip (wF_no rfl rfl rfl c3049) rfl ?_
                  refine FL.skip (wF_no rfl rfl rfl c3049) rfl ?_
                  refine FL.skip (wF_no rfl rfl rfl c3049) rfl ?_
                  obtain rfl := Option.some.inj hp
                  refine FL.val rfl rfl rfl (E.pickT rfl c3049 rfl) ?_
                  exact FL.nil ⟨rfl, _, S3024, (Inc.rfl _), k2971, k2972, k2973, k2974, k2977, k2978, rfl⟩
                ·
                  refine FL.val (wF_yes rfl rfl rfl c3049) rfl rfl (E.move k2977) ?_
                  refine FL.val (wF_yes rfl rfl rfl c3049) rfl rfl (E.move k2973) ?_
                  obtain ⟨r3050, hr3051, hp⟩ := bnd hp
                  refine FL.call (wF_yes rfl rfl rfl c3049) rfl rfl (E.call Tryz.call48 (A2 rfl rfl)) (w_laws_eqIntS S3024.sl v132 r126.1 (f3036.mono sgI) v80 r74.1 (f3032.mono bwI) hr3051) ?_
                  rintro e w3052 ⟨rfl, r3053⟩
                  refine ⟨_, rfl, ?_⟩
                  have S3054 := S3024.call r3053
                  have z3055 := r3053.bel.size
                  refine FL.val (wF_yes rfl rfl rfl c3049) rfl rfl (E.not rfl) ?_
                  obtain rfl := Option.some.inj hp
                  refine FL.val rfl rfl rfl (E.pickF rfl c3049 rfl) ?_
                  exact FL.nil ⟨rfl, _, S3054, (Inc.rfl _), k2971, k2972, k2973, k2974, k2977, k2978, rfl⟩
              rintro f3048 w3047 ⟨H3044, S3045, i3046, k3056, k3057, k3058, k3059, k3060, k3061, k3062⟩
              refine FL.val rfl rfl rfl (E.move k3062) ?_
              refine FL.cut 4 (fun f w => ∃ H : GH, St Ha wa H w [] ∧ Inc H3044 H ∧ f 1 = v1 ∧ f 2 = Value.pointer (some ⟨wa.heap.size, 0, none⟩) ∧ f 6 = v80 ∧ f 7 = Value.bool r74.2 ∧ f 10 = v132 ∧ f 82 = Value.bool (bif t3043 then true else (!(r126.2 == r74.2)))) ?_ ?_
              ·
                rcases bcase t3043 with c3069 | c3069
                ·
                  refine FL.skip (wF_no rfl rfl rfl c3069) rfl ?_
                  refine FL.skip (wF_no rfl rfl rfl c3069) rfl ?_
                  refine FL.skip (wF_no rfl rfl rfl c3069) rfl ?_
                  refine FL.val rfl rfl rfl (E.pickT rfl c3069 rfl) ?_
                  exact FL.nil ⟨rfl, _, S3045, (Inc.rfl _), k3056, k3057, k3058, k3059, k3060, (congrArg Value.bool (bifT c3069).symm)⟩
                ·
                  refine FL.val (wF_yes rfl rfl rfl c3069) rfl rfl (E.move k3061) ?_
                  refine FL.val (wF_yes rfl rfl rfl c3069) rfl rfl (E.move k3059) ?_
                  refine FL.val (wF_yes rfl rfl rfl c3069) rfl rfl (E.neqB Tryz.runUnderlying4 rfl rfl) ?_
                  refine FL.val rfl rfl rfl (E.pickF rfl c3069 rfl) ?_
                  exact FL.nil ⟨rfl, _, S3045, (Inc.rfl _), k3056, k3057, k3058, k3059, k3060, (congrArg Value.bool (bifF c3069).symm)⟩
              rintro f3068 w3067 ⟨H3064, S3065, i3066, k3070, k3071, k3072, k3073, k3074, k3075⟩
              refine FL.nil ?_
              rcases ifB hp with ⟨c3076, hp⟩ | ⟨c3076, hp⟩
              ·
                refine FW.condT k3075 c3076 ?_
                refine FW.seq ?_
                refine FW.region ?_
                refine FL.val rfl rfl rfl (E.assign (v := Value.bool false) rfl) ?_
                refine FL.nil ?_
                refine FW.ret ?_
                obtain rfl := Option.some.inj hp
                exact ⟨.inr rfl, res1 rfl rfl ⟨rfl, S3065.back⟩⟩
              ·
                refine FW.condF k3075 c3076 ?_
                refine FW.skip ?_
                refine FW.seq ?_
                refine FW.region ?_
                refine FL.val rfl rfl rfl (E.assign (v := Value.int .i64 1) rfl) ?_
                refine FL.nil ?_
                refine FW.seq ?_
                refine FW.region ?_
                refine FL.val rfl rfl rfl (E.move k3074) ?_
                refine FL.val rfl rfl rfl (E.move (v := Value.int .i64 1) rfl) ?_
                refine FL.call rfl rfl rfl (E.call Tryz.call58 (A2 rfl rfl)) (w_laws_markIntS S3065 hs v132 r126.1 (f3036.mono (sg_up (by omega) (i3046.tr i3066))) 1) ?_
                rintro e w3078 ⟨H3077, rfl, S3079, h3080, o3081⟩
                refine ⟨_, rfl, ?_⟩
                have o3082 := (f3036.mono (sg_mono (hi := w129.heap.size) (i3046.tr i3066))).outside o3081
                have h3080 := f3036.span eI_flat (by omega) h3080
                have f3083 := f3031.mono ((sg_mono (lo := wa.heap.size) (hi := wa.heap.size + 1) (i3046.tr i3066)).tr (sg_keep o3082 (by omega)))
                have f3084 := f3032.mono ((bw_mono (hi := w77.heap.size) (i3046.tr i3066)).tr (bw_keep o3082 (by omega)))
                refine FL.val rfl rfl rfl (E.assign (v := Value.int .i64 ((PF.laws_markIntS r126.1 1).2)) rfl) ?_
                refine FL.nil ?_
                refine FW.seq ?_
                refine FW.region ?_
                refine FL.val rfl rfl rfl (E.assign (v := Value.int .i64 1) rfl) ?_
                refine FL.nil ?_
                refine FW.seq ?_
                refine FW.region ?_
                refine FL.val rfl rfl rfl (E.move k3074) ?_
                refine FL.val rfl rfl rfl (E.move (v := Value.int .i64 1) rfl) ?_
                obtain ⟨r3085, hr3086, hp⟩ := bnd hp
                refine FL.call rfl rfl rfl (E.call Tryz.call59 (A2 rfl rfl)) (w_laws_heldIntS S3079.sl v132 ((PF.laws_markIntS r126.1 1).1) (h3080.mono sgI) 1 hr3086) ?_
                rintro e w3087 ⟨rfl, r3088⟩
                refine ⟨_, rfl, ?_⟩
                have S3089 := S3079.call r3088
                have z3090 := r3088.bel.size
                refine FL.val rfl rfl rfl (E.assign (v := Value.int .i64 r3085) rfl) ?_
                refine FL.nil ?_
                refine FW.seq ?_
                refine FW.seq ?_
                refine FW.region ?_
                refine FL.val rfl rfl rfl (E.move (v := Value.int .i64 r3085) rfl) ?_
                refine FL.val rfl rfl rfl (E.lss rfl rfl) ?_
                refine FL.nil ?_
                rcases ifB hp with ⟨c3091, hp⟩ | ⟨c3091, hp⟩
                ·
                  refine FW.condT rfl c3091 ?_
                  refine FW.seq ?_
                  refine FW.region ?_
                  refine FL.val rfl rfl rfl (E.assign (v := Value.bool false) rfl) ?_
                  refine FL.nil ?_
                  refine FW.ret ?_
                  obtain rfl := Option.some.inj hp
                  exact ⟨.inr rfl, res1 rfl rfl ⟨rfl, S3089.back⟩⟩
                ·
                  refine FW.condF rfl c3091 ?_
                  refine FW.skip ?_
                  refine FW.seq ?_
                  refine FW.seq ?_
                  refine FW.region ?_
                  refine FL.val rfl rfl rfl (E.move (v := Value.int .i64 r3085) rfl) ?_
                  refine FL.val rfl rfl rfl (E.move (v := Value.int .i64 ((PF.laws_markIntS r126.1 1).2)) rfl) ?_
                  refine FL.val rfl rfl rfl (E.neq rfl rfl) ?_
                  refine FL.nil ?_
                  rcases ifB hp with ⟨c3092, hp⟩ | ⟨c3092, hp⟩
                  ·
                    refine FW.condT rfl c3092 ?_
                    refine FW.seq ?_
                    refine FW.region ?_
                    refine FL.val rfl rfl rfl (E.assign (v := Value.bool false) rfl) ?_
                    refine FL.nil ?_
                    refine FW.ret ?_
                    obtain rfl := Option.some.inj hp
                    exact ⟨.inr rfl, res1 rfl rfl ⟨rfl, S3089.back⟩⟩
                  ·
                    refine FW.condF rfl c3092 ?_
                    refine FW.skip ?_
                    refine FW.seq ?_
                    refine FW.region ?_
                    refine FL.val rfl rfl rfl (E.load k3071 (run_loadA Tryz.isAgg24 Tryz.sizeOf24 ((f3083.mono sgI).now S3089.sl) rfl)) ?_
                    obtain ⟨r3093, hr3094, hp⟩ := bnd hp
                    refine FL.call rfl rfl rfl (E.call Tryz.call18 (A1 rfl)) (w_laws_toCnf S3089.sl a0 v0_1 (p0_1.mono S3079.inc) hr3094) ?_
                    rintro e w3096 ⟨H3095, v3099, rfl, r3098, ⟨c3102, ns3101⟩⟩
                    refine ⟨_, rfl, ?_⟩
                    have h3100 := ns3101.rsl
                    have nv3103 : New H3077 [v3099] := New.of_up S3089.sl h3100.dom
                    have S3097 := S3089.call r3098
                    have z3104 := r3098.bel.size
                    have h3100 := h3100.mono (sg_of S3097.sl)
                    have ns3101 := ns3101.mono (sg_of S3097.sl)
                    refine FL.val rfl rfl rfl (E.move k3070) ?_
                    obtain ⟨r3105, hr3106, hp⟩ := bnd hp
                    refine FL.call rfl rfl rfl (E.call Tryz.call43 (A1 rfl)) (w_laws_toResStepS S3097.sl v1 a1 (p1.mono (S3079.inc.tr r3098.inc)) hr3106) ?_
                    rintro e w3108 ⟨H3107, v3111, n3112, cs3113, rfl, r3110, els3114, nd3115⟩
                    refine ⟨_, rfl, ?_⟩
                    have nv3116 : New H3095 cs3113 := New.of_up S3097.sl els3114.dom
                    obtain ⟨H3117, r3118, i3119, ns3122, nv3121⟩ := r3110.sealRowN (i := 0) (l' := []) rfl els3114 nd3115 (by decide) rfl
                    have h3120 := ns3122.rsl
                    have S3109 := S3097.call r3118.run
                    have z3123 := r3118.run.bel.size
                    have h3120 := h3120.mono (sg_of S3109.sl)
                    have ns3122 := ns3122.mono (sg_of S3109.sl)
                    obtain ⟨r3124, hr3125, hp⟩ := bnd hp
                    refine FL.call rfl rfl rfl (E.call Tryz.call57 (A2 rfl rfl)) (w_impl_UsedAxioms S3109.sl r3093 v3099 (h3100.mono (sgI.tr r3118.run.inc)) v3111 r3105 (h3120.mono sgI) hr3125) ?_
                    rintro e w3127 ⟨H3126, v3130, n3131, cs3132, rfl, r3129, els3133⟩
                    refine ⟨_, rfl, ?_⟩
                    obtain ⟨H3134, r3135, i3136, h3137, nv3138⟩ := r3129.sealRowU (i := 0) (l' := []) rfl els3133 (by decide) rfl
                    have S3128 := S3109.call r3135.run
                    have z3139 := r3135.run.bel.size
                    have h3137 := h3137.mono (sg_of S3128.sl)
                    refine FL.val rfl rfl rfl (E.move (v := Value.tuple #[v3130, Value.bool r3124.2]) rfl) ?_
                    refine FL.val rfl rfl rfl (E.extract (i := 0) rfl rfl) ?_
                    refine FL.val rfl rfl rfl (E.extract (i := 1) rfl rfl) ?_
                    refine FL.val rfl rfl rfl (E.assign (v := v3130) rfl) ?_
                    refine FL.val rfl rfl rfl (E.assign (v := Value.bool r3124.2) rfl) ?_
                    refine FL.nil ?_
                    refine FW.seq ?_
                    refine FW.seq ?_
                    refine FW.region ?_
                    refine FL.val rfl rfl rfl (E.move (v := v3130) rfl) ?_
                    refine FL.val rfl rfl rfl (E.move k3072) ?_
                    obtain ⟨r3140, hr3141, hp⟩ := bnd hp
                    refine FL.call rfl rfl rfl (E.call Tryz.call48 (A2 rfl rfl)) (w_laws_eqIntS S3128.sl v3130 r3124.1 (h3137.mono sgI) v80 r74.1 (f3084.mono (bwI.tr ((r3098.inc.tr r3118.run.inc).tr r3135.run.inc))) hr3141) ?_
                    rintro e w3142 ⟨rfl, r3143⟩
                    refine ⟨_, rfl, ?_⟩
                    have S3144 := S3128.call r3143
                    have z3145 := r3143.bel.size
                    refine FL.val rfl rfl rfl (E.not rfl) ?_
                    refine FL.val rfl rfl rfl (E.move (v := Value.bool (!r3140)) rfl) ?_
                    refine FL.cut 4 (fun f w => ∃ H : GH, St Ha wa H w [] ∧ Inc H3134 H ∧ f 10 = v132 ∧ f 13 = Value.int .i64 ((PF.laws_markIntS r126.1 1).2) ∧ f 110 = Value.bool (bif (!r3140) then true else (!(r3124.2 == r74.2)))) ?_ ?_
                    ·
                      rcases bcase (!r3140) with c3152 | c3152
                      ·
                        refine FL.skip (wF_no rfl rfl rfl c3152) rfl ?_
                        refine FL.skip (wF_no rfl rfl rfl c3152) rfl ?_
                        refine FL.skip (wF_no rfl rfl rfl c3152) rfl ?_
                        refine FL.val rfl rfl rfl (E.pickT rfl c3152 rfl) ?_
                        exact FL.nil ⟨rfl, _, S3144, (Inc.rfl _), k3074, rfl, (congrArg Value.bool (bifT c3152).symm)⟩
                      ·
                        refine FL.val (wF_yes rfl rfl rfl c3152) rfl rfl (E.move (v := Value.bool r3124.2) rfl) ?_
                        refine FL.val (wF_yes rfl rfl rfl c3152) rfl rfl (E.move k3073) ?_
                        refine FL.val (wF_yes rfl rfl rfl c3152) rfl rfl (E.neqB Tryz.runUnderlying4 rfl rfl) ?_
                        refine FL.val rfl rfl rfl (E.pickF rfl c3152 rfl) ?_
                        exact FL.nil ⟨rfl, _, S3144, (Inc.rfl _), k3074, rfl, (congrArg Value.bool (bifF c3152).symm)⟩
                    rintro f3151 w3150 ⟨H3147, S3148, i3149, k3153, k3154, k3155⟩
                    refine FL.nil ?_
                    rcases ifB hp with ⟨c3156, hp⟩ | ⟨c3156, hp⟩
                    ·
                      refine FW.condT k3155 c3156 ?_
                      refine FW.seq ?_
                      refine FW.region ?_
                      refine FL.val rfl rfl rfl (E.assign (v := Value.bool false) rfl) ?_
                      refine FL.nil ?_
                      refine FW.ret ?_
                      obtain rfl := Option.some.inj hp
                      exact ⟨.inr rfl, res1 rfl rfl ⟨rfl, S3148.back⟩⟩
                    ·
                      refine FW.condF k3155 c3156 ?_
                      refine FW.skip ?_
                      refine FW.seq ?_
                      refine FW.region ?_
                      refine FL.val rfl rfl rfl (E.assign (v := Value.int .i64 1) rfl) ?_
                      refine FL.nil ?_
                      refine FW.seq ?_
                      refine FW.region ?_
                      refine FL.val rfl rfl rfl (E.move k3153) ?_
                      refine FL.val rfl rfl rfl (E.move (v := Value.int .i64 1) rfl) ?_
                      obtain ⟨r3157, hr3158, hp⟩ := bnd hp
                      refine FL.call rfl rfl rfl (E.call Tryz.call59 (A2 rfl rfl)) (w_laws_heldIntS S3148.sl v132 ((PF.laws_markIntS r126.1 1).1) (h3080.mono (sgI.tr (((r3098.inc.tr r3118.run.inc).tr r3135.run.inc).tr i3149))) 1 hr3158) ?_
                      rintro e w3159 ⟨rfl, r3160⟩
                      refine ⟨_, rfl, ?_⟩
                      have S3161 := S3148.call r3160
                      have z3162 := r3160.bel.size
                      refine FL.val rfl rfl rfl (E.assign (v := Value.int .i64 r3157) rfl) ?_
                      refine FL.nil ?_
                      refine FW.seq ?_
                      refine FW.seq ?_
                      refine FW.region ?_
                      refine FL.val rfl rfl rfl (E.move (v := Value.int .i64 r3157) rfl) ?_
                      refine FL.val rfl rfl rfl (E.lss rfl rfl) ?_
                      refine FL.nil ?_
                      rcases ifB hp with ⟨c3163, hp⟩ | ⟨c3163, hp⟩
                      ·
                        refine FW.condT rfl c3163 ?_
                        refine FW.seq ?_
                        refine FW.region ?_
                        refine FL.val rfl rfl rfl (E.assign (v := Value.bool false) rfl) ?_
                        refine FL.nil ?_
                        refine FW.ret ?_
                        obtain rfl := Option.some.inj hp
                        exact ⟨.inr rfl, res1 rfl rfl ⟨rfl, S3161.back⟩⟩
                      ·
                        refine FW.condF rfl c3163 ?_
                        refine FW.skip ?_
                        refine FW.seq ?_
                        refine FW.seq ?_
                        refine FW.region ?_
                        refine FL.val rfl rfl rfl (E.move (v := Value.int .i64 r3157) rfl) ?_
                        refine FL.val rfl rfl rfl (E.move k3154) ?_
                        refine FL.val rfl rfl rfl (E.neq rfl rfl) ?_
                        refine FL.nil ?_
                        rcases ifB hp with ⟨c3164, hp⟩ | ⟨c3164, hp⟩
                        ·
                          refine FW.condT rfl c3164 ?_
                          refine FW.seq ?_
                          refine FW.region ?_
                          refine FL.val rfl rfl rfl (E.assign (v := Value.bool false) rfl) ?_
                          refine FL.nil ?_
                          refine FW.ret ?_
                          obtain rfl := Option.some.inj hp
                          exact ⟨.inr rfl, res1 rfl rfl ⟨rfl, S3161.back⟩⟩
                        ·
                          refine FW.condF rfl c3164 ?_
                          refine FW.skip ?_
                          refine FW.seq ?_
                          refine FW.region ?_
                          refine FL.val rfl rfl rfl (E.assign (v := Value.bool true) rfl) ?_
                          refine FL.nil ?_
                          refine FW.ret ?_
                          obtain rfl := Option.some.inj hp
                          exact ⟨.inr rfl, res1 rfl rfl ⟨rfl, S3161.back⟩⟩

end Go.Proofs
