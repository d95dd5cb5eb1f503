/- Part of the walks and plain laws behind the claim: it proves helpers, under no condition beyond their own. -/
import Derived.Test.YtjpjbfbloplacaaFcWk3
set_option linter.unusedVariables false
set_option maxRecDepth 100000
namespace Go.Proofs
open Go.Mr Go.Pu Go.PF Go.RowKit

set_option maxHeartbeats 4000000 in
theorem w_laws_FnExactFindCertificate {Ha : GH} {wa : World} (hs : Sl Ha wa) (a0 : Int) (a1 : Cnf) (v1_1 : Value) (p1_1 : RSl Ha (eL eI 1) 1 v1_1 a1.clauses) (a2 : Int) {r : Bool} (hp : (PF.laws_FnExactFindCertificate a0 a1 a2) = some r) :
  Calls Try.prog 3 #[Value.int .i64 a0, Value.agg #[Value.int .i64 a1.vars, v1_1], Value.int .i64 a2] wa (Sc Ha wa (Value.bool r)) := by
 unfold PF.laws_FnExactFindCertificate at hp
 have S0 := St.init hs
 refine calls_go (N := 106) (args := [Value.int .i64 a0, Value.agg #[Value.int .i64 a1.vars, v1_1], Value.int .i64 a2]) Try.func3 rfl rfl rfl ?_
 refine FW.seq (FW.region ?_)
 obtain ⟨w21, run22, S23, z24⟩ := S0.boxB (P := Try.prog) 24 [Value.int .i64 a1.vars, v1_1] (v := Value.agg #[Value.int .i64 a1.vars, v1_1]) rfl (ones_cons rfl (ones_cons p1_1.one ones_nil))
 refine FL.v (E.box rfl run22) ?_
 obtain ⟨H25, S26, i27, at28⟩ := S23.sealBoxB (i := 0) (l' := []) rfl rfl
 refine FL.v (E.assign (v := Value.bool false) rfl) ?_
 refine FL.nil (FW.seq (FW.region ?_))
 refine FL.v (E.assign (v := Value.int .i64 1048576) rfl) ?_
 refine FL.nil (FW.seq (FW.region ?_))
 refine FL.v (E.load rfl (run_loadA Try.isAgg24 Try.sizeOf24 ((at28.mono sgI).now S26.sl) rfl)) ?_
 refine FL.v (E.move (v := Value.int .i64 1048576) rfl) ?_
 obtain ⟨r29, hr30, hp⟩ := bnd hp
 refine FL.call rfl rfl rfl (E.call Try.call4 (A2 rfl rfl)) (w_laws_szCnf S26.sl a1 v1_1 (p1_1.mono i27) 1048576 hr30) ?_
 rintro e w31 ⟨rfl, r32⟩
 refine ⟨_, rfl, ?_⟩
 have S33 := S26.call r32
 have z34 := r32.bel.size
 refine FL.v (E.assign (v := Value.int .i64 r29) rfl) ?_
 refine FL.nil (FW.seq (FW.seq (FW.region ?_)))
 refine FL.v (E.move (v := Value.int .i64 r29) rfl) ?_
 refine FL.v (E.lss rfl rfl) ?_
 refine FL.nil ?_
 rcases ifB hp with ⟨c35, hp⟩ | ⟨c35, hp⟩
 ·
  refine FW.condT rfl c35 ?_
  refine FW.seq (FW.region ?_)
  refine FL.v (E.assign (v := Value.bool true) rfl) ?_
  refine FL.nil ?_
  refine FW.ret ?_
  obtain rfl := Option.some.inj hp
  exact ⟨.inr rfl, res1 rfl rfl ⟨rfl, S33.back⟩⟩
 ·
  refine FW.condF rfl c35 ?_
  refine FW.skip (FW.seq (FW.region ?_))
  refine FL.v (E.move (v := Value.int .i64 a0) rfl) ?_
  refine FL.v (E.load rfl (run_loadA Try.isAgg24 Try.sizeOf24 ((at28.mono sgI).now S33.sl) rfl)) ?_
  obtain ⟨r36, hr37, hp⟩ := bnd hp
  refine FL.call rfl rfl rfl (E.call Try.call6 (A1 rfl)) (w_laws_toCnf S33.sl a1 v1_1 (p1_1.mono i27) hr37) ?_
  rintro e w39 ⟨H38, v42, rfl, r41, ⟨c45, ns44⟩⟩
  refine ⟨_, rfl, ?_⟩
  have h43 := ns44.rsl
  have nv46 : New H25 [v42] := New.of_up S33.sl h43.dom
  have S40 := S33.call r41
  have z47 := r41.bel.size
  have h43 := h43.mono (sg_of S40.sl)
  have ns44 := ns44.mono (sg_of S40.sl)
  refine FL.v (E.move (v := Value.int .i64 a2) rfl) ?_
  obtain ⟨r48, hr49, hp⟩ := bnd hp
  refine FL.call rfl rfl rfl (E.call Try.call5 (A3 rfl rfl rfl)) (w_spec_FindCertificate S40.sl a0 r36 v42 (h43.mono sgI) a2 hr49) ?_
  rintro e w51 ⟨H50, v54, n55, cs56, rfl, r53, els57, nd58⟩
  refine ⟨_, rfl, ?_⟩
  have nv59 : New H38 cs56 := New.of_up S40.sl els57.dom
  obtain ⟨H60, r61, i62, ns65, nv64⟩ := r53.sealRowN (i := 0) (l' := []) rfl els57 nd58 (by decide) rfl
  have h63 := ns65.rsl
  have S52 := S40.call r61.run
  have z66 := r61.run.bel.size
  have h63 := h63.mono (sg_of S52.sl)
  have ns65 := ns65.mono (sg_of S52.sl)
  refine FL.v (E.move (v := Value.tuple #[v54, Value.bool r48.2]) rfl) ?_
  refine FL.v (E.extract (i := 0) rfl rfl) ?_
  refine FL.v (E.extract (i := 1) rfl rfl) ?_
  refine FL.v (E.assign (v := v54) rfl) ?_
  refine FL.v (E.assign (v := Value.bool r48.2) rfl) ?_
  refine FL.nil (FW.seq (FW.region ?_))
  refine FL.v (E.load rfl (run_loadA Try.isAgg24 Try.sizeOf24 ((at28.mono (sgI.tr (r41.inc.tr r61.run.inc))).now S52.sl) rfl)) ?_
  obtain ⟨r67, hr68, hp⟩ := bnd hp
  refine FL.call rfl rfl rfl (E.call Try.call6 (A1 rfl)) (w_laws_toCnf S52.sl a1 v1_1 (p1_1.mono ((i27.tr r41.inc).tr r61.run.inc)) hr68) ?_
  rintro e w70 ⟨H69, v73, rfl, r72, ⟨c76, ns75⟩⟩
  refine ⟨_, rfl, ?_⟩
  have h74 := ns75.rsl
  have nv77 : New H60 [v73] := New.of_up S52.sl h74.dom
  have S71 := S52.call r72
  have z78 := r72.bel.size
  have h74 := h74.mono (sg_of S71.sl)
  have ns75 := ns75.mono (sg_of S71.sl)
  obtain ⟨w79, run80, S81, z82⟩ := S71.allocB (P := Try.prog) 29 [Value.int .i64 0, Value.slice none 0 0] Try.zeroValue29 rfl (ones_cons rfl (ones_cons rfl ones_nil))
  refine FL.v (E.alloc run80) ?_
  obtain ⟨w83, run84, S85, z86⟩ := S81.store0B (P := Try.prog) (t := 29) (i := 0) (cs' := [Value.int .i64 r67.vars, v73]) (l' := [.box w70.heap.size 29 [Value.int .i64 r67.vars, v73]]) (v := Value.agg #[Value.int .i64 r67.vars, v73]) (c := [Value.int .i64 r67.vars, v73]) rfl Try.sizeOf29 rfl rfl (ones_cons rfl (ones_cons h74.one ones_nil)) (Nat.le_of_ble_eq_true rfl) rfl rfl
  refine FL.act rfl rfl (E.store rfl rfl run84) ?_
  obtain ⟨H87, S88, i89, at90⟩ := S85.sealBoxB (i := 0) (l' := []) rfl rfl
  refine FL.nil (FW.seq (FW.region ?_))
  refine FL.v (E.move (v := Value.int .i64 a0) rfl) ?_
  refine FL.v (E.load rfl (run_loadA Try.isAgg29 Try.sizeOf29 ((at90.mono sgI).now S88.sl) rfl)) ?_
  refine FL.v (E.move (v := Value.int .i64 a2) rfl) ?_
  obtain ⟨r91, hr92, hp⟩ := bnd hp
  refine FL.call rfl rfl rfl (E.call Try.call7 (A3 rfl rfl rfl)) (w_impl_FindCertificate S88.sl a0 r67 v73 (h74.mono (sgI.tr i89)) a2 hr92) ?_
  rintro e w94 ⟨H93, v97, n98, cs99, rfl, r96, els100, nd101⟩
  refine ⟨_, rfl, ?_⟩
  have nv102 : New H87 cs99 := New.of_up S88.sl els100.dom
  obtain ⟨H103, r104, i105, ns108, nv107⟩ := r96.sealRowN (i := 0) (l' := []) rfl els100 nd101 (by decide) rfl
  have h106 := ns108.rsl
  have S95 := S88.call r104.run
  have z109 := r104.run.bel.size
  have h106 := h106.mono (sg_of S95.sl)
  have ns108 := ns108.mono (sg_of S95.sl)
  refine FL.v (E.move (v := Value.tuple #[v97, Value.bool r91.2]) rfl) ?_
  refine FL.v (E.extract (i := 0) rfl rfl) ?_
  refine FL.v (E.extract (i := 1) rfl rfl) ?_
  refine FL.v (E.assign (v := v97) rfl) ?_
  refine FL.v (E.assign (v := Value.bool r91.2) rfl) ?_
  refine FL.nil (FW.seq (FW.seq (FW.region ?_)))
  refine FL.v (E.move (v := v97) rfl) ?_
  refine FL.v (E.move (v := v54) rfl) ?_
  obtain ⟨r110, hr111, hp⟩ := bnd hp
  refine FL.call rfl rfl rfl (E.call Try.call8 (A2 rfl rfl)) (w_laws_eqTermSS S95.sl v97 r91.1 (h106.mono sgI) v54 r48.1 (h63.mono (sgI.tr ((r72.inc.tr i89).tr r104.run.inc))) hr111) ?_
  rintro e w112 ⟨rfl, r113⟩
  refine ⟨_, rfl, ?_⟩
  have S114 := S95.call r113
  have z115 := r113.bel.size
  refine FL.v (E.not rfl) ?_
  refine FL.v (E.move (v := Value.bool (!r110)) rfl) ?_
  refine FL.cut 4 (fun f w => ∃ H : GH, St Ha wa H w [] ∧ Inc H103 H ∧ f 0 = Value.int .i64 a0 ∧ f 2 = Value.int .i64 a2 ∧ f 4 = Value.pointer (some ⟨wa.heap.size, 0, none⟩) ∧ f 8 = v54 ∧ f 9 = Value.bool r48.2 ∧ f 10 = Value.pointer (some ⟨w70.heap.size, 0, none⟩) ∧ f 11 = v97 ∧ f 12 = Value.bool r91.2 ∧ f 48 = Value.bool (bif (!r110) then true else (!(r91.2 == r48.2)))) ?_ ?_
  ·
   rcases bcase (!r110) with c122 | c122
   ·
    refine FL.skip (wF_no rfl rfl rfl c122) rfl ?_
    refine FL.skip (wF_no rfl rfl rfl c122) rfl ?_
    refine FL.skip (wF_no rfl rfl rfl c122) rfl ?_
    refine FL.v (E.pickT rfl c122 rfl) ?_
    exact FL.nil ⟨rfl, _, S114, (Inc.rfl _), rfl, rfl, rfl, rfl, rfl, rfl, rfl, rfl, (congrArg Value.bool (bifT c122).symm)⟩
   ·
    refine FL.val (wF_yes rfl rfl rfl c122) rfl rfl (E.move (v := Value.bool r91.2) rfl) ?_
    refine FL.val (wF_yes rfl rfl rfl c122) rfl rfl (E.move (v := Value.bool r48.2) rfl) ?_
    refine FL.val (wF_yes rfl rfl rfl c122) rfl rfl (E.neqB Try.runUnderlying4 rfl rfl) ?_
    refine FL.v (E.pickF rfl c122 rfl) ?_
    exact FL.nil ⟨rfl, _, S114, (Inc.rfl _), rfl, rfl, rfl, rfl, rfl, rfl, rfl, rfl, (congrArg Value.bool (bifF c122).symm)⟩
  rintro f121 w120 ⟨H117, S118, i119, k123, k124, k125, k126, k127, k128, k129, k130, k131⟩
  refine FL.nil ?_
  rcases ifB hp with ⟨c132, hp⟩ | ⟨c132, hp⟩
  ·
   refine FW.condT k131 c132 ?_
   refine FW.seq (FW.region ?_)
   refine FL.v (E.assign (v := Value.bool false) rfl) ?_
   refine FL.nil ?_
   refine FW.ret ?_
   obtain rfl := Option.some.inj hp
   exact ⟨.inr rfl, res1 rfl rfl ⟨rfl, S118.back⟩⟩
  ·
   refine FW.condF k131 c132 ?_
   refine FW.skip (FW.seq (FW.seq ?_))
   obtain ⟨r116, hr136, hp⟩ := bnd hp
   obtain ⟨r147, hr148, hp⟩ := bnd hp
   refine FW.drawB (Sl H117) (fun f w => ∃ H : GH, St Ha wa H w [] ∧ Inc H117 H ∧ f 0 = Value.int .i64 a0 ∧ f 2 = Value.int .i64 a2 ∧ f 4 = Value.pointer (some ⟨wa.heap.size, 0, none⟩) ∧ f 8 = v54 ∧ f 9 = Value.bool r48.2 ∧ f 10 = Value.pointer (some ⟨w70.heap.size, 0, none⟩) ∧ f 11 = v97 ∧ f 12 = Value.bool r91.2 ∧ f 53 = Value.bool (!r147)) (by kernel_rfl) S118.sl ?_ ?_
   ·
    intro w133 r134
    have S135 := S118.call r134
    refine FB.t (i := 0) (bs 5 1) rfl (SP.nil S135.sl) rfl (fun w' hw' => (E.load k128 (run_loadA Try.isAgg29 Try.sizeOf29 ((at90.mono (sgI.tr (r104.run.inc.tr i119))).now hw') rfl))) ?_
    refine FB.t (i := 1) (bs 5 3) rfl (SP.nil S135.sl) rfl (fun w' hw' => (E.load k125 (run_loadA Try.isAgg24 Try.sizeOf24 ((at28.mono (sgI.tr (((((r41.inc.tr r61.run.inc).tr r72.inc).tr i89).tr r104.run.inc).tr i119))).now hw') rfl))) ?_
    refine FB.all1 (i := 2) (by kernel_rfl) ?_
    ·
     refine FC.call (l' := (bs 5 7)) rfl (by kernel_rfl) rfl rfl rfl (E.call Try.call6 (A1 rfl)) (w_laws_toCnf S135.sl a1 v1_1 (p1_1.mono ((((((i27.tr r41.inc).tr r61.run.inc).tr r72.inc).tr i89).tr r104.run.inc).tr i119)) hr136) ?_
     rintro e w138 ⟨H137, v141, rfl, r140, ⟨c144, ns143⟩⟩
     refine ⟨_, rfl, ?_⟩
     have h142 := ns143.rsl
     have nv145 : New H117 [v141] := New.of_up S135.sl h142.dom
     have S139 := S135.call r140
     have z146 := r140.bel.size
     have h142 := h142.mono (sg_of S139.sl)
     have ns143 := ns143.mono (sg_of S139.sl)
     refine ⟨(SP.nil (Sl.of_inc r140.inc S139.sl)), ?_⟩
     refine FB.all1 (i := 3) (by kernel_rfl) ?_
     ·
      refine FC.call (l' := (bs 5 15)) rfl (by kernel_rfl) rfl rfl rfl (E.call Try.call9 (A2 rfl rfl)) (w_laws_eqCnf S139.sl r67 v73 (h74.mono (sgI.tr (((i89.tr r104.run.inc).tr i119).tr r140.inc))) r116 v141 (h142.mono sgI) hr148) ?_
      rintro e w149 ⟨rfl, r150⟩
      refine ⟨_, rfl, ?_⟩
      have S151 := S139.call r150
      have z152 := r150.bel.size
      refine ⟨(SP.nil (Sl.of_inc r140.inc S151.sl)), ?_⟩
      refine FB.t (i := 4) (bs 5 31) rfl (SP.nil (Sl.of_inc r140.inc S151.sl)) rfl (fun w' hw' => (E.not rfl)) ?_
      exact FB.done (by kernel_rfl) ⟨_, S151, r140.inc, k123, k124, k125, k126, k127, k128, k129, k130, rfl⟩
   ·
    rintro f157 w156 ⟨H153, S154, i155, k158, k159, k160, k161, k162, k163, k164, k165, k166⟩
    rcases ifB hp with ⟨c167, hp⟩ | ⟨c167, hp⟩
    ·
     refine FW.condT k166 c167 ?_
     refine FW.seq (FW.region ?_)
     refine FL.v (E.assign (v := Value.bool false) rfl) ?_
     refine FL.nil ?_
     refine FW.ret ?_
     obtain rfl := Option.some.inj hp
     exact ⟨.inr rfl, res1 rfl rfl ⟨rfl, S154.back⟩⟩
    ·
     refine FW.condF k166 c167 ?_
     refine FW.skip (FW.seq (FW.region ?_))
     refine FL.v (E.assign (v := Value.int .i64 1) rfl) ?_
     refine FL.nil (FW.seq (FW.region ?_))
     refine FL.v (E.load k163 (run_loadA Try.isAgg29 Try.sizeOf29 ((at90.mono (sgI.tr ((r104.run.inc.tr i119).tr i155))).now S154.sl) rfl)) ?_
     refine FL.v (E.move (v := Value.int .i64 1) rfl) ?_
     refine FL.call rfl rfl rfl (E.call Try.call10 (A2 rfl rfl)) (w_laws_markCnf S154 hs r67 v73 c76 (ns75.mono (sg_up (by omega) (((i89.tr r104.run.inc).tr i119).tr i155))) 1) ?_
     rintro e w169 ⟨H168, c174, rfl, S170, ns176, hb175, o172⟩
     refine ⟨_, rfl, ?_⟩
     have o173 := (ns75.mono (sg_mono (hi := w70.heap.size) (((i89.tr r104.run.inc).tr i119).tr i155))).outside o172
     have ns176 := ns75.span (eL_loc eI_flat) (by omega) ns176 hb175
     have h171 := ns176.rsl
     have f177 := at28.mono ((sg_mono (lo := wa.heap.size) (hi := wa.heap.size + 1) ((((((r41.inc.tr r61.run.inc).tr r72.inc).tr i89).tr r104.run.inc).tr i119).tr i155)).tr (sg_keep o173 (by omega)))
     have f178 := h63.mono ((sg_mono (lo := w39.heap.size) (hi := w51.heap.size) ((((r72.inc.tr i89).tr r104.run.inc).tr i119).tr i155)).tr (sg_keep o173 (by omega)))
     have f179 := ns65.mono ((sg_mono (lo := w39.heap.size) (hi := w51.heap.size) ((((r72.inc.tr i89).tr r104.run.inc).tr i119).tr i155)).tr (sg_keep o173 (by omega)))
     have f180 := at90.mono ((sg_mono (lo := w70.heap.size) (hi := w70.heap.size + 1) ((r104.run.inc.tr i119).tr i155)).tr (sg_keep o173 (by omega)))
     have f181 := h106.mono ((sg_mono (lo := w83.heap.size) (hi := w94.heap.size) (i119.tr i155)).tr (sg_keep o173 (by omega)))
     have f182 := ns108.mono ((sg_mono (lo := w83.heap.size) (hi := w94.heap.size) (i119.tr i155)).tr (sg_keep o173 (by omega)))
     refine FL.v (E.assign (v := Value.int .i64 ((PF.laws_markCnf r67 1).2)) rfl) ?_
     refine FL.nil (FW.seq (FW.seq (FW.region ?_)))
     refine FL.v (E.move (v := Value.int .i64 ((PF.laws_markCnf r67 1).2)) rfl) ?_
     refine FL.v (E.lss rfl rfl) ?_
     refine FL.v (E.move (v := Value.bool (decide ((PF.laws_markCnf r67 1).2 < 0))) rfl) ?_
     obtain ⟨t183, hqt183, hp⟩ := bnd hp
     refine FL.cut 5 (fun f w => ∃ H : GH, St Ha wa H w [] ∧ Inc H168 H ∧ f 0 = Value.int .i64 a0 ∧ f 2 = Value.int .i64 a2 ∧ f 4 = Value.pointer (some ⟨wa.heap.size, 0, none⟩) ∧ f 8 = v54 ∧ f 9 = Value.bool r48.2 ∧ f 11 = v97 ∧ f 12 = Value.bool r91.2 ∧ f 64 = Value.bool t183) ?_ ?_
     ·
      clear hp; have hp := hqt183; clear hqt183
      rcases ifB hp with ⟨c189, hp⟩ | ⟨c189, hp⟩
      ·
       refine FL.skip (wF_no rfl rfl rfl c189) rfl ?_
       refine FL.skip (wF_no rfl rfl rfl c189) rfl ?_
       refine FL.skip (wF_no rfl rfl rfl c189) rfl ?_
       refine FL.skip (wF_no rfl rfl rfl c189) rfl ?_
       obtain rfl := Option.some.inj hp
       refine FL.v (E.pickT rfl c189 rfl) ?_
       exact FL.nil ⟨rfl, _, S170, (Inc.rfl _), k158, k159, k160, k161, k162, k164, k165, rfl⟩
      ·
       refine FL.val (wF_yes rfl rfl rfl c189) rfl rfl (E.move k164) ?_
       refine FL.val (wF_yes rfl rfl rfl c189) rfl rfl (E.move k161) ?_
       obtain ⟨r190, hr191, hp⟩ := bnd hp
       refine FL.call (wF_yes rfl rfl rfl c189) rfl rfl (E.call Try.call8 (A2 rfl rfl)) (w_laws_eqTermSS S170.sl v97 r91.1 (f181.mono sgI) v54 r48.1 (f178.mono sgI) hr191) ?_
       rintro e w192 ⟨rfl, r193⟩
       refine ⟨_, rfl, ?_⟩
       have S194 := S170.call r193
       have z195 := r193.bel.size
       refine FL.val (wF_yes rfl rfl rfl c189) rfl rfl (E.not rfl) ?_
       obtain rfl := Option.some.inj hp
       refine FL.v (E.pickF rfl c189 rfl) ?_
       exact FL.nil ⟨rfl, _, S194, (Inc.rfl _), k158, k159, k160, k161, k162, k164, k165, rfl⟩
     rintro f188 w187 ⟨H184, S185, i186, k196, k197, k198, k199, k200, k201, k202, k203⟩
     refine FL.v (E.move k203) ?_
     refine FL.cut 4 (fun f w => ∃ H : GH, St Ha wa H w [] ∧ Inc H184 H ∧ f 0 = Value.int .i64 a0 ∧ f 2 = Value.int .i64 a2 ∧ f 4 = Value.pointer (some ⟨wa.heap.size, 0, none⟩) ∧ f 8 = v54 ∧ f 9 = Value.bool r48.2 ∧ f 11 = v97 ∧ f 69 = Value.bool (bif t183 then true else (!(r91.2 == r48.2)))) ?_ ?_
     ·
      rcases bcase t183 with c209 | c209
      ·
       refine FL.skip (wF_no rfl rfl rfl c209) rfl ?_
       refine FL.skip (wF_no rfl rfl rfl c209) rfl ?_
       refine FL.skip (wF_no rfl rfl rfl c209) rfl ?_
       refine FL.v (E.pickT rfl c209 rfl) ?_
       exact FL.nil ⟨rfl, _, S185, (Inc.rfl _), k196, k197, k198, k199, k200, k201, (congrArg Value.bool (bifT c209).symm)⟩
      ·
       refine FL.val (wF_yes rfl rfl rfl c209) rfl rfl (E.move k202) ?_
       refine FL.val (wF_yes rfl rfl rfl c209) rfl rfl (E.move k200) ?_
       refine FL.val (wF_yes rfl rfl rfl c209) rfl rfl (E.neqB Try.runUnderlying4 rfl rfl) ?_
       refine FL.v (E.pickF rfl c209 rfl) ?_
       exact FL.nil ⟨rfl, _, S185, (Inc.rfl _), k196, k197, k198, k199, k200, k201, (congrArg Value.bool (bifF c209).symm)⟩
     rintro f208 w207 ⟨H204, S205, i206, k210, k211, k212, k213, k214, k215, k216⟩
     refine FL.nil ?_
     rcases ifB hp with ⟨c217, hp⟩ | ⟨c217, hp⟩
     ·
      refine FW.condT k216 c217 ?_
      refine FW.seq (FW.region ?_)
      refine FL.v (E.assign (v := Value.bool false) rfl) ?_
      refine FL.nil ?_
      refine FW.ret ?_
      obtain rfl := Option.some.inj hp
      exact ⟨.inr rfl, res1 rfl rfl ⟨rfl, S205.back⟩⟩
     ·
      refine FW.condF k216 c217 ?_
      refine FW.skip (FW.seq (FW.region ?_))
      refine FL.v (E.assign (v := Value.int .i64 1) rfl) ?_
      refine FL.nil (FW.seq (FW.region ?_))
      refine FL.v (E.move k215) ?_
      refine FL.v (E.move (v := Value.int .i64 1) rfl) ?_
      refine FL.call rfl rfl rfl (E.call Try.call11 (A2 rfl rfl)) (w_laws_markTermSS S205 hs v97 r91.1 cs99 (f182.mono (sg_up (by omega) (i186.tr i206))) 1) ?_
      rintro e w219 ⟨H218, c224, rfl, S220, ns226, hb225, o222⟩
      refine ⟨_, rfl, ?_⟩
      have o223 := (f182.mono (sg_mono (hi := w94.heap.size) (i186.tr i206))).outside o222
      have ns226 := f182.span (eL_loc eTerm_flat) (by omega) ns226 hb225
      have h221 := ns226.rsl
      have f227 := f177.mono ((sg_mono (lo := wa.heap.size) (hi := wa.heap.size + 1) (i186.tr i206)).tr (sg_keep o223 (by omega)))
      have f228 := f178.mono ((sg_mono (lo := w39.heap.size) (hi := w51.heap.size) (i186.tr i206)).tr (sg_keep o223 (by omega)))
      have f229 := f179.mono ((sg_mono (lo := w39.heap.size) (hi := w51.heap.size) (i186.tr i206)).tr (sg_keep o223 (by omega)))
      refine FL.v (E.assign (v := Value.int .i64 ((PF.laws_markTermSS r91.1 1).2)) rfl) ?_
      refine FL.nil (FW.seq (FW.region ?_))
      refine FL.v (E.assign (v := Value.int .i64 1) rfl) ?_
      refine FL.nil (FW.seq (FW.region ?_))
      refine FL.v (E.move k215) ?_
      refine FL.v (E.move (v := Value.int .i64 1) rfl) ?_
      obtain ⟨r230, hr231, hp⟩ := bnd hp
      refine FL.call rfl rfl rfl (E.call Try.call12 (A2 rfl rfl)) (w_laws_heldTermSS S220.sl v97 ((PF.laws_markTermSS r91.1 1).1) (h221.mono sgI) 1 hr231) ?_
      rintro e w232 ⟨rfl, r233⟩
      refine ⟨_, rfl, ?_⟩
      have S234 := S220.call r233
      have z235 := r233.bel.size
      refine FL.v (E.assign (v := Value.int .i64 r230) rfl) ?_
      refine FL.nil (FW.seq (FW.seq (FW.region ?_)))
      refine FL.v (E.move (v := Value.int .i64 r230) rfl) ?_
      refine FL.v (E.lss rfl rfl) ?_
      refine FL.nil ?_
      rcases ifB hp with ⟨c236, hp⟩ | ⟨c236, hp⟩
      ·
       refine FW.condT rfl c236 ?_
       refine FW.seq (FW.region ?_)
       refine FL.v (E.assign (v := Value.bool false) rfl) ?_
       refine FL.nil ?_
       refine FW.ret ?_
       obtain rfl := Option.some.inj hp
       exact ⟨.inr rfl, res1 rfl rfl ⟨rfl, S234.back⟩⟩
      ·
       refine FW.condF rfl c236 ?_
       refine FW.skip (FW.seq (FW.seq (FW.region ?_)))
       refine FL.v (E.move (v := Value.int .i64 r230) rfl) ?_
       refine FL.v (E.move (v := Value.int .i64 ((PF.laws_markTermSS r91.1 1).2)) rfl) ?_
       refine FL.v (E.neq rfl rfl) ?_
       refine FL.nil ?_
       rcases ifB hp with ⟨c237, hp⟩ | ⟨c237, hp⟩
       ·
        refine FW.condT rfl c237 ?_
        refine FW.seq (FW.region ?_)
        refine FL.v (E.assign (v := Value.bool false) rfl) ?_
        refine FL.nil ?_
        refine FW.ret ?_
        obtain rfl := Option.some.inj hp
        exact ⟨.inr rfl, res1 rfl rfl ⟨rfl, S234.back⟩⟩
       ·
        refine FW.condF rfl c237 ?_
        refine FW.skip (FW.seq (FW.region ?_))
        refine FL.v (E.move k210) ?_
        refine FL.v (E.load k212 (run_loadA Try.isAgg24 Try.sizeOf24 ((f227.mono sgI).now S234.sl) rfl)) ?_
        obtain ⟨r238, hr239, hp⟩ := bnd hp
        refine FL.call rfl rfl rfl (E.call Try.call6 (A1 rfl)) (w_laws_toCnf S234.sl a1 v1_1 (p1_1.mono S220.inc) hr239) ?_
        rintro e w241 ⟨H240, v244, rfl, r243, ⟨c247, ns246⟩⟩
        refine ⟨_, rfl, ?_⟩
        have h245 := ns246.rsl
        have nv248 : New H218 [v244] := New.of_up S234.sl h245.dom
        have S242 := S234.call r243
        have z249 := r243.bel.size
        have h245 := h245.mono (sg_of S242.sl)
        have ns246 := ns246.mono (sg_of S242.sl)
        refine FL.v (E.move k211) ?_
        obtain ⟨r250, hr251, hp⟩ := bnd hp
        refine FL.call rfl rfl rfl (E.call Try.call7 (A3 rfl rfl rfl)) (w_impl_FindCertificate S242.sl a0 r238 v244 (h245.mono sgI) a2 hr251) ?_
        rintro e w253 ⟨H252, v256, n257, cs258, rfl, r255, els259, nd260⟩
        refine ⟨_, rfl, ?_⟩
        have nv261 : New H240 cs258 := New.of_up S242.sl els259.dom
        obtain ⟨H262, r263, i264, ns267, nv266⟩ := r255.sealRowN (i := 0) (l' := []) rfl els259 nd260 (by decide) rfl
        have h265 := ns267.rsl
        have S254 := S242.call r263.run
        have z268 := r263.run.bel.size
        have h265 := h265.mono (sg_of S254.sl)
        have ns267 := ns267.mono (sg_of S254.sl)
        refine FL.v (E.move (v := Value.tuple #[v256, Value.bool r250.2]) rfl) ?_
        refine FL.v (E.extract (i := 0) rfl rfl) ?_
        refine FL.v (E.extract (i := 1) rfl rfl) ?_
        refine FL.v (E.assign (v := v256) rfl) ?_
        refine FL.v (E.assign (v := Value.bool r250.2) rfl) ?_
        refine FL.nil (FW.seq (FW.seq (FW.region ?_)))
        refine FL.v (E.move (v := v256) rfl) ?_
        refine FL.v (E.move k213) ?_
        obtain ⟨r269, hr270, hp⟩ := bnd hp
        refine FL.call rfl rfl rfl (E.call Try.call8 (A2 rfl rfl)) (w_laws_eqTermSS S254.sl v256 r250.1 (h265.mono sgI) v54 r48.1 (f228.mono (sgI.tr (r243.inc.tr r263.run.inc))) hr270) ?_
        rintro e w271 ⟨rfl, r272⟩
        refine ⟨_, rfl, ?_⟩
        have S273 := S254.call r272
        have z274 := r272.bel.size
        refine FL.v (E.not rfl) ?_
        refine FL.v (E.move (v := Value.bool (!r269)) rfl) ?_
        refine FL.cut 4 (fun f w => ∃ H : GH, St Ha wa H w [] ∧ Inc H262 H ∧ f 11 = v97 ∧ f 14 = Value.int .i64 ((PF.laws_markTermSS r91.1 1).2) ∧ f 97 = Value.bool (bif (!r269) then true else (!(r250.2 == r48.2)))) ?_ ?_
        ·
         rcases bcase (!r269) with c280 | c280
         ·
          refine FL.skip (wF_no rfl rfl rfl c280) rfl ?_
          refine FL.skip (wF_no rfl rfl rfl c280) rfl ?_
          refine FL.skip (wF_no rfl rfl rfl c280) rfl ?_
          refine FL.v (E.pickT rfl c280 rfl) ?_
          exact FL.nil ⟨rfl, _, S273, (Inc.rfl _), k215, rfl, (congrArg Value.bool (bifT c280).symm)⟩
         ·
          refine FL.val (wF_yes rfl rfl rfl c280) rfl rfl (E.move (v := Value.bool r250.2) rfl) ?_
          refine FL.val (wF_yes rfl rfl rfl c280) rfl rfl (E.move k214) ?_
          refine FL.val (wF_yes rfl rfl rfl c280) rfl rfl (E.neqB Try.runUnderlying4 rfl rfl) ?_
          refine FL.v (E.pickF rfl c280 rfl) ?_
          exact FL.nil ⟨rfl, _, S273, (Inc.rfl _), k215, rfl, (congrArg Value.bool (bifF c280).symm)⟩
        rintro f279 w278 ⟨H275, S276, i277, k281, k282, k283⟩
        refine FL.nil ?_
        rcases ifB hp with ⟨c284, hp⟩ | ⟨c284, hp⟩
        ·
         refine FW.condT k283 c284 ?_
         refine FW.seq (FW.region ?_)
         refine FL.v (E.assign (v := Value.bool false) rfl) ?_
         refine FL.nil ?_
         refine FW.ret ?_
         obtain rfl := Option.some.inj hp
         exact ⟨.inr rfl, res1 rfl rfl ⟨rfl, S276.back⟩⟩
        ·
         refine FW.condF k283 c284 ?_
         refine FW.skip (FW.seq (FW.region ?_))
         refine FL.v (E.assign (v := Value.int .i64 1) rfl) ?_
         refine FL.nil (FW.seq (FW.region ?_))
         refine FL.v (E.move k281) ?_
         refine FL.v (E.move (v := Value.int .i64 1) rfl) ?_
         obtain ⟨r285, hr286, hp⟩ := bnd hp
         refine FL.call rfl rfl rfl (E.call Try.call12 (A2 rfl rfl)) (w_laws_heldTermSS S276.sl v97 ((PF.laws_markTermSS r91.1 1).1) (h221.mono (sgI.tr ((r243.inc.tr r263.run.inc).tr i277))) 1 hr286) ?_
         rintro e w287 ⟨rfl, r288⟩
         refine ⟨_, rfl, ?_⟩
         have S289 := S276.call r288
         have z290 := r288.bel.size
         refine FL.v (E.assign (v := Value.int .i64 r285) rfl) ?_
         refine FL.nil (FW.seq (FW.seq (FW.region ?_)))
         refine FL.v (E.move (v := Value.int .i64 r285) rfl) ?_
         refine FL.v (E.lss rfl rfl) ?_
         refine FL.nil ?_
         rcases ifB hp with ⟨c291, hp⟩ | ⟨c291, hp⟩
         ·
          refine FW.condT rfl c291 ?_
          refine FW.seq (FW.region ?_)
          refine FL.v (E.assign (v := Value.bool false) rfl) ?_
          refine FL.nil ?_
          refine FW.ret ?_
          obtain rfl := Option.some.inj hp
          exact ⟨.inr rfl, res1 rfl rfl ⟨rfl, S289.back⟩⟩
         ·
          refine FW.condF rfl c291 ?_
          refine FW.skip (FW.seq (FW.seq (FW.region ?_)))
          refine FL.v (E.move (v := Value.int .i64 r285) rfl) ?_
          refine FL.v (E.move k282) ?_
          refine FL.v (E.neq rfl rfl) ?_
          refine FL.nil ?_
          rcases ifB hp with ⟨c292, hp⟩ | ⟨c292, hp⟩
          ·
           refine FW.condT rfl c292 ?_
           refine FW.seq (FW.region ?_)
           refine FL.v (E.assign (v := Value.bool false) rfl) ?_
           refine FL.nil ?_
           refine FW.ret ?_
           obtain rfl := Option.some.inj hp
           exact ⟨.inr rfl, res1 rfl rfl ⟨rfl, S289.back⟩⟩
          ·
           refine FW.condF rfl c292 ?_
           refine FW.skip (FW.seq (FW.region ?_))
           refine FL.v (E.assign (v := Value.bool true) rfl) ?_
           refine FL.nil ?_
           refine FW.ret ?_
           obtain rfl := Option.some.inj hp
           exact ⟨.inr rfl, res1 rfl rfl ⟨rfl, S289.back⟩⟩

end Go.Proofs
