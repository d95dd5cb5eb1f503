/- Part of the walks and plain laws behind the claim: it proves helpers, under no condition beyond their own. -/
import Derived.Test.YtbbdfaegfiepeaaGreatRpWk2
set_option linter.unusedVariables false
set_option maxRecDepth 100000
namespace Go.Proofs
open Go.Mr Go.Pu Go.PF Go.RowKit

set_option maxHeartbeats 4000000 in
theorem w_laws_FnExactRunToProof {Ha : GH} {wa : World} (hs : Sl Ha wa) (a0 : Cnf) (v0_1 : Value) (p0_1 : RSl Ha (eL eI 1) 1 v0_1 a0.clauses) (v1 : Value) (a1 : List SpaceStep) (p1 : RSl Ha eSpaceStep 4 v1 a1) {r : Bool} (hp : (PF.laws_FnExactRunToProof a0 a1) = some r) :
  Calls Tryz.prog 5 #[Value.agg #[Value.int .i64 a0.vars, v0_1], v1] wa (Sc Ha wa (Value.bool r)) := by
 unfold PF.laws_FnExactRunToProof at hp
 have S0 := St.init hs
 refine calls_go (N := 119) (args := [Value.agg #[Value.int .i64 a0.vars, v0_1], v1]) Tryz.func5 rfl rfl rfl ?_
 refine FW.seq (FW.region ?_)
 obtain ⟨w21, run22, S23, z24⟩ := S0.boxB (P := Tryz.prog) 24 [Value.int .i64 a0.vars, v0_1] (v := Value.agg #[Value.int .i64 a0.vars, v0_1]) rfl (ones_cons rfl (ones_cons p0_1.one ones_nil))
 refine FL.v (E.box rfl run22) ?_
 obtain ⟨H25, S26, i27, at28⟩ := S23.sealBoxB (i := 0) (l' := []) rfl rfl
 refine FL.v (E.assign (v := Value.bool false) rfl) ?_
 refine FL.nil (FW.seq (FW.region ?_))
 refine FL.v (E.assign (v := Value.int .i64 1048576) rfl) ?_
 refine FL.nil (FW.seq (FW.region ?_))
 refine FL.v (E.load rfl (run_loadA Tryz.isAgg24 Tryz.sizeOf24 ((at28.mono sgI).now S26.sl) rfl)) ?_
 refine FL.v (E.move (v := Value.int .i64 1048576) rfl) ?_
 obtain ⟨r29, hr30, hp⟩ := bnd hp
 refine FL.call rfl rfl rfl (E.call Tryz.call13 (A2 rfl rfl)) (w_laws_szCnf S26.sl a0 v0_1 (p0_1.mono i27) 1048576 hr30) ?_
 rintro e w31 ⟨rfl, r32⟩
 refine ⟨_, rfl, ?_⟩
 have S33 := S26.call r32
 have z34 := r32.bel.size
 refine FL.v (E.assign (v := Value.int .i64 r29) rfl) ?_
 refine FL.nil (FW.seq (FW.seq (FW.region ?_)))
 refine FL.v (E.move (v := Value.int .i64 r29) rfl) ?_
 refine FL.v (E.lss rfl rfl) ?_
 refine FL.nil ?_
 rcases ifB hp with ⟨c35, hp⟩ | ⟨c35, hp⟩
 ·
  refine FW.condT rfl c35 ?_
  refine FW.seq (FW.region ?_)
  refine FL.v (E.assign (v := Value.bool true) rfl) ?_
  refine FL.nil ?_
  refine FW.ret ?_
  obtain rfl := Option.some.inj hp
  exact ⟨.inr rfl, res1 rfl rfl ⟨rfl, S33.back⟩⟩
 ·
  refine FW.condF rfl c35 ?_
  refine FW.skip (FW.seq (FW.region ?_))
  refine FL.v (E.move (v := v1) rfl) ?_
  refine FL.v (E.move (v := Value.int .i64 r29) rfl) ?_
  refine FL.call rfl rfl rfl (E.call Tryz.call14 (A2 rfl rfl)) (w_laws_szSpaceStepS S33.sl v1 a1 (p1.mono i27) r29) ?_
  rintro e w36 ⟨rfl, r37⟩
  refine ⟨_, rfl, ?_⟩
  have S38 := S33.call r37
  have z39 := r37.bel.size
  refine FL.v (E.assign (v := Value.int .i64 (PF.laws_szSpaceStepS a1 r29)) rfl) ?_
  refine FL.nil (FW.seq (FW.seq (FW.region ?_)))
  refine FL.v (E.move (v := Value.int .i64 (PF.laws_szSpaceStepS a1 r29)) rfl) ?_
  refine FL.v (E.lss rfl rfl) ?_
  refine FL.nil ?_
  rcases ifB hp with ⟨c40, hp⟩ | ⟨c40, hp⟩
  ·
   refine FW.condT rfl c40 ?_
   refine FW.seq (FW.region ?_)
   refine FL.v (E.assign (v := Value.bool true) rfl) ?_
   refine FL.nil ?_
   refine FW.ret ?_
   obtain rfl := Option.some.inj hp
   exact ⟨.inr rfl, res1 rfl rfl ⟨rfl, S38.back⟩⟩
  ·
   refine FW.condF rfl c40 ?_
   refine FW.skip (FW.seq (FW.region ?_))
   refine FL.v (E.load rfl (run_loadA Tryz.isAgg24 Tryz.sizeOf24 ((at28.mono sgI).now S38.sl) rfl)) ?_
   obtain ⟨r41, hr42, hp⟩ := bnd hp
   refine FL.call rfl rfl rfl (E.call Tryz.call16 (A1 rfl)) (w_laws_toCnf S38.sl a0 v0_1 (p0_1.mono i27) hr42) ?_
   rintro e w44 ⟨H43, v47, rfl, r46, ⟨c50, ns49⟩⟩
   refine ⟨_, rfl, ?_⟩
   have h48 := ns49.rsl
   have nv51 : New H25 [v47] := New.of_up S38.sl h48.dom
   have S45 := S38.call r46
   have z52 := r46.bel.size
   have h48 := h48.mono (sg_of S45.sl)
   have ns49 := ns49.mono (sg_of S45.sl)
   refine FL.v (E.move (v := v1) rfl) ?_
   obtain ⟨r53, hr54, hp⟩ := bnd hp
   refine FL.call rfl rfl rfl (E.call Tryz.call17 (A1 rfl)) (w_laws_toSpaceStepS S45.sl v1 a1 (p1.mono (i27.tr r46.inc)) hr54) ?_
   rintro e w56 ⟨H55, v59, n60, cs61, rfl, r58, els62⟩
   refine ⟨_, rfl, ?_⟩
   obtain ⟨H63, r64, i65, h66, nv67⟩ := r58.sealRowU (i := 0) (l' := []) rfl els62 (by decide) rfl
   have S57 := S45.call r64.run
   have z68 := r64.run.bel.size
   have h66 := h66.mono (sg_of S57.sl)
   obtain ⟨r69, hr70, hp⟩ := bnd hp
   refine FL.call rfl rfl rfl (E.call Tryz.call28 (A2 rfl rfl)) (w_spec_RunToProof S57.sl r41 v47 (h48.mono (sgI.tr r64.run.inc)) v59 r53 (h66.mono sgI) hr70) ?_
   rintro e w72 ⟨H71, v75, n76, cs77, rfl, r74, els78, nd79⟩
   refine ⟨_, rfl, ?_⟩
   have nv80 : New H63 cs77 := New.of_up S57.sl els78.dom
   obtain ⟨H81, r82, i83, ns86, nv85⟩ := r74.sealRowN (i := 0) (l' := []) rfl els78 nd79 (by decide) rfl
   have h84 := ns86.rsl
   have S73 := S57.call r82.run
   have z87 := r82.run.bel.size
   have h84 := h84.mono (sg_of S73.sl)
   have ns86 := ns86.mono (sg_of S73.sl)
   refine FL.v (E.move (v := Value.tuple #[v75, Value.bool r69.2]) rfl) ?_
   refine FL.v (E.extract (i := 0) rfl rfl) ?_
   refine FL.v (E.extract (i := 1) rfl rfl) ?_
   refine FL.v (E.assign (v := v75) rfl) ?_
   refine FL.v (E.assign (v := Value.bool r69.2) rfl) ?_
   refine FL.nil (FW.seq (FW.region ?_))
   refine FL.v (E.load rfl (run_loadA Tryz.isAgg24 Tryz.sizeOf24 ((at28.mono (sgI.tr ((r46.inc.tr r64.run.inc).tr r82.run.inc))).now S73.sl) rfl)) ?_
   obtain ⟨r88, hr89, hp⟩ := bnd hp
   refine FL.call rfl rfl rfl (E.call Tryz.call16 (A1 rfl)) (w_laws_toCnf S73.sl a0 v0_1 (p0_1.mono (((i27.tr r46.inc).tr r64.run.inc).tr r82.run.inc)) hr89) ?_
   rintro e w91 ⟨H90, v94, rfl, r93, ⟨c97, ns96⟩⟩
   refine ⟨_, rfl, ?_⟩
   have h95 := ns96.rsl
   have nv98 : New H81 [v94] := New.of_up S73.sl h95.dom
   have S92 := S73.call r93
   have z99 := r93.bel.size
   have h95 := h95.mono (sg_of S92.sl)
   have ns96 := ns96.mono (sg_of S92.sl)
   obtain ⟨w100, run101, S102, z103⟩ := S92.allocB (P := Tryz.prog) 30 [Value.int .i64 0, Value.slice none 0 0] Tryz.zeroValue30 rfl (ones_cons rfl (ones_cons rfl ones_nil))
   refine FL.v (E.alloc run101) ?_
   obtain ⟨w104, run105, S106, z107⟩ := S102.store0B (P := Tryz.prog) (t := 30) (i := 0) (cs' := [Value.int .i64 r88.vars, v94]) (l' := [.box w91.heap.size 30 [Value.int .i64 r88.vars, v94]]) (v := Value.agg #[Value.int .i64 r88.vars, v94]) (c := [Value.int .i64 r88.vars, v94]) rfl Tryz.sizeOf30 rfl rfl (ones_cons rfl (ones_cons h95.one ones_nil)) (Nat.le_of_ble_eq_true rfl) rfl rfl
   refine FL.act rfl rfl (E.store rfl rfl run105) ?_
   obtain ⟨H108, S109, i110, at111⟩ := S106.sealBoxB (i := 0) (l' := []) rfl rfl
   refine FL.nil (FW.seq (FW.region ?_))
   refine FL.v (E.move (v := v1) rfl) ?_
   obtain ⟨r112, hr113, hp⟩ := bnd hp
   refine FL.call rfl rfl rfl (E.call Tryz.call17 (A1 rfl)) (w_laws_toSpaceStepS S109.sl v1 a1 (p1.mono (((((i27.tr r46.inc).tr r64.run.inc).tr r82.run.inc).tr r93.inc).tr i110)) hr113) ?_
   rintro e w115 ⟨H114, v118, n119, cs120, rfl, r117, els121⟩
   refine ⟨_, rfl, ?_⟩
   obtain ⟨H122, r123, i124, h125, nv126⟩ := r117.sealRowU (i := 0) (l' := []) rfl els121 (by decide) rfl
   have S116 := S109.call r123.run
   have z127 := r123.run.bel.size
   have h125 := h125.mono (sg_of S116.sl)
   refine FL.v (E.assign (v := v118) rfl) ?_
   refine FL.nil (FW.seq (FW.region ?_))
   refine FL.v (E.load rfl (run_loadA Tryz.isAgg30 Tryz.sizeOf30 ((at111.mono (sgI.tr r123.run.inc)).now S116.sl) rfl)) ?_
   refine FL.v (E.move (v := v118) rfl) ?_
   obtain ⟨r128, hr129, hp⟩ := bnd hp
   refine FL.call rfl rfl rfl (E.call Tryz.call29 (A2 rfl rfl)) (w_impl_RunToProof S116.sl r88 v94 (h95.mono (sgI.tr (i110.tr r123.run.inc))) v118 r112 (h125.mono sgI) hr129) ?_
   rintro e w131 ⟨H130, v134, n135, cs136, rfl, r133, els137, nd138⟩
   refine ⟨_, rfl, ?_⟩
   have nv139 : New H122 cs136 := New.of_up S116.sl els137.dom
   obtain ⟨H140, r141, i142, ns145, nv144⟩ := r133.sealRowN (i := 0) (l' := []) rfl els137 nd138 (by decide) rfl
   have h143 := ns145.rsl
   have S132 := S116.call r141.run
   have z146 := r141.run.bel.size
   have h143 := h143.mono (sg_of S132.sl)
   have ns145 := ns145.mono (sg_of S132.sl)
   refine FL.v (E.move (v := Value.tuple #[v134, Value.bool r128.2]) rfl) ?_
   refine FL.v (E.extract (i := 0) rfl rfl) ?_
   refine FL.v (E.extract (i := 1) rfl rfl) ?_
   refine FL.v (E.assign (v := v134) rfl) ?_
   refine FL.v (E.assign (v := Value.bool r128.2) rfl) ?_
   refine FL.nil (FW.seq (FW.seq (FW.region ?_)))
   refine FL.v (E.move (v := v134) rfl) ?_
   refine FL.v (E.move (v := v75) rfl) ?_
   obtain ⟨r147, hr148, hp⟩ := bnd hp
   refine FL.call rfl rfl rfl (E.call Tryz.call30 (A2 rfl rfl)) (w_laws_eqResStepS S132.sl v134 r128.1 (h143.mono sgI) v75 r69.1 (h84.mono (sgI.tr (((r93.inc.tr i110).tr r123.run.inc).tr r141.run.inc))) hr148) ?_
   rintro e w149 ⟨rfl, r150⟩
   refine ⟨_, rfl, ?_⟩
   have S151 := S132.call r150
   have z152 := r150.bel.size
   refine FL.v (E.not rfl) ?_
   refine FL.v (E.move (v := Value.bool (!r147)) rfl) ?_
   refine FL.cut 4 (fun f w => ∃ H : GH, St Ha wa H w [] ∧ Inc H140 H ∧ f 1 = v1 ∧ f 2 = Value.pointer (some ⟨wa.heap.size, 0, none⟩) ∧ f 6 = v75 ∧ f 7 = Value.bool r69.2 ∧ f 8 = Value.pointer (some ⟨w91.heap.size, 0, none⟩) ∧ f 9 = v118 ∧ f 10 = v134 ∧ f 11 = Value.bool r128.2 ∧ f 53 = Value.bool (bif (!r147) then true else (!(r128.2 == r69.2)))) ?_ ?_
   ·
    rcases bcase (!r147) with c159 | c159
    ·
     refine FL.skip (wF_no rfl rfl rfl c159) rfl ?_
     refine FL.skip (wF_no rfl rfl rfl c159) rfl ?_
     refine FL.skip (wF_no rfl rfl rfl c159) rfl ?_
     refine FL.v (E.pickT rfl c159 rfl) ?_
     exact FL.nil ⟨rfl, _, S151, (Inc.rfl _), rfl, rfl, rfl, rfl, rfl, rfl, rfl, rfl, (congrArg Value.bool (bifT c159).symm)⟩
    ·
     refine FL.val (wF_yes rfl rfl rfl c159) rfl rfl (E.move (v := Value.bool r128.2) rfl) ?_
     refine FL.val (wF_yes rfl rfl rfl c159) rfl rfl (E.move (v := Value.bool r69.2) rfl) ?_
     refine FL.val (wF_yes rfl rfl rfl c159) rfl rfl (E.neqB Tryz.runUnderlying4 rfl rfl) ?_
     refine FL.v (E.pickF rfl c159 rfl) ?_
     exact FL.nil ⟨rfl, _, S151, (Inc.rfl _), rfl, rfl, rfl, rfl, rfl, rfl, rfl, rfl, (congrArg Value.bool (bifF c159).symm)⟩
   rintro f158 w157 ⟨H154, S155, i156, k160, k161, k162, k163, k164, k165, k166, k167, k168⟩
   refine FL.nil ?_
   rcases ifB hp with ⟨c169, hp⟩ | ⟨c169, hp⟩
   ·
    refine FW.condT k168 c169 ?_
    refine FW.seq (FW.region ?_)
    refine FL.v (E.assign (v := Value.bool false) rfl) ?_
    refine FL.nil ?_
    refine FW.ret ?_
    obtain rfl := Option.some.inj hp
    exact ⟨.inr rfl, res1 rfl rfl ⟨rfl, S155.back⟩⟩
   ·
    refine FW.condF k168 c169 ?_
    refine FW.skip (FW.seq (FW.seq ?_))
    obtain ⟨r153, hr173, hp⟩ := bnd hp
    obtain ⟨r184, hr185, hp⟩ := bnd hp
    refine FW.drawB (Sl H154) (fun f w => ∃ H : GH, St Ha wa H w [] ∧ Inc H154 H ∧ f 1 = v1 ∧ f 2 = Value.pointer (some ⟨wa.heap.size, 0, none⟩) ∧ f 6 = v75 ∧ f 7 = Value.bool r69.2 ∧ f 8 = Value.pointer (some ⟨w91.heap.size, 0, none⟩) ∧ f 9 = v118 ∧ f 10 = v134 ∧ f 11 = Value.bool r128.2 ∧ f 58 = Value.bool (!r184)) (by kernel_rfl) S155.sl ?_ ?_
    ·
     intro w170 r171
     have S172 := S155.call r171
     refine FB.t (i := 0) (bs 5 1) rfl (SP.nil S172.sl) rfl (fun w' hw' => (E.load k164 (run_loadA Tryz.isAgg30 Tryz.sizeOf30 ((at111.mono (sgI.tr ((r123.run.inc.tr r141.run.inc).tr i156))).now hw') rfl))) ?_
     refine FB.t (i := 1) (bs 5 3) rfl (SP.nil S172.sl) rfl (fun w' hw' => (E.load k161 (run_loadA Tryz.isAgg24 Tryz.sizeOf24 ((at28.mono (sgI.tr (((((((r46.inc.tr r64.run.inc).tr r82.run.inc).tr r93.inc).tr i110).tr r123.run.inc).tr r141.run.inc).tr i156))).now hw') rfl))) ?_
     refine FB.all1 (i := 2) (by kernel_rfl) ?_
     ·
      refine FC.call (l' := (bs 5 7)) rfl (by kernel_rfl) rfl rfl rfl (E.call Tryz.call16 (A1 rfl)) (w_laws_toCnf S172.sl a0 v0_1 (p0_1.mono ((((((((i27.tr r46.inc).tr r64.run.inc).tr r82.run.inc).tr r93.inc).tr i110).tr r123.run.inc).tr r141.run.inc).tr i156)) hr173) ?_
      rintro e w175 ⟨H174, v178, rfl, r177, ⟨c181, ns180⟩⟩
      refine ⟨_, rfl, ?_⟩
      have h179 := ns180.rsl
      have nv182 : New H154 [v178] := New.of_up S172.sl h179.dom
      have S176 := S172.call r177
      have z183 := r177.bel.size
      have h179 := h179.mono (sg_of S176.sl)
      have ns180 := ns180.mono (sg_of S176.sl)
      refine ⟨(SP.nil (Sl.of_inc r177.inc S176.sl)), ?_⟩
      refine FB.all1 (i := 3) (by kernel_rfl) ?_
      ·
       refine FC.call (l' := (bs 5 15)) rfl (by kernel_rfl) rfl rfl rfl (E.call Tryz.call20 (A2 rfl rfl)) (w_laws_eqCnf S176.sl r88 v94 (h95.mono (sgI.tr ((((i110.tr r123.run.inc).tr r141.run.inc).tr i156).tr r177.inc))) r153 v178 (h179.mono sgI) hr185) ?_
       rintro e w186 ⟨rfl, r187⟩
       refine ⟨_, rfl, ?_⟩
       have S188 := S176.call r187
       have z189 := r187.bel.size
       refine ⟨(SP.nil (Sl.of_inc r177.inc S188.sl)), ?_⟩
       refine FB.t (i := 4) (bs 5 31) rfl (SP.nil (Sl.of_inc r177.inc S188.sl)) rfl (fun w' hw' => (E.not rfl)) ?_
       exact FB.done (by kernel_rfl) ⟨_, S188, r177.inc, k160, k161, k162, k163, k164, k165, k166, k167, rfl⟩
    ·
     rintro f194 w193 ⟨H190, S191, i192, k195, k196, k197, k198, k199, k200, k201, k202, k203⟩
     rcases ifB hp with ⟨c204, hp⟩ | ⟨c204, hp⟩
     ·
      refine FW.condT k203 c204 ?_
      refine FW.seq (FW.region ?_)
      refine FL.v (E.assign (v := Value.bool false) rfl) ?_
      refine FL.nil ?_
      refine FW.ret ?_
      obtain rfl := Option.some.inj hp
      exact ⟨.inr rfl, res1 rfl rfl ⟨rfl, S191.back⟩⟩
     ·
      refine FW.condF k203 c204 ?_
      refine FW.skip (FW.seq (FW.seq (FW.region ?_)))
      refine FL.v (E.move k200) ?_
      refine FL.v (E.move k195) ?_
      obtain ⟨r205, hr206, hp⟩ := bnd hp
      refine FL.call rfl rfl rfl (E.call Tryz.call17 (A1 rfl)) (w_laws_toSpaceStepS S191.sl v1 a1 (p1.mono (((((((((i27.tr r46.inc).tr r64.run.inc).tr r82.run.inc).tr r93.inc).tr i110).tr r123.run.inc).tr r141.run.inc).tr i156).tr i192)) hr206) ?_
      rintro e w208 ⟨H207, v211, n212, cs213, rfl, r210, els214⟩
      refine ⟨_, rfl, ?_⟩
      obtain ⟨H215, r216, i217, h218, nv219⟩ := r210.sealRowU (i := 0) (l' := []) rfl els214 (by decide) rfl
      have S209 := S191.call r216.run
      have z220 := r216.run.bel.size
      have h218 := h218.mono (sg_of S209.sl)
      obtain ⟨r221, hr222, hp⟩ := bnd hp
      refine FL.call rfl rfl rfl (E.call Tryz.call21 (A2 rfl rfl)) (w_laws_eqSpaceStepS S209.sl v118 r112 (h125.mono (sgI.tr (((r141.run.inc.tr i156).tr i192).tr r216.run.inc))) v211 r205 (h218.mono sgI) hr222) ?_
      rintro e w223 ⟨rfl, r224⟩
      refine ⟨_, rfl, ?_⟩
      have S225 := S209.call r224
      have z226 := r224.bel.size
      refine FL.v (E.not rfl) ?_
      refine FL.nil ?_
      rcases ifB hp with ⟨c227, hp⟩ | ⟨c227, hp⟩
      ·
       refine FW.condT rfl c227 ?_
       refine FW.seq (FW.region ?_)
       refine FL.v (E.assign (v := Value.bool false) rfl) ?_
       refine FL.nil ?_
       refine FW.ret ?_
       obtain rfl := Option.some.inj hp
       exact ⟨.inr rfl, res1 rfl rfl ⟨rfl, S225.back⟩⟩
      ·
       refine FW.condF rfl c227 ?_
       refine FW.skip (FW.seq (FW.region ?_))
       refine FL.v (E.assign (v := Value.int .i64 1) rfl) ?_
       refine FL.nil (FW.seq (FW.region ?_))
       refine FL.v (E.load k199 (run_loadA Tryz.isAgg30 Tryz.sizeOf30 ((at111.mono (sgI.tr ((((r123.run.inc.tr r141.run.inc).tr i156).tr i192).tr r216.run.inc))).now S225.sl) rfl)) ?_
       refine FL.v (E.move (v := Value.int .i64 1) rfl) ?_
       refine FL.call rfl rfl rfl (E.call Tryz.call22 (A2 rfl rfl)) (w_laws_markCnf S225 hs r88 v94 c97 (ns96.mono (sg_up (by omega) (((((i110.tr r123.run.inc).tr r141.run.inc).tr i156).tr i192).tr r216.run.inc))) 1) ?_
       rintro e w229 ⟨H228, c234, rfl, S230, ns236, hb235, o232⟩
       refine ⟨_, rfl, ?_⟩
       have o233 := (ns96.mono (sg_mono (hi := w91.heap.size) (((((i110.tr r123.run.inc).tr r141.run.inc).tr i156).tr i192).tr r216.run.inc))).outside o232
       have ns236 := ns96.span (eL_loc eI_flat) (by omega) ns236 hb235
       have h231 := ns236.rsl
       have f237 := at28.mono ((sg_mono (lo := wa.heap.size) (hi := wa.heap.size + 1) (((((((((r46.inc.tr r64.run.inc).tr r82.run.inc).tr r93.inc).tr i110).tr r123.run.inc).tr r141.run.inc).tr i156).tr i192).tr r216.run.inc)).tr (sg_keep o233 (by omega)))
       have f238 := h84.mono ((sg_mono (lo := w56.heap.size) (hi := w72.heap.size) ((((((r93.inc.tr i110).tr r123.run.inc).tr r141.run.inc).tr i156).tr i192).tr r216.run.inc)).tr (sg_keep o233 (by omega)))
       have f239 := ns86.mono ((sg_mono (lo := w56.heap.size) (hi := w72.heap.size) ((((((r93.inc.tr i110).tr r123.run.inc).tr r141.run.inc).tr i156).tr i192).tr r216.run.inc)).tr (sg_keep o233 (by omega)))
       have f240 := at111.mono ((sg_mono (lo := w91.heap.size) (hi := w91.heap.size + 1) ((((r123.run.inc.tr r141.run.inc).tr i156).tr i192).tr r216.run.inc)).tr (sg_keep o233 (by omega)))
       have f241 := h125.mono ((sg_mono (lo := w104.heap.size) (hi := w115.heap.size) (((r141.run.inc.tr i156).tr i192).tr r216.run.inc)).tr (sg_keep o233 (by omega)))
       have f242 := h143.mono ((sg_mono (lo := w115.heap.size) (hi := w131.heap.size) ((i156.tr i192).tr r216.run.inc)).tr (sg_keep o233 (by omega)))
       have f243 := ns145.mono ((sg_mono (lo := w115.heap.size) (hi := w131.heap.size) ((i156.tr i192).tr r216.run.inc)).tr (sg_keep o233 (by omega)))
       refine FL.v (E.assign (v := Value.int .i64 ((PF.laws_markCnf r88 1).2)) rfl) ?_
       refine FL.nil (FW.seq (FW.region ?_))
       refine FL.v (E.move k200) ?_
       refine FL.v (E.move (v := Value.int .i64 ((PF.laws_markCnf r88 1).2)) rfl) ?_
       refine FL.call rfl rfl rfl (E.call Tryz.call23 (A2 rfl rfl)) (w_laws_markSpaceStepS S230 hs v118 r112 (f241.mono (sg_up (by omega) (Inc.rfl _))) ((PF.laws_markCnf r88 1).2)) ?_
       rintro e w245 ⟨H244, rfl, S246, h247, o248⟩
       refine ⟨_, rfl, ?_⟩
       have o249 := (f241.mono (sg_mono (hi := w115.heap.size) (Inc.rfl _))).outside o248
       have h247 := f241.span eSpaceStep_flat (by omega) h247
       have f250 := f237.mono ((sg_mono (lo := wa.heap.size) (hi := wa.heap.size + 1) (Inc.rfl _)).tr (sg_keep o249 (by omega)))
       have f251 := f238.mono ((sg_mono (lo := w56.heap.size) (hi := w72.heap.size) (Inc.rfl _)).tr (sg_keep o249 (by omega)))
       have f252 := f239.mono ((sg_mono (lo := w56.heap.size) (hi := w72.heap.size) (Inc.rfl _)).tr (sg_keep o249 (by omega)))
       have f253 := f240.mono ((sg_mono (lo := w91.heap.size) (hi := w91.heap.size + 1) (Inc.rfl _)).tr (sg_keep o249 (by omega)))
       have f254 := h231.mono ((sg_mono (lo := w72.heap.size) (hi := w91.heap.size) (Inc.rfl _)).tr (sg_keep o249 (by omega)))
       have f255 := ns236.mono ((sg_mono (lo := w72.heap.size) (hi := w91.heap.size) (Inc.rfl _)).tr (sg_keep o249 (by omega)))
       have f256 := f242.mono ((sg_mono (lo := w115.heap.size) (hi := w131.heap.size) (Inc.rfl _)).tr (sg_keep o249 (by omega)))
       have f257 := f243.mono ((sg_mono (lo := w115.heap.size) (hi := w131.heap.size) (Inc.rfl _)).tr (sg_keep o249 (by omega)))
       refine FL.v (E.assign (v := Value.int .i64 ((PF.laws_markSpaceStepS r112 ((PF.laws_markCnf r88 1).2)).2)) rfl) ?_
       refine FL.nil (FW.seq (FW.seq (FW.region ?_)))
       refine FL.v (E.move (v := Value.int .i64 ((PF.laws_markSpaceStepS r112 ((PF.laws_markCnf r88 1).2)).2)) rfl) ?_
       refine FL.v (E.lss rfl rfl) ?_
       refine FL.v (E.move (v := Value.bool (decide ((PF.laws_markSpaceStepS r112 ((PF.laws_markCnf r88 1).2)).2 < 0))) rfl) ?_
       obtain ⟨t258, hqt258, hp⟩ := bnd hp
       refine FL.cut 5 (fun f w => ∃ H : GH, St Ha wa H w [] ∧ Inc H244 H ∧ f 1 = v1 ∧ f 2 = Value.pointer (some ⟨wa.heap.size, 0, none⟩) ∧ f 6 = v75 ∧ f 7 = Value.bool r69.2 ∧ f 10 = v134 ∧ f 11 = Value.bool r128.2 ∧ f 77 = Value.bool t258) ?_ ?_
       ·
        clear hp; have hp := hqt258; clear hqt258
        rcases ifB hp with ⟨c264, hp⟩ | ⟨c264, hp⟩
        ·
         refine FL.skip (wF_no rfl rfl rfl c264) rfl ?_
         refine FL.skip (wF_no rfl rfl rfl c264) rfl ?_
         refine FL.skip (wF_no rfl rfl rfl c264) rfl ?_
         refine FL.skip (wF_no rfl rfl rfl c264) rfl ?_
         obtain rfl := Option.some.inj hp
         refine FL.v (E.pickT rfl c264 rfl) ?_
         exact FL.nil ⟨rfl, _, S246, (Inc.rfl _), k195, k196, k197, k198, k201, k202, rfl⟩
        ·
         refine FL.val (wF_yes rfl rfl rfl c264) rfl rfl (E.move k201) ?_
         refine FL.val (wF_yes rfl rfl rfl c264) rfl rfl (E.move k197) ?_
         obtain ⟨r265, hr266, hp⟩ := bnd hp
         refine FL.call (wF_yes rfl rfl rfl c264) rfl rfl (E.call Tryz.call30 (A2 rfl rfl)) (w_laws_eqResStepS S246.sl v134 r128.1 (f256.mono sgI) v75 r69.1 (f251.mono sgI) hr266) ?_
         rintro e w267 ⟨rfl, r268⟩
         refine ⟨_, rfl, ?_⟩
         have S269 := S246.call r268
         have z270 := r268.bel.size
         refine FL.val (wF_yes rfl rfl rfl c264) rfl rfl (E.not rfl) ?_
         obtain rfl := Option.some.inj hp
         refine FL.v (E.pickF rfl c264 rfl) ?_
         exact FL.nil ⟨rfl, _, S269, (Inc.rfl _), k195, k196, k197, k198, k201, k202, rfl⟩
       rintro f263 w262 ⟨H259, S260, i261, k271, k272, k273, k274, k275, k276, k277⟩
       refine FL.v (E.move k277) ?_
       refine FL.cut 4 (fun f w => ∃ H : GH, St Ha wa H w [] ∧ Inc H259 H ∧ f 1 = v1 ∧ f 2 = Value.pointer (some ⟨wa.heap.size, 0, none⟩) ∧ f 6 = v75 ∧ f 7 = Value.bool r69.2 ∧ f 10 = v134 ∧ f 82 = Value.bool (bif t258 then true else (!(r128.2 == r69.2)))) ?_ ?_
       ·
        rcases bcase t258 with c283 | c283
        ·
         refine FL.skip (wF_no rfl rfl rfl c283) rfl ?_
         refine FL.skip (wF_no rfl rfl rfl c283) rfl ?_
         refine FL.skip (wF_no rfl rfl rfl c283) rfl ?_
         refine FL.v (E.pickT rfl c283 rfl) ?_
         exact FL.nil ⟨rfl, _, S260, (Inc.rfl _), k271, k272, k273, k274, k275, (congrArg Value.bool (bifT c283).symm)⟩
        ·
         refine FL.val (wF_yes rfl rfl rfl c283) rfl rfl (E.move k276) ?_
         refine FL.val (wF_yes rfl rfl rfl c283) rfl rfl (E.move k274) ?_
         refine FL.val (wF_yes rfl rfl rfl c283) rfl rfl (E.neqB Tryz.runUnderlying4 rfl rfl) ?_
         refine FL.v (E.pickF rfl c283 rfl) ?_
         exact FL.nil ⟨rfl, _, S260, (Inc.rfl _), k271, k272, k273, k274, k275, (congrArg Value.bool (bifF c283).symm)⟩
       rintro f282 w281 ⟨H278, S279, i280, k284, k285, k286, k287, k288, k289⟩
       refine FL.nil ?_
       rcases ifB hp with ⟨c290, hp⟩ | ⟨c290, hp⟩
       ·
        refine FW.condT k289 c290 ?_
        refine FW.seq (FW.region ?_)
        refine FL.v (E.assign (v := Value.bool false) rfl) ?_
        refine FL.nil ?_
        refine FW.ret ?_
        obtain rfl := Option.some.inj hp
        exact ⟨.inr rfl, res1 rfl rfl ⟨rfl, S279.back⟩⟩
       ·
        refine FW.condF k289 c290 ?_
        refine FW.skip (FW.seq (FW.region ?_))
        refine FL.v (E.assign (v := Value.int .i64 1) rfl) ?_
        refine FL.nil (FW.seq (FW.region ?_))
        refine FL.v (E.move k288) ?_
        refine FL.v (E.move (v := Value.int .i64 1) rfl) ?_
        refine FL.call rfl rfl rfl (E.call Tryz.call31 (A2 rfl rfl)) (w_laws_markResStepS S279 hs v134 r128.1 cs136 (f257.mono (sg_up (by omega) (i261.tr i280))) 1) ?_
        rintro e w292 ⟨H291, c297, rfl, S293, ns299, hb298, o295⟩
        refine ⟨_, rfl, ?_⟩
        have o296 := (f257.mono (sg_mono (hi := w131.heap.size) (i261.tr i280))).outside o295
        have ns299 := f257.span eResStep_loc (by omega) ns299 hb298
        have h294 := ns299.rsl
        have f300 := f250.mono ((sg_mono (lo := wa.heap.size) (hi := wa.heap.size + 1) (i261.tr i280)).tr (sg_keep o296 (by omega)))
        have f301 := f251.mono ((sg_mono (lo := w56.heap.size) (hi := w72.heap.size) (i261.tr i280)).tr (sg_keep o296 (by omega)))
        have f302 := f252.mono ((sg_mono (lo := w56.heap.size) (hi := w72.heap.size) (i261.tr i280)).tr (sg_keep o296 (by omega)))
        refine FL.v (E.assign (v := Value.int .i64 ((PF.laws_markResStepS r128.1 1).2)) rfl) ?_
        refine FL.nil (FW.seq (FW.region ?_))
        refine FL.v (E.assign (v := Value.int .i64 1) rfl) ?_
        refine FL.nil (FW.seq (FW.region ?_))
        refine FL.v (E.move k288) ?_
        refine FL.v (E.move (v := Value.int .i64 1) rfl) ?_
        obtain ⟨r303, hr304, hp⟩ := bnd hp
        refine FL.call rfl rfl rfl (E.call Tryz.call32 (A2 rfl rfl)) (w_laws_heldResStepS S293.sl v134 ((PF.laws_markResStepS r128.1 1).1) (h294.mono sgI) 1 hr304) ?_
        rintro e w305 ⟨rfl, r306⟩
        refine ⟨_, rfl, ?_⟩
        have S307 := S293.call r306
        have z308 := r306.bel.size
        refine FL.v (E.assign (v := Value.int .i64 r303) rfl) ?_
        refine FL.nil (FW.seq (FW.seq (FW.region ?_)))
        refine FL.v (E.move (v := Value.int .i64 r303) rfl) ?_
        refine FL.v (E.lss rfl rfl) ?_
        refine FL.nil ?_
        rcases ifB hp with ⟨c309, hp⟩ | ⟨c309, hp⟩
        ·
         refine FW.condT rfl c309 ?_
         refine FW.seq (FW.region ?_)
         refine FL.v (E.assign (v := Value.bool false) rfl) ?_
         refine FL.nil ?_
         refine FW.ret ?_
         obtain rfl := Option.some.inj hp
         exact ⟨.inr rfl, res1 rfl rfl ⟨rfl, S307.back⟩⟩
        ·
         refine FW.condF rfl c309 ?_
         refine FW.skip (FW.seq (FW.seq (FW.region ?_)))
         refine FL.v (E.move (v := Value.int .i64 r303) rfl) ?_
         refine FL.v (E.move (v := Value.int .i64 ((PF.laws_markResStepS r128.1 1).2)) rfl) ?_
         refine FL.v (E.neq rfl rfl) ?_
         refine FL.nil ?_
         rcases ifB hp with ⟨c310, hp⟩ | ⟨c310, hp⟩
         ·
          refine FW.condT rfl c310 ?_
          refine FW.seq (FW.region ?_)
          refine FL.v (E.assign (v := Value.bool false) rfl) ?_
          refine FL.nil ?_
          refine FW.ret ?_
          obtain rfl := Option.some.inj hp
          exact ⟨.inr rfl, res1 rfl rfl ⟨rfl, S307.back⟩⟩
         ·
          refine FW.condF rfl c310 ?_
          refine FW.skip (FW.seq (FW.region ?_))
          refine FL.v (E.load k285 (run_loadA Tryz.isAgg24 Tryz.sizeOf24 ((f300.mono sgI).now S307.sl) rfl)) ?_
          obtain ⟨r311, hr312, hp⟩ := bnd hp
          refine FL.call rfl rfl rfl (E.call Tryz.call16 (A1 rfl)) (w_laws_toCnf S307.sl a0 v0_1 (p0_1.mono S293.inc) hr312) ?_
          rintro e w314 ⟨H313, v317, rfl, r316, ⟨c320, ns319⟩⟩
          refine ⟨_, rfl, ?_⟩
          have h318 := ns319.rsl
          have nv321 : New H291 [v317] := New.of_up S307.sl h318.dom
          have S315 := S307.call r316
          have z322 := r316.bel.size
          have h318 := h318.mono (sg_of S315.sl)
          have ns319 := ns319.mono (sg_of S315.sl)
          refine FL.v (E.move k284) ?_
          obtain ⟨r323, hr324, hp⟩ := bnd hp
          refine FL.call rfl rfl rfl (E.call Tryz.call17 (A1 rfl)) (w_laws_toSpaceStepS S315.sl v1 a1 (p1.mono (S293.inc.tr r316.inc)) hr324) ?_
          rintro e w326 ⟨H325, v329, n330, cs331, rfl, r328, els332⟩
          refine ⟨_, rfl, ?_⟩
          obtain ⟨H333, r334, i335, h336, nv337⟩ := r328.sealRowU (i := 0) (l' := []) rfl els332 (by decide) rfl
          have S327 := S315.call r334.run
          have z338 := r334.run.bel.size
          have h336 := h336.mono (sg_of S327.sl)
          obtain ⟨r339, hr340, hp⟩ := bnd hp
          refine FL.call rfl rfl rfl (E.call Tryz.call29 (A2 rfl rfl)) (w_impl_RunToProof S327.sl r311 v317 (h318.mono (sgI.tr r334.run.inc)) v329 r323 (h336.mono sgI) hr340) ?_
          rintro e w342 ⟨H341, v345, n346, cs347, rfl, r344, els348, nd349⟩
          refine ⟨_, rfl, ?_⟩
          have nv350 : New H333 cs347 := New.of_up S327.sl els348.dom
          obtain ⟨H351, r352, i353, ns356, nv355⟩ := r344.sealRowN (i := 0) (l' := []) rfl els348 nd349 (by decide) rfl
          have h354 := ns356.rsl
          have S343 := S327.call r352.run
          have z357 := r352.run.bel.size
          have h354 := h354.mono (sg_of S343.sl)
          have ns356 := ns356.mono (sg_of S343.sl)
          refine FL.v (E.move (v := Value.tuple #[v345, Value.bool r339.2]) rfl) ?_
          refine FL.v (E.extract (i := 0) rfl rfl) ?_
          refine FL.v (E.extract (i := 1) rfl rfl) ?_
          refine FL.v (E.assign (v := v345) rfl) ?_
          refine FL.v (E.assign (v := Value.bool r339.2) rfl) ?_
          refine FL.nil (FW.seq (FW.seq (FW.region ?_)))
          refine FL.v (E.move (v := v345) rfl) ?_
          refine FL.v (E.move k286) ?_
          obtain ⟨r358, hr359, hp⟩ := bnd hp
          refine FL.call rfl rfl rfl (E.call Tryz.call30 (A2 rfl rfl)) (w_laws_eqResStepS S343.sl v345 r339.1 (h354.mono sgI) v75 r69.1 (f301.mono (sgI.tr ((r316.inc.tr r334.run.inc).tr r352.run.inc))) hr359) ?_
          rintro e w360 ⟨rfl, r361⟩
          refine ⟨_, rfl, ?_⟩
          have S362 := S343.call r361
          have z363 := r361.bel.size
          refine FL.v (E.not rfl) ?_
          refine FL.v (E.move (v := Value.bool (!r358)) rfl) ?_
          refine FL.cut 4 (fun f w => ∃ H : GH, St Ha wa H w [] ∧ Inc H351 H ∧ f 10 = v134 ∧ f 13 = Value.int .i64 ((PF.laws_markResStepS r128.1 1).2) ∧ f 110 = Value.bool (bif (!r358) then true else (!(r339.2 == r69.2)))) ?_ ?_
          ·
           rcases bcase (!r358) with c369 | c369
           ·
            refine FL.skip (wF_no rfl rfl rfl c369) rfl ?_
            refine FL.skip (wF_no rfl rfl rfl c369) rfl ?_
            refine FL.skip (wF_no rfl rfl rfl c369) rfl ?_
            refine FL.v (E.pickT rfl c369 rfl) ?_
            exact FL.nil ⟨rfl, _, S362, (Inc.rfl _), k288, rfl, (congrArg Value.bool (bifT c369).symm)⟩
           ·
            refine FL.val (wF_yes rfl rfl rfl c369) rfl rfl (E.move (v := Value.bool r339.2) rfl) ?_
            refine FL.val (wF_yes rfl rfl rfl c369) rfl rfl (E.move k287) ?_
            refine FL.val (wF_yes rfl rfl rfl c369) rfl rfl (E.neqB Tryz.runUnderlying4 rfl rfl) ?_
            refine FL.v (E.pickF rfl c369 rfl) ?_
            exact FL.nil ⟨rfl, _, S362, (Inc.rfl _), k288, rfl, (congrArg Value.bool (bifF c369).symm)⟩
          rintro f368 w367 ⟨H364, S365, i366, k370, k371, k372⟩
          refine FL.nil ?_
          rcases ifB hp with ⟨c373, hp⟩ | ⟨c373, hp⟩
          ·
           refine FW.condT k372 c373 ?_
           refine FW.seq (FW.region ?_)
           refine FL.v (E.assign (v := Value.bool false) rfl) ?_
           refine FL.nil ?_
           refine FW.ret ?_
           obtain rfl := Option.some.inj hp
           exact ⟨.inr rfl, res1 rfl rfl ⟨rfl, S365.back⟩⟩
          ·
           refine FW.condF k372 c373 ?_
           refine FW.skip (FW.seq (FW.region ?_))
           refine FL.v (E.assign (v := Value.int .i64 1) rfl) ?_
           refine FL.nil (FW.seq (FW.region ?_))
           refine FL.v (E.move k370) ?_
           refine FL.v (E.move (v := Value.int .i64 1) rfl) ?_
           obtain ⟨r374, hr375, hp⟩ := bnd hp
           refine FL.call rfl rfl rfl (E.call Tryz.call32 (A2 rfl rfl)) (w_laws_heldResStepS S365.sl v134 ((PF.laws_markResStepS r128.1 1).1) (h294.mono (sgI.tr (((r316.inc.tr r334.run.inc).tr r352.run.inc).tr i366))) 1 hr375) ?_
           rintro e w376 ⟨rfl, r377⟩
           refine ⟨_, rfl, ?_⟩
           have S378 := S365.call r377
           have z379 := r377.bel.size
           refine FL.v (E.assign (v := Value.int .i64 r374) rfl) ?_
           refine FL.nil (FW.seq (FW.seq (FW.region ?_)))
           refine FL.v (E.move (v := Value.int .i64 r374) rfl) ?_
           refine FL.v (E.lss rfl rfl) ?_
           refine FL.nil ?_
           rcases ifB hp with ⟨c380, hp⟩ | ⟨c380, hp⟩
           ·
            refine FW.condT rfl c380 ?_
            refine FW.seq (FW.region ?_)
            refine FL.v (E.assign (v := Value.bool false) rfl) ?_
            refine FL.nil ?_
            refine FW.ret ?_
            obtain rfl := Option.some.inj hp
            exact ⟨.inr rfl, res1 rfl rfl ⟨rfl, S378.back⟩⟩
           ·
            refine FW.condF rfl c380 ?_
            refine FW.skip (FW.seq (FW.seq (FW.region ?_)))
            refine FL.v (E.move (v := Value.int .i64 r374) rfl) ?_
            refine FL.v (E.move k371) ?_
            refine FL.v (E.neq rfl rfl) ?_
            refine FL.nil ?_
            rcases ifB hp with ⟨c381, hp⟩ | ⟨c381, hp⟩
            ·
             refine FW.condT rfl c381 ?_
             refine FW.seq (FW.region ?_)
             refine FL.v (E.assign (v := Value.bool false) rfl) ?_
             refine FL.nil ?_
             refine FW.ret ?_
             obtain rfl := Option.some.inj hp
             exact ⟨.inr rfl, res1 rfl rfl ⟨rfl, S378.back⟩⟩
            ·
             refine FW.condF rfl c381 ?_
             refine FW.skip (FW.seq (FW.region ?_))
             refine FL.v (E.assign (v := Value.bool true) rfl) ?_
             refine FL.nil ?_
             refine FW.ret ?_
             obtain rfl := Option.some.inj hp
             exact ⟨.inr rfl, res1 rfl rfl ⟨rfl, S378.back⟩⟩

end Go.Proofs
