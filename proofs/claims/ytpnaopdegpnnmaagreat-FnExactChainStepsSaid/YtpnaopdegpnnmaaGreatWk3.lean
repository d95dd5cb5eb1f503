/- Part of the walks and plain laws behind the claim: it proves helpers, under no condition beyond their own. -/
import Derived.Test.YtpnaopdegpnnmaaGreatWk2
set_option linter.unusedVariables false
set_option maxRecDepth 100000
namespace Go.Proofs
open Go.Mr Go.Pu Go.PF Go.RowKit

set_option maxHeartbeats 4000000 in
theorem w_laws_FnExactChainSteps {Ha : GH} {wa : World} (hs : Sl Ha wa) (a0 : Cnf) (v0_1 : Value) (p0_1 : RSl Ha (eL eI 1) 1 v0_1 a0.clauses) (v1 : Value) (a1 : List ResStep) (p1 : RSl Ha eResStep 4 v1 a1) (v2 : Value) (a2 : List ResStep) (p2 : RSl Ha eResStep 4 v2 a2) (a3 : Int) {r : Bool} (hp : (PF.laws_FnExactChainSteps a0 a1 a2 a3) = some r) :
    Calls Tryz.prog 3 #[Value.agg #[Value.int .i64 a0.vars, v0_1], v1, v2, Value.int .i64 a3] wa (Sc Ha wa (Value.bool r)) := by
  unfold PF.laws_FnExactChainSteps at hp
  have S0 := St.init hs
  refine calls_go (N := 147) (args := [Value.agg #[Value.int .i64 a0.vars, v0_1], v1, v2, Value.int .i64 a3]) Tryz.func3 rfl rfl rfl ?_
  refine FW.seq ?_
  refine FW.region ?_
  obtain ⟨w21, run22, S23, z24⟩ := S0.boxB (P := Tryz.prog) 24 [Value.int .i64 a0.vars, v0_1] (v := Value.agg #[Value.int .i64 a0.vars, v0_1]) rfl (ones_cons rfl (ones_cons p0_1.one ones_nil))
  refine FL.val rfl rfl rfl (E.box rfl run22) ?_
  obtain ⟨H25, S26, i27, at28⟩ := S23.sealBoxB (i := 0) (l' := []) rfl rfl
  refine FL.val rfl rfl rfl (E.assign (v := Value.bool false) rfl) ?_
  refine FL.nil ?_
  refine FW.seq ?_
  refine FW.region ?_
  refine FL.val rfl rfl rfl (E.assign (v := Value.int .i64 1048576) rfl) ?_
  refine FL.nil ?_
  refine FW.seq ?_
  refine FW.region ?_
  refine FL.val rfl rfl rfl (E.load rfl (run_loadA Tryz.isAgg24 Tryz.sizeOf24 ((at28.mono sgI).now S26.sl) rfl)) ?_
  refine FL.val rfl rfl rfl (E.move (v := Value.int .i64 1048576) rfl) ?_
  obtain ⟨r29, hr30, hp⟩ := bnd hp
  refine FL.call rfl rfl rfl (E.call Tryz.call4 (A2 rfl rfl)) (w_laws_szCnf S26.sl a0 v0_1 (p0_1.mono i27) 1048576 hr30) ?_
  rintro e w31 ⟨rfl, r32⟩
  refine ⟨_, rfl, ?_⟩
  have S33 := S26.call r32
  have z34 := r32.bel.size
  refine FL.val rfl rfl rfl (E.assign (v := Value.int .i64 r29) rfl) ?_
  refine FL.nil ?_
  refine FW.seq ?_
  refine FW.seq ?_
  refine FW.region ?_
  refine FL.val rfl rfl rfl (E.move (v := Value.int .i64 r29) rfl) ?_
  refine FL.val rfl rfl rfl (E.lss rfl rfl) ?_
  refine FL.nil ?_
  rcases ifB hp with ⟨c35, hp⟩ | ⟨c35, hp⟩
  ·
    refine FW.condT rfl c35 ?_
    refine FW.seq ?_
    refine FW.region ?_
    refine FL.val rfl rfl rfl (E.assign (v := Value.bool true) rfl) ?_
    refine FL.nil ?_
    refine FW.ret ?_
    obtain rfl := Option.some.inj hp
    exact ⟨.inr rfl, res1 rfl rfl ⟨rfl, S33.back⟩⟩
  ·
    refine FW.condF rfl c35 ?_
    refine FW.skip ?_
    refine FW.seq ?_
    refine FW.region ?_
    refine FL.val rfl rfl rfl (E.move (v := v1) rfl) ?_
    refine FL.val rfl rfl rfl (E.move (v := Value.int .i64 r29) rfl) ?_
    obtain ⟨r36, hr37, hp⟩ := bnd hp
    refine FL.call rfl rfl rfl (E.call Tryz.call5 (A2 rfl rfl)) (w_laws_szResStepS S33.sl v1 a1 (p1.mono i27) r29 hr37) ?_
    rintro e w38 ⟨rfl, r39⟩
    refine ⟨_, rfl, ?_⟩
    have S40 := S33.call r39
    have z41 := r39.bel.size
    refine FL.val rfl rfl rfl (E.assign (v := Value.int .i64 r36) rfl) ?_
    refine FL.nil ?_
    refine FW.seq ?_
    refine FW.seq ?_
    refine FW.region ?_
    refine FL.val rfl rfl rfl (E.move (v := Value.int .i64 r36) rfl) ?_
    refine FL.val rfl rfl rfl (E.lss rfl rfl) ?_
    refine FL.nil ?_
    rcases ifB hp with ⟨c42, hp⟩ | ⟨c42, hp⟩
    ·
      refine FW.condT rfl c42 ?_
      refine FW.seq ?_
      refine FW.region ?_
      refine FL.val rfl rfl rfl (E.assign (v := Value.bool true) rfl) ?_
      refine FL.nil ?_
      refine FW.ret ?_
      obtain rfl := Option.some.inj hp
      exact ⟨.inr rfl, res1 rfl rfl ⟨rfl, S40.back⟩⟩
    ·
      refine FW.condF rfl c42 ?_
      refine FW.skip ?_
      refine FW.seq ?_
      refine FW.region ?_
      refine FL.val rfl rfl rfl (E.move (v := v2) rfl) ?_
      refine FL.val rfl rfl rfl (E.move (v := Value.int .i64 r36) rfl) ?_
      obtain ⟨r43, hr44, hp⟩ := bnd hp
      refine FL.call rfl rfl rfl (E.call Tryz.call5 (A2 rfl rfl)) (w_laws_szResStepS S40.sl v2 a2 (p2.mono i27) r36 hr44) ?_
      rintro e w45 ⟨rfl, r46⟩
      refine ⟨_, rfl, ?_⟩
      have S47 := S40.call r46
      have z48 := r46.bel.size
      refine FL.val rfl rfl rfl (E.assign (v := Value.int .i64 r43) rfl) ?_
      refine FL.nil ?_
      refine FW.seq ?_
      refine FW.seq ?_
      refine FW.region ?_
      refine FL.val rfl rfl rfl (E.move (v := Value.int .i64 r43) rfl) ?_
      refine FL.val rfl rfl rfl (E.lss rfl rfl) ?_
      refine FL.nil ?_
      rcases ifB hp with ⟨c49, hp⟩ | ⟨c49, hp⟩
      ·
        refine FW.condT rfl c49 ?_
        refine FW.seq ?_
        refine FW.region ?_
        refine FL.val rfl rfl rfl (E.assign (v := Value.bool true) rfl) ?_
        refine FL.nil ?_
        refine FW.ret ?_
        obtain rfl := Option.some.inj hp
        exact ⟨.inr rfl, res1 rfl rfl ⟨rfl, S47.back⟩⟩
      ·
        refine FW.condF rfl c49 ?_
        refine FW.skip ?_
        refine FW.seq ?_
        refine FW.region ?_
        refine FL.val rfl rfl rfl (E.load rfl (run_loadA Tryz.isAgg24 Tryz.sizeOf24 ((at28.mono sgI).now S47.sl) rfl)) ?_
        obtain ⟨r50, hr51, hp⟩ := bnd hp
        refine FL.call rfl rfl rfl (E.call Tryz.call7 (A1 rfl)) (w_laws_toCnf S47.sl a0 v0_1 (p0_1.mono i27) hr51) ?_
        rintro e w53 ⟨H52, v56, rfl, r55, ⟨c59, ns58⟩⟩
        refine ⟨_, rfl, ?_⟩
        have h57 := ns58.rsl
        have nv60 : New H25 [v56] := New.of_up S47.sl h57.dom
        have S54 := S47.call r55
        have z61 := r55.bel.size
        have h57 := h57.mono (sg_of S54.sl)
        have ns58 := ns58.mono (sg_of S54.sl)
        refine FL.val rfl rfl rfl (E.move (v := v1) rfl) ?_
        obtain ⟨r62, hr63, hp⟩ := bnd hp
        refine FL.call rfl rfl rfl (E.call Tryz.call8 (A1 rfl)) (w_laws_toResStepS S54.sl v1 a1 (p1.mono (i27.tr r55.inc)) hr63) ?_
        rintro e w65 ⟨H64, v68, n69, cs70, rfl, r67, els71, nd72⟩
        refine ⟨_, rfl, ?_⟩
        have nv73 : New H52 cs70 := New.of_up S54.sl els71.dom
        obtain ⟨H74, r75, i76, ns79, nv78⟩ := r67.sealRowN (i := 0) (l' := []) rfl els71 nd72 (by decide) rfl
        have h77 := ns79.rsl
        have S66 := S54.call r75.run
        have z80 := r75.run.bel.size
        have h77 := h77.mono (sg_of S66.sl)
        have ns79 := ns79.mono (sg_of S66.sl)
        refine FL.val rfl rfl rfl (E.move (v := v2) rfl) ?_
        obtain ⟨r81, hr82, hp⟩ := bnd hp
        refine FL.call rfl rfl rfl (E.call Tryz.call8 (A1 rfl)) (w_laws_toResStepS S66.sl v2 a2 (p2.mono ((i27.tr r55.inc).tr r75.run.inc)) hr82) ?_
        rintro e w84 ⟨H83, v87, n88, cs89, rfl, r86, els90, nd91⟩
        refine ⟨_, rfl, ?_⟩
        have nv92 : New H74 cs89 := New.of_up S66.sl els90.dom
        obtain ⟨H93, r94, i95, ns98, nv97⟩ := r86.sealRowN (i := 0) (l' := []) rfl els90 nd91 (by decide) rfl
        have h96 := ns98.rsl
        have S85 := S66.call r94.run
        have z99 := r94.run.bel.size
        have h96 := h96.mono (sg_of S85.sl)
        have ns98 := ns98.mono (sg_of S85.sl)
        refine FL.val rfl rfl rfl (E.move (v := Value.int .i64 a3) rfl) ?_
        obtain ⟨r100, hr101, hp⟩ := bnd hp
        refine FL.call rfl rfl rfl (E.call Tryz.call6 (A4 rfl rfl rfl rfl)) (w_spec_ChainSteps S85.sl r50 v56 (h57.mono (sgI.tr (r75.run.inc.tr r94.run.inc))) v68 r62 (h77.mono (sgI.tr r94.run.inc)) v87 r81 (h96.mono sgI) a3 hr101) ?_
        rintro e w103 ⟨H102, v106, n107, cs108, rfl, r105, els109, nd110⟩
        refine ⟨_, rfl, ?_⟩
        have nv111 : New H93 cs108 := New.of_up S85.sl els109.dom
        obtain ⟨H112, r113, i114, ns117, nv116⟩ := r105.sealRowN (i := 0) (l' := []) rfl els109 nd110 (by decide) rfl
        have h115 := ns117.rsl
        have S104 := S85.call r113.run
        have z118 := r113.run.bel.size
        have h115 := h115.mono (sg_of S104.sl)
        have ns117 := ns117.mono (sg_of S104.sl)
        refine FL.val rfl rfl rfl (E.move (v := Value.tuple #[v106, Value.bool r100.2]) rfl) ?_
        refine FL.val rfl rfl rfl (E.extract (i := 0) rfl rfl) ?_
        refine FL.val rfl rfl rfl (E.extract (i := 1) rfl rfl) ?_
        refine FL.val rfl rfl rfl (E.assign (v := v106) rfl) ?_
        refine FL.val rfl rfl rfl (E.assign (v := Value.bool r100.2) rfl) ?_
        refine FL.nil ?_
        refine FW.seq ?_
        refine FW.region ?_
        refine FL.val rfl rfl rfl (E.load rfl (run_loadA Tryz.isAgg24 Tryz.sizeOf24 ((at28.mono (sgI.tr (((r55.inc.tr r75.run.inc).tr r94.run.inc).tr r113.run.inc))).now S104.sl) rfl)) ?_
        obtain ⟨r119, hr120, hp⟩ := bnd hp
        refine FL.call rfl rfl rfl (E.call Tryz.call7 (A1 rfl)) (w_laws_toCnf S104.sl a0 v0_1 (p0_1.mono ((((i27.tr r55.inc).tr r75.run.inc).tr r94.run.inc).tr r113.run.inc)) hr120) ?_
        rintro e w122 ⟨H121, v125, rfl, r124, ⟨c128, ns127⟩⟩
        refine ⟨_, rfl, ?_⟩
        have h126 := ns127.rsl
        have nv129 : New H112 [v125] := New.of_up S104.sl h126.dom
        have S123 := S104.call r124
        have z130 := r124.bel.size
        have h126 := h126.mono (sg_of S123.sl)
        have ns127 := ns127.mono (sg_of S123.sl)
        obtain ⟨w131, run132, S133, z134⟩ := S123.allocB (P := Tryz.prog) 31 [Value.int .i64 0, Value.slice none 0 0] Tryz.zeroValue31 rfl (ones_cons rfl (ones_cons rfl ones_nil))
        refine FL.val rfl rfl rfl (E.alloc run132) ?_
        obtain ⟨w135, run136, S137, z138⟩ := S133.store0B (P := Tryz.prog) (t := 31) (i := 0) (cs' := [Value.int .i64 r119.vars, v125]) (l' := [.box w122.heap.size 31 [Value.int .i64 r119.vars, v125]]) (v := Value.agg #[Value.int .i64 r119.vars, v125]) (c := [Value.int .i64 r119.vars, v125]) rfl Tryz.sizeOf31 rfl rfl (ones_cons rfl (ones_cons h126.one ones_nil)) (Nat.le_of_ble_eq_true rfl) rfl rfl
        refine FL.act rfl rfl (E.store rfl rfl run136) ?_
        obtain ⟨H139, S140, i141, at142⟩ := S137.sealBoxB (i := 0) (l' := []) rfl rfl
        refine FL.nil ?_
        refine FW.seq ?_
        refine FW.region ?_
        refine FL.val rfl rfl rfl (E.move (v := v1) rfl) ?_
        obtain ⟨r143, hr144, hp⟩ := bnd hp
        refine FL.call rfl rfl rfl (E.call Tryz.call8 (A1 rfl)) (w_laws_toResStepS S140.sl v1 a1 (p1.mono ((((((i27.tr r55.inc).tr r75.run.inc).tr r94.run.inc).tr r113.run.inc).tr r124.inc).tr i141)) hr144) ?_
        rintro e w146 ⟨H145, v149, n150, cs151, rfl, r148, els152, nd153⟩
        refine ⟨_, rfl, ?_⟩
        have nv154 : New H139 cs151 := New.of_up S140.sl els152.dom
        obtain ⟨H155, r156, i157, ns160, nv159⟩ := r148.sealRowN (i := 0) (l' := []) rfl els152 nd153 (by decide) rfl
        have h158 := ns160.rsl
        have S147 := S140.call r156.run
        have z161 := r156.run.bel.size
        have h158 := h158.mono (sg_of S147.sl)
        have ns160 := ns160.mono (sg_of S147.sl)
        refine FL.val rfl rfl rfl (E.assign (v := v149) rfl) ?_
        refine FL.nil ?_
        refine FW.seq ?_
        refine FW.region ?_
        refine FL.val rfl rfl rfl (E.move (v := v2) rfl) ?_
        obtain ⟨r162, hr163, hp⟩ := bnd hp
        refine FL.call rfl rfl rfl (E.call Tryz.call8 (A1 rfl)) (w_laws_toResStepS S147.sl v2 a2 (p2.mono (((((((i27.tr r55.inc).tr r75.run.inc).tr r94.run.inc).tr r113.run.inc).tr r124.inc).tr i141).tr r156.run.inc)) hr163) ?_
        rintro e w165 ⟨H164, v168, n169, cs170, rfl, r167, els171, nd172⟩
        refine ⟨_, rfl, ?_⟩
        have nv173 : New H155 cs170 := New.of_up S147.sl els171.dom
        obtain ⟨H174, r175, i176, ns179, nv178⟩ := r167.sealRowN (i := 0) (l' := []) rfl els171 nd172 (by decide) rfl
        have h177 := ns179.rsl
        have S166 := S147.call r175.run
        have z180 := r175.run.bel.size
        have h177 := h177.mono (sg_of S166.sl)
        have ns179 := ns179.mono (sg_of S166.sl)
        refine FL.val rfl rfl rfl (E.assign (v := v168) rfl) ?_
        refine FL.nil ?_
        refine FW.seq ?_
        refine FW.region ?_
        refine FL.val rfl rfl rfl (E.load rfl (run_loadA Tryz.isAgg31 Tryz.sizeOf31 ((at142.mono (sgI.tr (r156.run.inc.tr r175.run.inc))).now S166.sl) rfl)) ?_
        refine FL.val rfl rfl rfl (E.move (v := v149) rfl) ?_
        refine FL.val rfl rfl rfl (E.move (v := v168) rfl) ?_
        refine FL.val rfl rfl rfl (E.move (v := Value.int .i64 a3) rfl) ?_
        obtain ⟨r181, hr182, hp⟩ := bnd hp
        refine FL.call rfl rfl rfl (E.call Tryz.call9 (A4 rfl rfl rfl rfl)) (w_impl_ChainSteps S166.sl r119 v125 (h126.mono (sgI.tr ((i141.tr r156.run.inc).tr r175.run.inc))) v149 r143 (h158.mono (sgI.tr r175.run.inc)) v168 r162 (h177.mono sgI) a3 hr182) ?_
        rintro e w184 ⟨H183, v187, n188, cs189, rfl, r186, els190, nd191⟩
        refine ⟨_, rfl, ?_⟩
        have nv192 : New H174 cs189 := New.of_up S166.sl els190.dom
        obtain ⟨H193, r194, i195, ns198, nv197⟩ := r186.sealRowN (i := 0) (l' := []) rfl els190 nd191 (by decide) rfl
        have h196 := ns198.rsl
        have S185 := S166.call r194.run
        have z199 := r194.run.bel.size
        have h196 := h196.mono (sg_of S185.sl)
        have ns198 := ns198.mono (sg_of S185.sl)
        refine FL.val rfl rfl rfl (E.move (v := Value.tuple #[v187, Value.bool r181.2]) rfl) ?_
        refine FL.val rfl rfl rfl (E.extract (i := 0) rfl rfl) ?_
        refine FL.val rfl rfl rfl (E.extract (i := 1) rfl rfl) ?_
        refine FL.val rfl rfl rfl (E.assign (v := v187) rfl) ?_
        refine FL.val rfl rfl rfl (E.assign (v := Value.bool r181.2) rfl) ?_
        refine FL.nil ?_
        refine FW.seq ?_
        refine FW.seq ?_
        refine FW.region ?_
        refine FL.val rfl rfl rfl (E.move (v := v187) rfl) ?_
        refine FL.val rfl rfl rfl (E.move (v := v106) rfl) ?_
        obtain ⟨r200, hr201, hp⟩ := bnd hp
        refine FL.call rfl rfl rfl (E.call Tryz.call10 (A2 rfl rfl)) (w_laws_eqResStepS S185.sl v187 r181.1 (h196.mono sgI) v106 r100.1 (h115.mono (sgI.tr ((((r124.inc.tr i141).tr r156.run.inc).tr r175.run.inc).tr r194.run.inc))) hr201) ?_
        rintro e w202 ⟨rfl, r203⟩
        refine ⟨_, rfl, ?_⟩
        have S204 := S185.call r203
        have z205 := r203.bel.size
        refine FL.val rfl rfl rfl (E.not rfl) ?_
        refine FL.val rfl rfl rfl (E.move (v := Value.bool (!r200)) rfl) ?_
        refine FL.cut 4 (fun f w => ∃ H : GH, St Ha wa H w [] ∧ Inc H193 H ∧ f 1 = v1 ∧ f 2 = v2 ∧ f 3 = Value.int .i64 a3 ∧ f 4 = Value.pointer (some ⟨wa.heap.size, 0, none⟩) ∧ f 10 = v106 ∧ f 11 = Value.bool r100.2 ∧ f 12 = Value.pointer (some ⟨w122.heap.size, 0, none⟩) ∧ f 13 = v149 ∧ f 14 = v168 ∧ f 15 = v187 ∧ f 16 = Value.bool r181.2 ∧ f 70 = Value.bool (bif (!r200) then true else (!(r181.2 == r100.2)))) ?_ ?_
        ·
          rcases bcase (!r200) with c212 | c212
          ·
            refine FL.skip (wF_no rfl rfl rfl c212) rfl ?_
            refine FL.skip (wF_no rfl rfl rfl c212) rfl ?_
            refine FL.skip (wF_no rfl rfl rfl c212) rfl ?_
            refine FL.val rfl rfl rfl (E.pickT rfl c212 rfl) ?_
            exact FL.nil ⟨rfl, _, S204, (Inc.rfl _), rfl, rfl, rfl, rfl, rfl, rfl, rfl, rfl, rfl, rfl, rfl, (congrArg Value.bool (bifT c212).symm)⟩
          ·
            refine FL.val (wF_yes rfl rfl rfl c212) rfl rfl (E.move (v := Value.bool r181.2) rfl) ?_
            refine FL.val (wF_yes rfl rfl rfl c212) rfl rfl (E.move (v := Value.bool r100.2) rfl) ?_
            refine FL.val (wF_yes rfl rfl rfl c212) rfl rfl (E.neqB Tryz.runUnderlying4 rfl rfl) ?_
            refine FL.val rfl rfl rfl (E.pickF rfl c212 rfl) ?_
            exact FL.nil ⟨rfl, _, S204, (Inc.rfl _), rfl, rfl, rfl, rfl, rfl, rfl, rfl, rfl, rfl, rfl, rfl, (congrArg Value.bool (bifF c212).symm)⟩
        rintro f211 w210 ⟨H207, S208, i209, k213, k214, k215, k216, k217, k218, k219, k220, k221, k222, k223, k224⟩
        refine FL.nil ?_
        rcases ifB hp with ⟨c225, hp⟩ | ⟨c225, hp⟩
        ·
          refine FW.condT k224 c225 ?_
          refine FW.seq ?_
          refine FW.region ?_
          refine FL.val rfl rfl rfl (E.assign (v := Value.bool false) rfl) ?_
          refine FL.nil ?_
          refine FW.ret ?_
          obtain rfl := Option.some.inj hp
          exact ⟨.inr rfl, res1 rfl rfl ⟨rfl, S208.back⟩⟩
        ·
          refine FW.condF k224 c225 ?_
          refine FW.skip ?_
          refine FW.seq ?_
          refine FW.seq ?_
          obtain ⟨r1426, hr1427, hp⟩ := bnd hp
          obtain ⟨r1826, hr1827, hp⟩ := bnd hp
          refine FW.drawA (Sl H207) (fun f w => ∃ H : GH, St Ha wa H w [] ∧ Inc H207 H ∧ f 1 = v1 ∧ f 2 = v2 ∧ f 3 = Value.int .i64 a3 ∧ f 4 = Value.pointer (some ⟨wa.heap.size, 0, none⟩) ∧ f 10 = v106 ∧ f 11 = Value.bool r100.2 ∧ f 12 = Value.pointer (some ⟨w122.heap.size, 0, none⟩) ∧ f 13 = v149 ∧ f 14 = v168 ∧ f 15 = v187 ∧ f 16 = Value.bool r181.2 ∧ f 75 = Value.bool (!r1826)) (by kernel_rfl) S208.sl ?_ ?_
          ·
            intro w226 r227
            have S228 := S208.call r227
            refine FA.take (i := 0) (l' := #[true, false, false, false, false]) rfl (by kernel_rfl) (by kernel_rfl) (by kernel_rfl) (by kernel_rfl) S228.sl rfl rfl rfl (fun w' hw' => (E.load k219 (run_loadA Tryz.isAgg31 Tryz.sizeOf31 ((at142.mono (sgI.tr (((r156.run.inc.tr r175.run.inc).tr r194.run.inc).tr i209))).now hw') rfl))) ?_
            refine FA.take (i := 1) (l' := #[true, true, false, false, false]) rfl (by kernel_rfl) (by kernel_rfl) (by kernel_rfl) (by kernel_rfl) S228.sl rfl rfl rfl (fun w' hw' => (E.load k216 (run_loadA Tryz.isAgg24 Tryz.sizeOf24 ((at28.mono (sgI.tr (((((((((r55.inc.tr r75.run.inc).tr r94.run.inc).tr r113.run.inc).tr r124.inc).tr i141).tr r156.run.inc).tr r175.run.inc).tr r194.run.inc).tr i209))).now hw') rfl))) ?_
            refine FA.all1 (i := 2) (by kernel_rfl) ?_
            ·
              refine FO.call (l' := #[true, true, true, false, false]) rfl (by kernel_rfl) rfl rfl rfl (E.call Tryz.call7 (A1 rfl)) (w_laws_toCnf S228.sl a0 v0_1 (p0_1.mono ((((((((((i27.tr r55.inc).tr r75.run.inc).tr r94.run.inc).tr r113.run.inc).tr r124.inc).tr i141).tr r156.run.inc).tr r175.run.inc).tr r194.run.inc).tr i209)) hr1427) ?_
              rintro e w1429 ⟨H1428, v1432, rfl, r1431, ⟨c1435, ns1434⟩⟩
              refine ⟨_, rfl, ?_⟩
              have h1433 := ns1434.rsl
              have nv1436 : New H207 [v1432] := New.of_up S228.sl h1433.dom
              have S1430 := S228.call r1431
              have z1437 := r1431.bel.size
              have h1433 := h1433.mono (sg_of S1430.sl)
              have ns1434 := ns1434.mono (sg_of S1430.sl)
              refine ⟨(Sl.of_inc r1431.inc S1430.sl), ?_⟩
              refine FA.all1 (i := 3) (by kernel_rfl) ?_
              ·
                refine FO.call (l' := #[true, true, true, true, false]) rfl (by kernel_rfl) rfl rfl rfl (E.call Tryz.call11 (A2 rfl rfl)) (w_laws_eqCnf S1430.sl r119 v125 (h126.mono (sgI.tr (((((i141.tr r156.run.inc).tr r175.run.inc).tr r194.run.inc).tr i209).tr r1431.inc))) r1426 v1432 (h1433.mono sgI) hr1827) ?_
                rintro e w1828 ⟨rfl, r1829⟩
                refine ⟨_, rfl, ?_⟩
                have S1830 := S1430.call r1829
                have z1831 := r1829.bel.size
                refine ⟨(Sl.of_inc r1431.inc S1830.sl), ?_⟩
                refine FA.take (i := 4) (l' := #[true, true, true, true, true]) rfl (by kernel_rfl) (by kernel_rfl) (by kernel_rfl) (by kernel_rfl) (Sl.of_inc r1431.inc S1830.sl) rfl rfl rfl (fun w' hw' => (E.not rfl)) ?_
                exact FA.done (by kernel_rfl) ⟨_, S1830, r1431.inc, k213, k214, k215, k216, k217, k218, k219, k220, k221, k222, k223, rfl⟩
          ·
            rintro f3031 w3030 ⟨H3027, S3028, i3029, k3032, k3033, k3034, k3035, k3036, k3037, k3038, k3039, k3040, k3041, k3042, k3043⟩
            rcases ifB hp with ⟨c3044, hp⟩ | ⟨c3044, hp⟩
            ·
              refine FW.condT k3043 c3044 ?_
              refine FW.seq ?_
              refine FW.region ?_
              refine FL.val rfl rfl rfl (E.assign (v := Value.bool false) rfl) ?_
              refine FL.nil ?_
              refine FW.ret ?_
              obtain rfl := Option.some.inj hp
              exact ⟨.inr rfl, res1 rfl rfl ⟨rfl, S3028.back⟩⟩
            ·
              refine FW.condF k3043 c3044 ?_
              refine FW.skip ?_
              refine FW.seq ?_
              refine FW.seq ?_
              refine FW.region ?_
              refine FL.val rfl rfl rfl (E.move k3039) ?_
              refine FL.val rfl rfl rfl (E.move k3032) ?_
              obtain ⟨r3045, hr3046, hp⟩ := bnd hp
              refine FL.call rfl rfl rfl (E.call Tryz.call8 (A1 rfl)) (w_laws_toResStepS S3028.sl v1 a1 (p1.mono (((((((((((i27.tr r55.inc).tr r75.run.inc).tr r94.run.inc).tr r113.run.inc).tr r124.inc).tr i141).tr r156.run.inc).tr r175.run.inc).tr r194.run.inc).tr i209).tr i3029)) hr3046) ?_
              rintro e w3048 ⟨H3047, v3051, n3052, cs3053, rfl, r3050, els3054, nd3055⟩
              refine ⟨_, rfl, ?_⟩
              have nv3056 : New H3027 cs3053 := New.of_up S3028.sl els3054.dom
              obtain ⟨H3057, r3058, i3059, ns3062, nv3061⟩ := r3050.sealRowN (i := 0) (l' := []) rfl els3054 nd3055 (by decide) rfl
              have h3060 := ns3062.rsl
              have S3049 := S3028.call r3058.run
              have z3063 := r3058.run.bel.size
              have h3060 := h3060.mono (sg_of S3049.sl)
              have ns3062 := ns3062.mono (sg_of S3049.sl)
              obtain ⟨r3064, hr3065, hp⟩ := bnd hp
              refine FL.call rfl rfl rfl (E.call Tryz.call10 (A2 rfl rfl)) (w_laws_eqResStepS S3049.sl v149 r143 (h158.mono (sgI.tr ((((r175.run.inc.tr r194.run.inc).tr i209).tr i3029).tr r3058.run.inc))) v3051 r3045 (h3060.mono sgI) hr3065) ?_
              rintro e w3066 ⟨rfl, r3067⟩
              refine ⟨_, rfl, ?_⟩
              have S3068 := S3049.call r3067
              have z3069 := r3067.bel.size
              refine FL.val rfl rfl rfl (E.not rfl) ?_
              refine FL.nil ?_
              rcases ifB hp with ⟨c3070, hp⟩ | ⟨c3070, hp⟩
              ·
                refine FW.condT rfl c3070 ?_
                refine FW.seq ?_
                refine FW.region ?_
                refine FL.val rfl rfl rfl (E.assign (v := Value.bool false) rfl) ?_
                refine FL.nil ?_
                refine FW.ret ?_
                obtain rfl := Option.some.inj hp
                exact ⟨.inr rfl, res1 rfl rfl ⟨rfl, S3068.back⟩⟩
              ·
                refine FW.condF rfl c3070 ?_
                refine FW.skip ?_
                refine FW.seq ?_
                refine FW.seq ?_
                refine FW.region ?_
                refine FL.val rfl rfl rfl (E.move k3040) ?_
                refine FL.val rfl rfl rfl (E.move k3033) ?_
                obtain ⟨r3071, hr3072, hp⟩ := bnd hp
                refine FL.call rfl rfl rfl (E.call Tryz.call8 (A1 rfl)) (w_laws_toResStepS S3068.sl v2 a2 (p2.mono ((((((((((((i27.tr r55.inc).tr r75.run.inc).tr r94.run.inc).tr r113.run.inc).tr r124.inc).tr i141).tr r156.run.inc).tr r175.run.inc).tr r194.run.inc).tr i209).tr i3029).tr r3058.run.inc)) hr3072) ?_
                rintro e w3074 ⟨H3073, v3077, n3078, cs3079, rfl, r3076, els3080, nd3081⟩
                refine ⟨_, rfl, ?_⟩
                have nv3082 : New H3057 cs3079 := New.of_up S3068.sl els3080.dom
                obtain ⟨H3083, r3084, i3085, ns3088, nv3087⟩ := r3076.sealRowN (i := 0) (l' := []) rfl els3080 nd3081 (by decide) rfl
                have h3086 := ns3088.rsl
                have S3075 := S3068.call r3084.run
                have z3089 := r3084.run.bel.size
                have h3086 := h3086.mono (sg_of S3075.sl)
                have ns3088 := ns3088.mono (sg_of S3075.sl)
                obtain ⟨r3090, hr3091, hp⟩ := bnd hp
                refine FL.call rfl rfl rfl (E.call Tryz.call10 (A2 rfl rfl)) (w_laws_eqResStepS S3075.sl v168 r162 (h177.mono (sgI.tr ((((r194.run.inc.tr i209).tr i3029).tr r3058.run.inc).tr r3084.run.inc))) v3077 r3071 (h3086.mono sgI) hr3091) ?_
                rintro e w3092 ⟨rfl, r3093⟩
                refine ⟨_, rfl, ?_⟩
                have S3094 := S3075.call r3093
                have z3095 := r3093.bel.size
                refine FL.val rfl rfl rfl (E.not rfl) ?_
                refine FL.nil ?_
                rcases ifB hp with ⟨c3096, hp⟩ | ⟨c3096, hp⟩
                ·
                  refine FW.condT rfl c3096 ?_
                  refine FW.seq ?_
                  refine FW.region ?_
                  refine FL.val rfl rfl rfl (E.assign (v := Value.bool false) rfl) ?_
                  refine FL.nil ?_
                  refine FW.ret ?_
                  obtain rfl := Option.some.inj hp
                  exact ⟨.inr rfl, res1 rfl rfl ⟨rfl, S3094.back⟩⟩
                ·
                  refine FW.condF rfl c3096 ?_
                  refine FW.skip ?_
                  refine FW.seq ?_
                  refine FW.region ?_
                  refine FL.val rfl rfl rfl (E.assign (v := Value.int .i64 1) rfl) ?_
                  refine FL.nil ?_
                  refine FW.seq ?_
                  refine FW.region ?_
                  refine FL.val rfl rfl rfl (E.load k3038 (run_loadA Tryz.isAgg31 Tryz.sizeOf31 ((at142.mono (sgI.tr ((((((r156.run.inc.tr r175.run.inc).tr r194.run.inc).tr i209).tr i3029).tr r3058.run.inc).tr r3084.run.inc))).now S3094.sl) rfl)) ?_
                  refine FL.val rfl rfl rfl (E.move (v := Value.int .i64 1) rfl) ?_
                  refine FL.call rfl rfl rfl (E.call Tryz.call12 (A2 rfl rfl)) (w_laws_markCnf S3094 hs r119 v125 c128 (ns127.mono (sg_up (by omega) (((((((i141.tr r156.run.inc).tr r175.run.inc).tr r194.run.inc).tr i209).tr i3029).tr r3058.run.inc).tr r3084.run.inc))) 1) ?_
                  rintro e w3098 ⟨H3097, c3103, rfl, S3099, ns3105, hb3104, o3101⟩
                  refine ⟨_, rfl, ?_⟩
                  have o3102 := (ns127.mono (sg_mono (hi := w122.heap.size) (((((((i141.tr r156.run.inc).tr r175.run.inc).tr r194.run.inc).tr i209).tr i3029).tr r3058.run.inc).tr r3084.run.inc))).outside o3101
                  have ns3105 := ns127.span (eL_loc eI_flat) (by omega) ns3105 hb3104
                  have h3100 := ns3105.rsl
                  have f3106 := at28.mono ((sg_mono (lo := wa.heap.size) (hi := wa.heap.size + 1) ((((((((((((r55.inc.tr r75.run.inc).tr r94.run.inc).tr r113.run.inc).tr r124.inc).tr i141).tr r156.run.inc).tr r175.run.inc).tr r194.run.inc).tr i209).tr i3029).tr r3058.run.inc).tr r3084.run.inc)).tr (sg_keep o3102 (by omega)))
                  have f3107 := h115.mono ((sg_mono (lo := w84.heap.size) (hi := w103.heap.size) ((((((((r124.inc.tr i141).tr r156.run.inc).tr r175.run.inc).tr r194.run.inc).tr i209).tr i3029).tr r3058.run.inc).tr r3084.run.inc)).tr (sg_keep o3102 (by omega)))
                  have f3108 := ns117.mono ((sg_mono (lo := w84.heap.size) (hi := w103.heap.size) ((((((((r124.inc.tr i141).tr r156.run.inc).tr r175.run.inc).tr r194.run.inc).tr i209).tr i3029).tr r3058.run.inc).tr r3084.run.inc)).tr (sg_keep o3102 (by omega)))
                  have f3109 := at142.mono ((sg_mono (lo := w122.heap.size) (hi := w122.heap.size + 1) ((((((r156.run.inc.tr r175.run.inc).tr r194.run.inc).tr i209).tr i3029).tr r3058.run.inc).tr r3084.run.inc)).tr (sg_keep o3102 (by omega)))
                  have f3110 := h158.mono ((sg_mono (lo := w135.heap.size) (hi := w146.heap.size) (((((r175.run.inc.tr r194.run.inc).tr i209).tr i3029).tr r3058.run.inc).tr r3084.run.inc)).tr (sg_keep o3102 (by omega)))
                  have f3111 := ns160.mono ((sg_mono (lo := w135.heap.size) (hi := w146.heap.size) (((((r175.run.inc.tr r194.run.inc).tr i209).tr i3029).tr r3058.run.inc).tr r3084.run.inc)).tr (sg_keep o3102 (by omega)))
                  have f3112 := h177.mono ((sg_mono (lo := w146.heap.size) (hi := w165.heap.size) ((((r194.run.inc.tr i209).tr i3029).tr r3058.run.inc).tr r3084.run.inc)).tr (sg_keep o3102 (by omega)))
                  have f3113 := ns179.mono ((sg_mono (lo := w146.heap.size) (hi := w165.heap.size) ((((r194.run.inc.tr i209).tr i3029).tr r3058.run.inc).tr r3084.run.inc)).tr (sg_keep o3102 (by omega)))
                  have f3114 := h196.mono ((sg_mono (lo := w165.heap.size) (hi := w184.heap.size) (((i209.tr i3029).tr r3058.run.inc).tr r3084.run.inc)).tr (sg_keep o3102 (by omega)))
                  have f3115 := ns198.mono ((sg_mono (lo := w165.heap.size) (hi := w184.heap.size) (((i209.tr i3029).tr r3058.run.inc).tr r3084.run.inc)).tr (sg_keep o3102 (by omega)))
                  refine FL.val rfl rfl rfl (E.assign (v := Value.int .i64 ((PF.laws_markCnf r119 1).2)) rfl) ?_
                  refine FL.nil ?_
                  refine FW.seq ?_
                  refine FW.region ?_
                  refine FL.val rfl rfl rfl (E.move k3039) ?_
                  refine FL.val rfl rfl rfl (E.move (v := Value.int .i64 ((PF.laws_markCnf r119 1).2)) rfl) ?_
                  refine FL.call rfl rfl rfl (E.call Tryz.call13 (A2 rfl rfl)) (w_laws_markResStepS S3099 hs v149 r143 cs151 (f3111.mono (sg_up (by omega) (Inc.rfl _))) ((PF.laws_markCnf r119 1).2)) ?_
                  rintro e w3117 ⟨H3116, c3122, rfl, S3118, ns3124, hb3123, o3120⟩
                  refine ⟨_, rfl, ?_⟩
                  have o3121 := (f3111.mono (sg_mono (hi := w146.heap.size) (Inc.rfl _))).outside o3120
                  have ns3124 := f3111.span eResStep_loc (by omega) ns3124 hb3123
                  have h3119 := ns3124.rsl
                  have f3125 := f3106.mono ((sg_mono (lo := wa.heap.size) (hi := wa.heap.size + 1) (Inc.rfl _)).tr (sg_keep o3121 (by omega)))
                  have f3126 := f3107.mono ((sg_mono (lo := w84.heap.size) (hi := w103.heap.size) (Inc.rfl _)).tr (sg_keep o3121 (by omega)))
                  have f3127 := f3108.mono ((sg_mono (lo := w84.heap.size) (hi := w103.heap.size) (Inc.rfl _)).tr (sg_keep o3121 (by omega)))
                  have f3128 := f3109.mono ((sg_mono (lo := w122.heap.size) (hi := w122.heap.size + 1) (Inc.rfl _)).tr (sg_keep o3121 (by omega)))
                  have f3129 := h3100.mono ((sg_mono (lo := w103.heap.size) (hi := w122.heap.size) (Inc.rfl _)).tr (sg_keep o3121 (by omega)))
                  have f3130 := ns3105.mono ((sg_mono (lo := w103.heap.size) (hi := w122.heap.size) (Inc.rfl _)).tr (sg_keep o3121 (by omega)))
                  have f3131 := f3112.mono ((sg_mono (lo := w146.heap.size) (hi := w165.heap.size) (Inc.rfl _)).tr (sg_keep o3121 (by omega)))
                  have f3132 := f3113.mono ((sg_mono (lo := w146.heap.size) (hi := w165.heap.size) (Inc.rfl _)).tr (sg_keep o3121 (by omega)))
                  have f3133 := f3114.mono ((sg_mono (lo := w165.heap.size) (hi := w184.heap.size) (Inc.rfl _)).tr (sg_keep o3121 (by omega)))
                  have f3134 := f3115.mono ((sg_mono (lo := w165.heap.size) (hi := w184.heap.size) (Inc.rfl _)).tr (sg_keep o3121 (by omega)))
                  refine FL.val rfl rfl rfl (E.assign (v := Value.int .i64 ((PF.laws_markResStepS r143 ((PF.laws_markCnf r119 1).2)).2)) rfl) ?_
                  refine FL.nil ?_
                  refine FW.seq ?_
                  refine FW.region ?_
                  refine FL.val rfl rfl rfl (E.move k3040) ?_
                  refine FL.val rfl rfl rfl (E.move (v := Value.int .i64 ((PF.laws_markResStepS r143 ((PF.laws_markCnf r119 1).2)).2)) rfl) ?_
                  refine FL.call rfl rfl rfl (E.call Tryz.call13 (A2 rfl rfl)) (w_laws_markResStepS S3118 hs v168 r162 cs170 (f3132.mono (sg_up (by omega) (Inc.rfl _))) ((PF.laws_markResStepS r143 ((PF.laws_markCnf r119 1).2)).2)) ?_
                  rintro e w3136 ⟨H3135, c3141, rfl, S3137, ns3143, hb3142, o3139⟩
                  refine ⟨_, rfl, ?_⟩
                  have o3140 := (f3132.mono (sg_mono (hi := w165.heap.size) (Inc.rfl _))).outside o3139
                  have ns3143 := f3132.span eResStep_loc (by omega) ns3143 hb3142
                  have h3138 := ns3143.rsl
                  have f3144 := f3125.mono ((sg_mono (lo := wa.heap.size) (hi := wa.heap.size + 1) (Inc.rfl _)).tr (sg_keep o3140 (by omega)))
                  have f3145 := f3126.mono ((sg_mono (lo := w84.heap.size) (hi := w103.heap.size) (Inc.rfl _)).tr (sg_keep o3140 (by omega)))
                  have f3146 := f3127.mono ((sg_mono (lo := w84.heap.size) (hi := w103.heap.size) (Inc.rfl _)).tr (sg_keep o3140 (by omega)))
                  have f3147 := f3128.mono ((sg_mono (lo := w122.heap.size) (hi := w122.heap.size + 1) (Inc.rfl _)).tr (sg_keep o3140 (by omega)))
                  have f3148 := f3129.mono ((sg_mono (lo := w103.heap.size) (hi := w122.heap.size) (Inc.rfl _)).tr (sg_keep o3140 (by omega)))
                  have f3149 := f3130.mono ((sg_mono (lo := w103.heap.size) (hi := w122.heap.size) (Inc.rfl _)).tr (sg_keep o3140 (by omega)))
                  have f3150 := h3119.mono ((sg_mono (lo := w135.heap.size) (hi := w146.heap.size) (Inc.rfl _)).tr (sg_keep o3140 (by omega)))
                  have f3151 := ns3124.mono ((sg_mono (lo := w135.heap.size) (hi := w146.heap.size) (Inc.rfl _)).tr (sg_keep o3140 (by omega)))
                  have f3152 := f3133.mono ((sg_mono (lo := w165.heap.size) (hi := w184.heap.size) (Inc.rfl _)).tr (sg_keep o3140 (by omega)))
                  have f3153 := f3134.mono ((sg_mono (lo := w165.heap.size) (hi := w184.heap.size) (Inc.rfl _)).tr (sg_keep o3140 (by omega)))
                  refine FL.val rfl rfl rfl (E.assign (v := Value.int .i64 ((PF.laws_markResStepS r162 ((PF.laws_markResStepS r143 ((PF.laws_markCnf r119 1).2)).2)).2)) rfl) ?_
                  refine FL.nil ?_
                  refine FW.seq ?_
                  refine FW.seq ?_
                  refine FW.region ?_
                  refine FL.val rfl rfl rfl (E.move (v := Value.int .i64 ((PF.laws_markResStepS r162 ((PF.laws_markResStepS r143 ((PF.laws_markCnf r119 1).2)).2)).2)) rfl) ?_
                  refine FL.val rfl rfl rfl (E.lss rfl rfl) ?_
                  refine FL.val rfl rfl rfl (E.move (v := Value.bool (decide ((PF.laws_markResStepS r162 ((PF.laws_markResStepS r143 ((PF.laws_markCnf r119 1).2)).2)).2 < 0))) rfl) ?_
                  obtain ⟨t3160, hqt3160, hp⟩ := bnd hp
                  refine FL.cut 5 (fun f w => ∃ H : GH, St Ha wa H w [] ∧ Inc H3135 H ∧ f 1 = v1 ∧ f 2 = v2 ∧ f 3 = Value.int .i64 a3 ∧ f 4 = Value.pointer (some ⟨wa.heap.size, 0, none⟩) ∧ f 10 = v106 ∧ f 11 = Value.bool r100.2 ∧ f 15 = v187 ∧ f 16 = Value.bool r181.2 ∧ f 102 = Value.bool t3160) ?_ ?_
                  ·
                    clear hp; have hp := hqt3160; clear hqt3160
                    rcases ifB hp with ⟨c3166, hp⟩ | ⟨c3166, hp⟩
                    ·
                      refine FL.skip (wF_no rfl rfl rfl c3166) rfl ?_
                      refine FL.skip (wF_no rfl rfl rfl c3166) rfl ?_
                      refine FL.skip (wF_no rfl rfl rfl c3166) rfl ?_
                      refine FL.skip (wF_no rfl rfl rfl c3166) rfl ?_
                      obtain rfl := Option.some.inj hp
                      refine FL.val rfl rfl rfl (E.pickT rfl c3166 rfl) ?_
                      exact FL.nil ⟨rfl, _, S3137, (Inc.rfl _), k3032, k3033, k3034, k3035, k3036, k3037, k3041, k3042, rfl⟩
                    ·
                      refine FL.val (wF_yes rfl rfl rfl c3166) rfl rfl (E.move k3041) ?_
                      refine FL.val (wF_yes rfl rfl rfl c3166) rfl rfl (E.move k3036) ?_
                      obtain ⟨r3167, hr3168, hp⟩ := bnd hp
                      refine FL.call (wF_yes rfl rfl rfl c3166) rfl rfl (E.call Tryz.call10 (A2 rfl rfl)) (w_laws_eqResStepS S3137.sl v187 r181.1 (f3152.mono sgI) v106 r100.1 (f3145.mono sgI) hr3168) ?_
                      rintro e w3169 ⟨rfl, r3170⟩
                      refine ⟨_, rfl, ?_⟩
                      have S3171 := S3137.call r3170
                      have z3172 := r3170.bel.size
                      refine FL.val (wF_yes rfl rfl rfl c3166) rfl rfl (E.not rfl) ?_
                      obtain rfl := Option.some.inj hp
                      refine FL.val rfl rfl rfl (E.pickF rfl c3166 rfl) ?_
                      exact FL.nil ⟨rfl, _, S3171, (Inc.rfl _), k3032, k3033, k3034, k3035, k3036, k3037, k3041, k3042, rfl⟩
                  rintro f3165 w3164 ⟨H3161, S3162, i3163, k3173, k3174, k3175, k3176, k3177, k3178, k3179, k3180, k3181⟩
                  refine FL.val rfl rfl rfl (E.move k3181) ?_
                  refine FL.cut 4 (fun f w => ∃ H : GH, St Ha wa H w [] ∧ Inc H3161 H ∧ f 1 = v1 ∧ f 2 = v2 ∧ f 3 = Value.int .i64 a3 ∧ f 4 = Value.pointer (some ⟨wa.heap.size, 0, none⟩) ∧ f 10 = v106 ∧ f 11 = Value.bool r100.2 ∧ f 15 = v187 ∧ f 107 = Value.bool (bif t3160 then true else (!(r181.2 == r100.2)))) ?_ ?_
                  ·
                    rcases bcase t3160 with c3188 | c3188
                    ·
                      refine FL.skip (wF_no rfl rfl rfl c3188) rfl ?_
                      refine FL.skip (wF_no rfl rfl rfl c3188) rfl ?_
                      refine FL.skip (wF_no rfl rfl rfl c3188) rfl ?_
                      refine FL.val rfl rfl rfl (E.pickT rfl c3188 rfl) ?_
                      exact FL.nil ⟨rfl, _, S3162, (Inc.rfl _), k3173, k3174, k3175, k3176, k3177, k3178, k3179, (congrArg Value.bool (bifT c3188).symm)⟩
                    ·
                      refine FL.val (wF_yes rfl rfl rfl c3188) rfl rfl (E.move k3180) ?_
                      refine FL.val (wF_yes rfl rfl rfl c3188) rfl rfl (E.move k3178) ?_
                      refine FL.val (wF_yes rfl rfl rfl c3188) rfl rfl (E.neqB Tryz.runUnderlying4 rfl rfl) ?_
                      refine FL.val rfl rfl rfl (E.pickF rfl c3188 rfl) ?_
                      exact FL.nil ⟨rfl, _, S3162, (Inc.rfl _), k3173, k3174, k3175, k3176, k3177, k3178, k3179, (congrArg Value.bool (bifF c3188).symm)⟩
                  rintro f3187 w3186 ⟨H3183, S3184, i3185, k3189, k3190, k3191, k3192, k3193, k3194, k3195, k3196⟩
                  refine FL.nil ?_
                  rcases ifB hp with ⟨c3197, hp⟩ | ⟨c3197, hp⟩
                  ·
                    refine FW.condT k3196 c3197 ?_
                    refine FW.seq ?_
                    refine FW.region ?_
                    refine FL.val rfl rfl rfl (E.assign (v := Value.bool false) rfl) ?_
                    refine FL.nil ?_
                    refine FW.ret ?_
                    obtain rfl := Option.some.inj hp
                    exact ⟨.inr rfl, res1 rfl rfl ⟨rfl, S3184.back⟩⟩
                  ·
                    refine FW.condF k3196 c3197 ?_
                    refine FW.skip ?_
                    refine FW.seq ?_
                    refine FW.region ?_
                    refine FL.val rfl rfl rfl (E.assign (v := Value.int .i64 1) rfl) ?_
                    refine FL.nil ?_
                    refine FW.seq ?_
                    refine FW.region ?_
                    refine FL.val rfl rfl rfl (E.move k3195) ?_
                    refine FL.val rfl rfl rfl (E.move (v := Value.int .i64 1) rfl) ?_
                    refine FL.call rfl rfl rfl (E.call Tryz.call13 (A2 rfl rfl)) (w_laws_markResStepS S3184 hs v187 r181.1 cs189 (f3153.mono (sg_up (by omega) (i3163.tr i3185))) 1) ?_
                    rintro e w3199 ⟨H3198, c3204, rfl, S3200, ns3206, hb3205, o3202⟩
                    refine ⟨_, rfl, ?_⟩
                    have o3203 := (f3153.mono (sg_mono (hi := w184.heap.size) (i3163.tr i3185))).outside o3202
                    have ns3206 := f3153.span eResStep_loc (by omega) ns3206 hb3205
                    have h3201 := ns3206.rsl
                    have f3207 := f3144.mono ((sg_mono (lo := wa.heap.size) (hi := wa.heap.size + 1) (i3163.tr i3185)).tr (sg_keep o3203 (by omega)))
                    have f3208 := f3145.mono ((sg_mono (lo := w84.heap.size) (hi := w103.heap.size) (i3163.tr i3185)).tr (sg_keep o3203 (by omega)))
                    have f3209 := f3146.mono ((sg_mono (lo := w84.heap.size) (hi := w103.heap.size) (i3163.tr i3185)).tr (sg_keep o3203 (by omega)))
                    refine FL.val rfl rfl rfl (E.assign (v := Value.int .i64 ((PF.laws_markResStepS r181.1 1).2)) rfl) ?_
                    refine FL.nil ?_
                    refine FW.seq ?_
                    refine FW.region ?_
                    refine FL.val rfl rfl rfl (E.assign (v := Value.int .i64 1) rfl) ?_
                    refine FL.nil ?_
                    refine FW.seq ?_
                    refine FW.region ?_
                    refine FL.val rfl rfl rfl (E.move k3195) ?_
                    refine FL.val rfl rfl rfl (E.move (v := Value.int .i64 1) rfl) ?_
                    obtain ⟨r3210, hr3211, hp⟩ := bnd hp
                    refine FL.call rfl rfl rfl (E.call Tryz.call14 (A2 rfl rfl)) (w_laws_heldResStepS S3200.sl v187 ((PF.laws_markResStepS r181.1 1).1) (h3201.mono sgI) 1 hr3211) ?_
                    rintro e w3212 ⟨rfl, r3213⟩
                    refine ⟨_, rfl, ?_⟩
                    have S3214 := S3200.call r3213
                    have z3215 := r3213.bel.size
                    refine FL.val rfl rfl rfl (E.assign (v := Value.int .i64 r3210) rfl) ?_
                    refine FL.nil ?_
                    refine FW.seq ?_
                    refine FW.seq ?_
                    refine FW.region ?_
                    refine FL.val rfl rfl rfl (E.move (v := Value.int .i64 r3210) rfl) ?_
                    refine FL.val rfl rfl rfl (E.lss rfl rfl) ?_
                    refine FL.nil ?_
                    rcases ifB hp with ⟨c3216, hp⟩ | ⟨c3216, hp⟩
                    ·
                      refine FW.condT rfl c3216 ?_
                      refine FW.seq ?_
                      refine FW.region ?_
                      refine FL.val rfl rfl rfl (E.assign (v := Value.bool false) rfl) ?_
                      refine FL.nil ?_
                      refine FW.ret ?_
                      obtain rfl := Option.some.inj hp
                      exact ⟨.inr rfl, res1 rfl rfl ⟨rfl, S3214.back⟩⟩
                    ·
                      refine FW.condF rfl c3216 ?_
                      refine FW.skip ?_
                      refine FW.seq ?_
                      refine FW.seq ?_
                      refine FW.region ?_
                      refine FL.val rfl rfl rfl (E.move (v := Value.int .i64 r3210) rfl) ?_
                      refine FL.val rfl rfl rfl (E.move (v := Value.int .i64 ((PF.laws_markResStepS r181.1 1).2)) rfl) ?_
                      refine FL.val rfl rfl rfl (E.neq rfl rfl) ?_
                      refine FL.nil ?_
                      rcases ifB hp with ⟨c3217, hp⟩ | ⟨c3217, hp⟩
                      ·
                        refine FW.condT rfl c3217 ?_
                        refine FW.seq ?_
                        refine FW.region ?_
                        refine FL.val rfl rfl rfl (E.assign (v := Value.bool false) rfl) ?_
                        refine FL.nil ?_
                        refine FW.ret ?_
                        obtain rfl := Option.some.inj hp
                        exact ⟨.inr rfl, res1 rfl rfl ⟨rfl, S3214.back⟩⟩
                      ·
                        refine FW.condF rfl c3217 ?_
                        refine FW.skip ?_
                        refine FW.seq ?_
                        refine FW.region ?_
                        refine FL.val rfl rfl rfl (E.load k3192 (run_loadA Tryz.isAgg24 Tryz.sizeOf24 ((f3207.mono sgI).now S3214.sl) rfl)) ?_
                        obtain ⟨r3218, hr3219, hp⟩ := bnd hp
                        refine FL.call rfl rfl rfl (E.call Tryz.call7 (A1 rfl)) (w_laws_toCnf S3214.sl a0 v0_1 (p0_1.mono S3200.inc) hr3219) ?_
                        rintro e w3221 ⟨H3220, v3224, rfl, r3223, ⟨c3227, ns3226⟩⟩
                        refine ⟨_, rfl, ?_⟩
                        have h3225 := ns3226.rsl
                        have nv3228 : New H3198 [v3224] := New.of_up S3214.sl h3225.dom
                        have S3222 := S3214.call r3223
                        have z3229 := r3223.bel.size
                        have h3225 := h3225.mono (sg_of S3222.sl)
                        have ns3226 := ns3226.mono (sg_of S3222.sl)
                        refine FL.val rfl rfl rfl (E.move k3189) ?_
                        obtain ⟨r3230, hr3231, hp⟩ := bnd hp
                        refine FL.call rfl rfl rfl (E.call Tryz.call8 (A1 rfl)) (w_laws_toResStepS S3222.sl v1 a1 (p1.mono (S3200.inc.tr r3223.inc)) hr3231) ?_
                        rintro e w3233 ⟨H3232, v3236, n3237, cs3238, rfl, r3235, els3239, nd3240⟩
                        refine ⟨_, rfl, ?_⟩
                        have nv3241 : New H3220 cs3238 := New.of_up S3222.sl els3239.dom
                        obtain ⟨H3242, r3243, i3244, ns3247, nv3246⟩ := r3235.sealRowN (i := 0) (l' := []) rfl els3239 nd3240 (by decide) rfl
                        have h3245 := ns3247.rsl
                        have S3234 := S3222.call r3243.run
                        have z3248 := r3243.run.bel.size
                        have h3245 := h3245.mono (sg_of S3234.sl)
                        have ns3247 := ns3247.mono (sg_of S3234.sl)
                        refine FL.val rfl rfl rfl (E.move k3190) ?_
                        obtain ⟨r3249, hr3250, hp⟩ := bnd hp
                        refine FL.call rfl rfl rfl (E.call Tryz.call8 (A1 rfl)) (w_laws_toResStepS S3234.sl v2 a2 (p2.mono ((S3200.inc.tr r3223.inc).tr r3243.run.inc)) hr3250) ?_
                        rintro e w3252 ⟨H3251, v3255, n3256, cs3257, rfl, r3254, els3258, nd3259⟩
                        refine ⟨_, rfl, ?_⟩
                        have nv3260 : New H3242 cs3257 := New.of_up S3234.sl els3258.dom
                        obtain ⟨H3261, r3262, i3263, ns3266, nv3265⟩ := r3254.sealRowN (i := 0) (l' := []) rfl els3258 nd3259 (by decide) rfl
                        have h3264 := ns3266.rsl
                        have S3253 := S3234.call r3262.run
                        have z3267 := r3262.run.bel.size
                        have h3264 := h3264.mono (sg_of S3253.sl)
                        have ns3266 := ns3266.mono (sg_of S3253.sl)
                        refine FL.val rfl rfl rfl (E.move k3191) ?_
                        obtain ⟨r3268, hr3269, hp⟩ := bnd hp
                        refine FL.call rfl rfl rfl (E.call Tryz.call9 (A4 rfl rfl rfl rfl)) (w_impl_ChainSteps S3253.sl r3218 v3224 (h3225.mono (sgI.tr (r3243.run.inc.tr r3262.run.inc))) v3236 r3230 (h3245.mono (sgI.tr r3262.run.inc)) v3255 r3249 (h3264.mono sgI) a3 hr3269) ?_
                        rintro e w3271 ⟨H3270, v3274, n3275, cs3276, rfl, r3273, els3277, nd3278⟩
                        refine ⟨_, rfl, ?_⟩
                        have nv3279 : New H3261 cs3276 := New.of_up S3253.sl els3277.dom
                        obtain ⟨H3280, r3281, i3282, ns3285, nv3284⟩ := r3273.sealRowN (i := 0) (l' := []) rfl els3277 nd3278 (by decide) rfl
                        have h3283 := ns3285.rsl
                        have S3272 := S3253.call r3281.run
                        have z3286 := r3281.run.bel.size
                        have h3283 := h3283.mono (sg_of S3272.sl)
                        have ns3285 := ns3285.mono (sg_of S3272.sl)
                        refine FL.val rfl rfl rfl (E.move (v := Value.tuple #[v3274, Value.bool r3268.2]) rfl) ?_
                        refine FL.val rfl rfl rfl (E.extract (i := 0) rfl rfl) ?_
                        refine FL.val rfl rfl rfl (E.extract (i := 1) rfl rfl) ?_
                        refine FL.val rfl rfl rfl (E.assign (v := v3274) rfl) ?_
                        refine FL.val rfl rfl rfl (E.assign (v := Value.bool r3268.2) rfl) ?_
                        refine FL.nil ?_
                        refine FW.seq ?_
                        refine FW.seq ?_
                        refine FW.region ?_
                        refine FL.val rfl rfl rfl (E.move (v := v3274) rfl) ?_
                        refine FL.val rfl rfl rfl (E.move k3193) ?_
                        obtain ⟨r3287, hr3288, hp⟩ := bnd hp
                        refine FL.call rfl rfl rfl (E.call Tryz.call10 (A2 rfl rfl)) (w_laws_eqResStepS S3272.sl v3274 r3268.1 (h3283.mono sgI) v106 r100.1 (f3208.mono (sgI.tr (((r3223.inc.tr r3243.run.inc).tr r3262.run.inc).tr r3281.run.inc))) hr3288) ?_
                        rintro e w3289 ⟨rfl, r3290⟩
                        refine ⟨_, rfl, ?_⟩
                        have S3291 := S3272.call r3290
                        have z3292 := r3290.bel.size
                        refine FL.val rfl rfl rfl (E.not rfl) ?_
                        refine FL.val rfl rfl rfl (E.move (v := Value.bool (!r3287)) rfl) ?_
                        refine FL.cut 4 (fun f w => ∃ H : GH, St Ha wa H w [] ∧ Inc H3280 H ∧ f 15 = v187 ∧ f 18 = Value.int .i64 ((PF.laws_markResStepS r181.1 1).2) ∧ f 138 = Value.bool (bif (!r3287) then true else (!(r3268.2 == r100.2)))) ?_ ?_
                        ·
                          rcases bcase (!r3287) with c3299 | c3299
                          ·
                            refine FL.skip (wF_no rfl rfl rfl c3299) rfl ?_
                            refine FL.skip (wF_no rfl rfl rfl c3299) rfl ?_
                            refine FL.skip (wF_no rfl rfl rfl c3299) rfl ?_
                            refine FL.val rfl rfl rfl (E.pickT rfl c3299 rfl) ?_
                            exact FL.nil ⟨rfl, _, S3291, (Inc.rfl _), k3195, rfl, (congrArg Value.bool (bifT c3299).symm)⟩
                          ·
                            refine FL.val (wF_yes rfl rfl rfl c3299) rfl rfl (E.move (v := Value.bool r3268.2) rfl) ?_
                            refine FL.val (wF_yes rfl rfl rfl c3299) rfl rfl (E.move k3194) ?_
                            refine FL.val (wF_yes rfl rfl rfl c3299) rfl rfl (E.neqB Tryz.runUnderlying4 rfl rfl) ?_
                            refine FL.val rfl rfl rfl (E.pickF rfl c3299 rfl) ?_
                            exact FL.nil ⟨rfl, _, S3291, (Inc.rfl _), k3195, rfl, (congrArg Value.bool (bifF c3299).symm)⟩
                        rintro f3298 w3297 ⟨H3294, S3295, i3296, k3300, k3301, k3302⟩
                        refine FL.nil ?_
                        rcases ifB hp with ⟨c3303, hp⟩ | ⟨c3303, hp⟩
                        ·
                          refine FW.condT k3302 c3303 ?_
                          refine FW.seq ?_
                          refine FW.region ?_
                          refine FL.val rfl rfl rfl (E.assign (v := Value.bool false) rfl) ?_
                          refine FL.nil ?_
                          refine FW.ret ?_
                          obtain rfl := Option.some.inj hp
                          exact ⟨.inr rfl, res1 rfl rfl ⟨rfl, S3295.back⟩⟩
                        ·
                          refine FW.condF k3302 c3303 ?_
                          refine FW.skip ?_
                          refine FW.seq ?_
                          refine FW.region ?_
                          refine FL.val rfl rfl rfl (E.assign (v := Value.int .i64 1) rfl) ?_
                          refine FL.nil ?_
                          refine FW.seq ?_
                          refine FW.region ?_
                          refine FL.val rfl rfl rfl (E.move k3300) ?_
                          refine FL.val rfl rfl rfl (E.move (v := Value.int .i64 1) rfl) ?_
                          obtain ⟨r3304, hr3305, hp⟩ := bnd hp
                          refine FL.call rfl rfl rfl (E.call Tryz.call14 (A2 rfl rfl)) (w_laws_heldResStepS S3295.sl v187 ((PF.laws_markResStepS r181.1 1).1) (h3201.mono (sgI.tr ((((r3223.inc.tr r3243.run.inc).tr r3262.run.inc).tr r3281.run.inc).tr i3296))) 1 hr3305) ?_
                          rintro e w3306 ⟨rfl, r3307⟩
                          refine ⟨_, rfl, ?_⟩
                          have S3308 := S3295.call r3307
                          have z3309 := r3307.bel.size
                          refine FL.val rfl rfl rfl (E.assign (v := Value.int .i64 r3304) rfl) ?_
                          refine FL.nil ?_
                          refine FW.seq ?_
                          refine FW.seq ?_
                          refine FW.region ?_
                          refine FL.val rfl rfl rfl (E.move (v := Value.int .i64 r3304) rfl) ?_
                          refine FL.val rfl rfl rfl (E.lss rfl rfl) ?_
                          refine FL.nil ?_
                          rcases ifB hp with ⟨c3310, hp⟩ | ⟨c3310, hp⟩
                          ·
                            refine FW.condT rfl c3310 ?_
                            refine FW.seq ?_
                            refine FW.region ?_
                            refine FL.val rfl rfl rfl (E.assign (v := Value.bool false) rfl) ?_
                            refine FL.nil ?_
                            refine FW.ret ?_
                            obtain rfl := Option.some.inj hp
                            exact ⟨.inr rfl, res1 rfl rfl ⟨rfl, S3308.back⟩⟩
                          ·
                            refine FW.condF rfl c3310 ?_
                            refine FW.skip ?_
                            refine FW.seq ?_
                            refine FW.seq ?_
                            refine FW.region ?_
                            refine FL.val rfl rfl rfl (E.move (v := Value.int .i64 r3304) rfl) ?_
                            refine FL.val rfl rfl rfl (E.move k3301) ?_
                            refine FL.val rfl rfl rfl (E.neq rfl rfl) ?_
                            refine FL.nil ?_
                            rcases ifB hp with ⟨c3311, hp⟩ | ⟨c3311, hp⟩
                            ·
                              refine FW.condT rfl c3311 ?_
                              refine FW.seq ?_
                              refine FW.region ?_
                              refine FL.val rfl rfl rfl (E.assign (v := Value.bool false) rfl) ?_
                              refine FL.nil ?_
                              refine FW.ret ?_
                              obtain rfl := Option.some.inj hp
                              exact ⟨.inr rfl, res1 rfl rfl ⟨rfl, S3308.back⟩⟩
                            ·
                              refine FW.condF rfl c3311 ?_
                              refine FW.skip ?_
                              refine FW.seq ?_
                              refine FW.region ?_
                              refine FL.val rfl rfl rfl (E.assign (v := Value.bool true) rfl) ?_
                              refine FL.nil ?_
                              refine FW.ret ?_
                              obtain rfl := Option.some.inj hp
                              exact ⟨.inr rfl, res1 rfl rfl ⟨rfl, S3308.back⟩⟩

end Go.Proofs
