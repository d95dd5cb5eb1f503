/- Part of the walks and plain laws behind the claim: it proves helpers, under no condition beyond their own. -/
import Derived.Test.YtgkmebdjookgnaaGreatWk2
set_option linter.unusedVariables false
set_option maxRecDepth 100000
namespace Go.Proofs
open Go.Mr Go.Pu Go.PF Go.RowKit

theorem w_laws_eqCnf {Ha : GH} {wa : World} (hs : Sl Ha wa) (a0 : Cnf) (v0_1 : Value) (p0_1 : RSl Ha (eL eI 1) 1 v0_1 a0.clauses) (a1 : Cnf) (v1_1 : Value) (p1_1 : RSl Ha (eL eI 1) 1 v1_1 a1.clauses) {r : Bool} (hp : (PF.laws_eqCnf a0 a1) = some r) :
    Calls Tryz.prog 22 #[Value.agg #[Value.int .i64 a0.vars, v0_1], Value.agg #[Value.int .i64 a1.vars, v1_1]] wa (Sc Ha wa (Value.bool r)) := by
  unfold PF.laws_eqCnf at hp
  have S0 := St.init hs
  refine calls_go (N := 16) (args := [Value.agg #[Value.int .i64 a0.vars, v0_1], Value.agg #[Value.int .i64 a1.vars, v1_1]]) Tryz.func22 rfl rfl rfl ?_
  refine FW.seq ?_
  refine FW.region ?_
  obtain ⟨b21, w22, run23, S24⟩ := S0.box (P := Tryz.prog) 30 [Value.int .i64 a0.vars, v0_1] (v := Value.agg #[Value.int .i64 a0.vars, v0_1]) rfl (ones_cons rfl (ones_cons p0_1.one ones_nil))
  refine FL.val rfl rfl rfl (E.box rfl run23) ?_
  obtain ⟨H25, S26, i27, at28⟩ := S24.sealBox (i := 0) (l' := []) rfl rfl
  obtain ⟨b29, w30, run31, S32⟩ := S26.box (P := Tryz.prog) 30 [Value.int .i64 a1.vars, v1_1] (v := Value.agg #[Value.int .i64 a1.vars, v1_1]) rfl (ones_cons rfl (ones_cons p1_1.one ones_nil))
  refine FL.val rfl rfl rfl (E.box rfl run31) ?_
  obtain ⟨H33, S34, i35, at36⟩ := S32.sealBox (i := 0) (l' := []) rfl rfl
  refine FL.val rfl rfl rfl (E.assign (v := Value.bool false) rfl) ?_
  refine FL.nil ?_
  refine FW.seq ?_
  refine FW.seq ?_
  refine FW.region ?_
  refine FL.val rfl rfl rfl (E.fieldAddr tf30_0 rfl) ?_
  refine FL.val rfl rfl rfl (E.load rfl (run_load1 Tryz.isAgg3 ((at28.mono i35).now S34.sl) rfl)) ?_
  refine FL.val rfl rfl rfl (E.fieldAddr tf30_0 rfl) ?_
  refine FL.val rfl rfl rfl (E.load rfl (run_load1 Tryz.isAgg3 (at36.now S34.sl) rfl)) ?_
  refine FL.val rfl rfl rfl (E.neq rfl rfl) ?_
  refine FL.nil ?_
  rcases ifB hp with ⟨c37, hp⟩ | ⟨c37, hp⟩
  ·
    refine FW.condT rfl c37 ?_
    refine FW.seq ?_
    refine FW.region ?_
    refine FL.val rfl rfl rfl (E.assign (v := Value.bool false) rfl) ?_
    refine FL.nil ?_
    refine FW.ret ?_
    obtain rfl := Option.some.inj hp
    exact ⟨.inr rfl, res1 rfl rfl ⟨rfl, S34.back⟩⟩
  ·
    refine FW.condF rfl c37 ?_
    refine FW.skip ?_
    refine FW.seq ?_
    refine FW.seq ?_
    refine FW.region ?_
    refine FL.val rfl rfl rfl (E.fieldAddr tf30_1 rfl) ?_
    refine FL.val rfl rfl rfl (E.load rfl (run_load1 Tryz.isAgg22 ((at28.mono i35).now S34.sl) rfl)) ?_
    refine FL.val rfl rfl rfl (E.fieldAddr tf30_1 rfl) ?_
    refine FL.val rfl rfl rfl (E.load rfl (run_load1 Tryz.isAgg22 (at36.now S34.sl) rfl)) ?_
    obtain ⟨r38, hr39, hp⟩ := bnd hp
    refine FL.call rfl rfl rfl (E.call Tryz.call21 (A2 rfl rfl)) (w_laws_eqIntSS S34.sl v0_1 a0.clauses (p0_1.mono (i27.tr i35)) v1_1 a1.clauses (p1_1.mono (i27.tr i35)) hr39) ?_
    rintro e w40 ⟨rfl, r41⟩
    refine ⟨_, rfl, ?_⟩
    have S42 := S34.call r41
    refine FL.val rfl rfl rfl (E.not rfl) ?_
    refine FL.nil ?_
    rcases ifB hp with ⟨c43, hp⟩ | ⟨c43, hp⟩
    ·
      refine FW.condT rfl c43 ?_
      refine FW.seq ?_
      refine FW.region ?_
      refine FL.val rfl rfl rfl (E.assign (v := Value.bool false) rfl) ?_
      refine FL.nil ?_
      refine FW.ret ?_
      obtain rfl := Option.some.inj hp
      exact ⟨.inr rfl, res1 rfl rfl ⟨rfl, S42.back⟩⟩
    ·
      refine FW.condF rfl c43 ?_
      refine FW.skip ?_
      refine FW.seq ?_
      refine FW.region ?_
      refine FL.val rfl rfl rfl (E.assign (v := Value.bool true) rfl) ?_
      refine FL.nil ?_
      refine FW.ret ?_
      obtain rfl := Option.some.inj hp
      exact ⟨.inr rfl, res1 rfl rfl ⟨rfl, S42.back⟩⟩

theorem w_laws_eqResStep {Ha : GH} {wa : World} (hs : Sl Ha wa) (a0 : ResStep) (v0_0 : Value) (p0_0 : RSl Ha eI 1 v0_0 a0.clause) (a1 : ResStep) (v1_0 : Value) (p1_0 : RSl Ha eI 1 v1_0 a1.clause) {r : Bool} (hp : (PF.laws_eqResStep a0 a1) = some r) :
    Calls Tryz.prog 88 #[Value.agg #[v0_0, Value.int .i64 a0.left, Value.int .i64 a0.right, Value.int .i64 a0.pivot], Value.agg #[v1_0, Value.int .i64 a1.left, Value.int .i64 a1.right, Value.int .i64 a1.pivot]] wa (Sc Ha wa (Value.bool r)) := by
  unfold PF.laws_eqResStep at hp
  have S0 := St.init hs
  refine calls_go (N := 26) (args := [Value.agg #[v0_0, Value.int .i64 a0.left, Value.int .i64 a0.right, Value.int .i64 a0.pivot], Value.agg #[v1_0, Value.int .i64 a1.left, Value.int .i64 a1.right, Value.int .i64 a1.pivot]]) Tryz.func88 rfl rfl rfl ?_
  refine FW.seq ?_
  refine FW.region ?_
  obtain ⟨b21, w22, run23, S24⟩ := S0.box (P := Tryz.prog) 103 [v0_0, Value.int .i64 a0.left, Value.int .i64 a0.right, Value.int .i64 a0.pivot] (v := Value.agg #[v0_0, Value.int .i64 a0.left, Value.int .i64 a0.right, Value.int .i64 a0.pivot]) rfl (ones_cons p0_0.one (ones_cons rfl (ones_cons rfl (ones_cons rfl ones_nil))))
  refine FL.val rfl rfl rfl (E.box rfl run23) ?_
  obtain ⟨H25, S26, i27, at28⟩ := S24.sealBox (i := 0) (l' := []) rfl rfl
  obtain ⟨b29, w30, run31, S32⟩ := S26.box (P := Tryz.prog) 103 [v1_0, Value.int .i64 a1.left, Value.int .i64 a1.right, Value.int .i64 a1.pivot] (v := Value.agg #[v1_0, Value.int .i64 a1.left, Value.int .i64 a1.right, Value.int .i64 a1.pivot]) rfl (ones_cons p1_0.one (ones_cons rfl (ones_cons rfl (ones_cons rfl ones_nil))))
  refine FL.val rfl rfl rfl (E.box rfl run31) ?_
  obtain ⟨H33, S34, i35, at36⟩ := S32.sealBox (i := 0) (l' := []) rfl rfl
  refine FL.val rfl rfl rfl (E.assign (v := Value.bool false) rfl) ?_
  refine FL.nil ?_
  refine FW.seq ?_
  refine FW.seq ?_
  refine FW.region ?_
  refine FL.val rfl rfl rfl (E.fieldAddr tf103_0 rfl) ?_
  refine FL.val rfl rfl rfl (E.load rfl (run_load1 Tryz.isAgg61 ((at28.mono i35).now S34.sl) rfl)) ?_
  refine FL.val rfl rfl rfl (E.fieldAddr tf103_0 rfl) ?_
  refine FL.val rfl rfl rfl (E.load rfl (run_load1 Tryz.isAgg61 (at36.now S34.sl) rfl)) ?_
  obtain ⟨r37, hr38, hp⟩ := bnd hp
  refine FL.call rfl rfl rfl (E.call Tryz.call48 (A2 rfl rfl)) (w_laws_eqIntS S34.sl v0_0 a0.clause (p0_0.mono (i27.tr i35)) v1_0 a1.clause (p1_0.mono (i27.tr i35)) hr38) ?_
  rintro e w39 ⟨rfl, r40⟩
  refine ⟨_, rfl, ?_⟩
  have S41 := S34.call r40
  refine FL.val rfl rfl rfl (E.not rfl) ?_
  refine FL.nil ?_
  rcases ifB hp with ⟨c42, hp⟩ | ⟨c42, hp⟩
  ·
    refine FW.condT rfl c42 ?_
    refine FW.seq ?_
    refine FW.region ?_
    refine FL.val rfl rfl rfl (E.assign (v := Value.bool false) rfl) ?_
    refine FL.nil ?_
    refine FW.ret ?_
    obtain rfl := Option.some.inj hp
    exact ⟨.inr rfl, res1 rfl rfl ⟨rfl, S41.back⟩⟩
  ·
    refine FW.condF rfl c42 ?_
    refine FW.skip ?_
    refine FW.seq ?_
    refine FW.seq ?_
    refine FW.region ?_
    refine FL.val rfl rfl rfl (E.fieldAddr tf103_1 rfl) ?_
    refine FL.val rfl rfl rfl (E.load rfl (run_load1 Tryz.isAgg3 ((at28.mono i35).now S41.sl) rfl)) ?_
    refine FL.val rfl rfl rfl (E.fieldAddr tf103_1 rfl) ?_
    refine FL.val rfl rfl rfl (E.load rfl (run_load1 Tryz.isAgg3 (at36.now S41.sl) rfl)) ?_
    refine FL.val rfl rfl rfl (E.neq rfl rfl) ?_
    refine FL.nil ?_
    rcases ifB hp with ⟨c43, hp⟩ | ⟨c43, hp⟩
    ·
      refine FW.condT rfl c43 ?_
      refine FW.seq ?_
      refine FW.region ?_
      refine FL.val rfl rfl rfl (E.assign (v := Value.bool false) rfl) ?_
      refine FL.nil ?_
      refine FW.ret ?_
      obtain rfl := Option.some.inj hp
      exact ⟨.inr rfl, res1 rfl rfl ⟨rfl, S41.back⟩⟩
    ·
      refine FW.condF rfl c43 ?_
      refine FW.skip ?_
      refine FW.seq ?_
      refine FW.seq ?_
      refine FW.region ?_
      refine FL.val rfl rfl rfl (E.fieldAddr tf103_2 rfl) ?_
      refine FL.val rfl rfl rfl (E.load rfl (run_load1 Tryz.isAgg3 ((at28.mono i35).now S41.sl) rfl)) ?_
      refine FL.val rfl rfl rfl (E.fieldAddr tf103_2 rfl) ?_
      refine FL.val rfl rfl rfl (E.load rfl (run_load1 Tryz.isAgg3 (at36.now S41.sl) rfl)) ?_
      refine FL.val rfl rfl rfl (E.neq rfl rfl) ?_
      refine FL.nil ?_
      rcases ifB hp with ⟨c44, hp⟩ | ⟨c44, hp⟩
      ·
        refine FW.condT rfl c44 ?_
        refine FW.seq ?_
        refine FW.region ?_
        refine FL.val rfl rfl rfl (E.assign (v := Value.bool false) rfl) ?_
        refine FL.nil ?_
        refine FW.ret ?_
        obtain rfl := Option.some.inj hp
        exact ⟨.inr rfl, res1 rfl rfl ⟨rfl, S41.back⟩⟩
      ·
        refine FW.condF rfl c44 ?_
        refine FW.skip ?_
        refine FW.seq ?_
        refine FW.seq ?_
        refine FW.region ?_
        refine FL.val rfl rfl rfl (E.fieldAddr tf103_3 rfl) ?_
        refine FL.val rfl rfl rfl (E.load rfl (run_load1 Tryz.isAgg3 ((at28.mono i35).now S41.sl) rfl)) ?_
        refine FL.val rfl rfl rfl (E.fieldAddr tf103_3 rfl) ?_
        refine FL.val rfl rfl rfl (E.load rfl (run_load1 Tryz.isAgg3 (at36.now S41.sl) rfl)) ?_
        refine FL.val rfl rfl rfl (E.neq rfl rfl) ?_
        refine FL.nil ?_
        rcases ifB hp with ⟨c45, hp⟩ | ⟨c45, hp⟩
        ·
          refine FW.condT rfl c45 ?_
          refine FW.seq ?_
          refine FW.region ?_
          refine FL.val rfl rfl rfl (E.assign (v := Value.bool false) rfl) ?_
          refine FL.nil ?_
          refine FW.ret ?_
          obtain rfl := Option.some.inj hp
          exact ⟨.inr rfl, res1 rfl rfl ⟨rfl, S41.back⟩⟩
        ·
          refine FW.condF rfl c45 ?_
          refine FW.skip ?_
          refine FW.seq ?_
          refine FW.region ?_
          refine FL.val rfl rfl rfl (E.assign (v := Value.bool true) rfl) ?_
          refine FL.nil ?_
          refine FW.ret ?_
          obtain rfl := Option.some.inj hp
          exact ⟨.inr rfl, res1 rfl rfl ⟨rfl, S41.back⟩⟩

theorem w_laws_eqResStepS {Ha : GH} {wa : World} (hs : Sl Ha wa) (v0 : Value) (a0 : List ResStep) (p0 : RSl Ha eResStep 4 v0 a0) (v1 : Value) (a1 : List ResStep) (p1 : RSl Ha eResStep 4 v1 a1) {r : Bool} (hp : (PF.laws_eqResStepS a0 a1) = some r) :
    Calls Tryz.prog 32 #[v0, v1] wa (Sc Ha wa (Value.bool r)) := by
  unfold PF.laws_eqResStepS at hp
  have S0 := St.init hs
  refine calls_go (N := 27) (args := [v0, v1]) Tryz.func32 rfl rfl rfl ?_
  refine FW.seq ?_
  refine FW.region ?_
  refine FL.val rfl rfl rfl (E.assign (v := Value.bool false) rfl) ?_
  refine FL.nil ?_
  refine FW.seq ?_
  refine FW.seq ?_
  refine FW.region ?_
  refine FL.val rfl rfl rfl (E.move (v := v0) rfl) ?_
  refine FL.val rfl rfl rfl (E.lenP te41 rfl p0) ?_
  refine FL.val rfl rfl rfl (E.move (v := v1) rfl) ?_
  refine FL.val rfl rfl rfl (E.lenP te41 rfl p1) ?_
  refine FL.val rfl rfl rfl (E.neq rfl rfl) ?_
  refine FL.nil ?_
  rcases ifB hp with ⟨c21, hp⟩ | ⟨c21, hp⟩
  ·
    refine FW.condT rfl c21 ?_
    refine FW.seq ?_
    refine FW.region ?_
    refine FL.val rfl rfl rfl (E.assign (v := Value.bool false) rfl) ?_
    refine FL.nil ?_
    refine FW.ret ?_
    obtain rfl := Option.some.inj hp
    exact ⟨.inr rfl, res1 rfl rfl ⟨rfl, S0.back⟩⟩
  ·
    refine FW.condF rfl c21 ?_
    refine FW.skip ?_
    refine FW.seq ?_
    refine FW.seq ?_
    refine FW.region ?_
    refine FL.val rfl rfl rfl (E.assign (v := Value.int .i64 0) rfl) ?_
    refine FL.nil ?_
    obtain ⟨q23, hq, hp⟩ := bndR hp
    refine FW.block ?_
    refine FW.mono (FW.forL (S := Unit) (X := Bool) (fun (i23 : Nat) (s23 : Unit) f w => ∃ H : GH, St Ha wa H w [] ∧ Inc Ha H ∧ f 5 = Value.int .i64 ((i23 : Nat) : Int) ∧ f 0 = v0 ∧ f 1 = v1) (fun q e f w => match q with | .go s23 => e = Exit.exit 0 ∧ (∃ H : GH, St Ha wa H w [] ∧ Inc Ha H) | .rt x => ((e = Exit.ret) ∧ (fun e f w => (e = Exit.normal ∨ e = Exit.ret) ∧ ∀ a, Fr (δ := []) 27 a f → ∃ v, (results Tryz.f32 a.tmps).run Tryz.prog w = .ok v w ∧ (Sc Ha wa (Value.bool x)) (.returned v) w) e f w)) hq ⟨_, S0, (Inc.rfl _), rfl, rfl, rfl⟩ ?_ ?_) ?_
    ·
      clear hp hq
      rintro i23 y22 s23 f61 w60 ⟨H57, S58, i59, k62, k63, k64⟩ hx23 o90 hp
      refine FW.seq ?_
      refine FW.seq ?_
      refine FW.region ?_
      refine FL.val rfl rfl rfl (E.move k62) ?_
      refine FL.val rfl rfl rfl (E.move k63) ?_
      refine FL.val rfl rfl rfl (E.lenP te41 rfl p0) ?_
      refine FL.val rfl rfl rfl (E.lssT rfl rfl (lss_len hx23)) ?_
      refine FL.nil ?_
      refine FW.condT rfl rfl ?_
      refine FW.skip ?_
      refine FW.seq ?_
      refine FW.block ?_
      refine FW.seq ?_
      refine FW.draw (fun w' => Run w60.heap.size H57 w60 H57 w') (by kernel_rfl) (by kernel_rfl) (run_drew S58.sl) ?_
      refine FD.val rfl rfl rfl (fun w' hw' => (E.move k63)) ?_
      refine FD.val rfl rfl rfl (fun w' hw' => (E.move k62)) ?_
      obtain ⟨p66, cs67, pt68, l69, at70, rel71⟩ := p0.at (ix_nat hx23)
      obtain ⟨v72, rfl, h73⟩ := eResStep_open rel71
      refine FD.val rfl rfl rfl (fun w' hw' => (E.indexAddr te41 rfl rfl pt68)) ?_
      refine FD.val rfl rfl rfl (fun w' hw' => (E.load rfl (run_loadA Tryz.isAgg103 Tryz.sizeOf103 ((at70.mono i59).now (S58.call hw').sl) rfl))) ?_
      refine FD.val rfl rfl rfl (fun w' hw' => (E.move k64)) ?_
      refine FD.val rfl rfl rfl (fun w' hw' => (E.move k62)) ?_
      obtain ⟨x80, hx81, hp⟩ := bnd hp
      obtain ⟨p74, cs75, pt76, l77, at78, rel79⟩ := p1.at hx81
      obtain ⟨v82, rfl, h83⟩ := eResStep_open rel79
      refine FD.val rfl rfl rfl (fun w' hw' => (E.indexAddr te41 rfl rfl pt76)) ?_
      refine FD.val rfl rfl rfl (fun w' hw' => (E.load rfl (run_loadA Tryz.isAgg103 Tryz.sizeOf103 ((at78.mono i59).now (S58.call hw').sl) rfl))) ?_
      obtain ⟨r84, hr85, hp⟩ := bnd hp
      refine FD.call rfl rfl rfl (fun w' hw' => (E.call Tryz.call88 (A2 rfl rfl))) (fun w' hw' => Calls.cls hw' (w_laws_eqResStep (S58.call hw').sl y22 v72 (h73.mono i59) x80 v82 (h83.mono i59) hr85)) ?_
      refine FD.val rfl rfl rfl (fun w' hw' => (E.not rfl)) ?_
      refine FD.nil ?_
      intro w86 r88
      have S87 := S58.call r88
      rcases ifB hp with ⟨c89, hp⟩ | ⟨c89, hp⟩
      ·
        refine FW.condT rfl c89 ?_
        refine FW.seq ?_
        refine FW.region ?_
        refine FL.val rfl rfl rfl (E.assign (v := Value.bool false) rfl) ?_
        refine FL.nil ?_
        refine FW.ret ?_
        obtain rfl := Option.some.inj hp
        exact ⟨nofun, rfl, ⟨.inr rfl, res1 rfl rfl ⟨rfl, S87.back⟩⟩⟩
      ·
        refine FW.condF rfl c89 ?_
        refine FW.skip ?_
        refine FW.region ?_
        refine FL.val rfl rfl rfl (E.move k62) ?_
        refine FL.val rfl rfl rfl (E.add rfl rfl) ?_
        refine FL.val rfl rfl rfl (E.assign (v := Value.int .i64 (wr (((i23 : Nat) : Int) + 1))) rfl) ?_
        refine FL.nil ?_
        obtain rfl := Option.some.inj hp
        exact ⟨rfl, ⟨_, S87, i59, (nat_succ rfl (lt_of_get hx23) (p0.mono i59).le), k63, k64⟩⟩
    ·
      clear hp hq
      rintro s23 f100 w99 ⟨H96, S97, i98, k101, k102, k103⟩
      refine FW.seq ?_
      refine FW.seq ?_
      refine FW.region ?_
      refine FL.val rfl rfl rfl (E.move k101) ?_
      refine FL.val rfl rfl rfl (E.move k102) ?_
      refine FL.val rfl rfl rfl (E.lenP te41 rfl p0) ?_
      refine FL.val rfl rfl rfl (E.lss rfl rfl) ?_
      refine FL.nil ?_
      refine FW.condF rfl dlt_len ?_
      refine FW.exit ?_
      exact ⟨nofun, rfl, ⟨_, S97, i98⟩⟩
    ·
      clear hq
      intro e f95 w94 hD
      rcases q23 with s23 | x23
      ·
        obtain ⟨rfl, hD⟩ := hD
        obtain ⟨H91, S92, i93⟩ := hD
        replace hp := el_go hp
        refine FW.seq ?_
        refine FW.region ?_
        refine FL.val rfl rfl rfl (E.assign (v := Value.bool true) rfl) ?_
        refine FL.nil ?_
        refine FW.ret ?_
        obtain rfl := Option.some.inj hp
        exact ⟨.inr rfl, res1 rfl rfl ⟨rfl, S92.back⟩⟩
      ·
        obtain ⟨he, hL⟩ := hD
        replace hp := el_rt hp
        obtain rfl := Option.some.inj hp
        subst he
        exact hL

set_option maxHeartbeats 4000000 in
theorem w_laws_FnExactFirstIrregular {Ha : GH} {wa : World} (hs : Sl Ha wa) (a0 : Cnf) (v0_1 : Value) (p0_1 : RSl Ha (eL eI 1) 1 v0_1 a0.clauses) (v1 : Value) (a1 : List ResStep) (p1 : RSl Ha eResStep 4 v1 a1) {r : Bool} (hp : (PF.laws_FnExactFirstIrregular a0 a1) = some r) :
    Calls Tryz.prog 13 #[Value.agg #[Value.int .i64 a0.vars, v0_1], v1] wa (Sc Ha wa (Value.bool r)) := by
  unfold PF.laws_FnExactFirstIrregular at hp
  have S0 := St.init hs
  refine calls_go (N := 58) (args := [Value.agg #[Value.int .i64 a0.vars, v0_1], v1]) Tryz.func13 rfl rfl rfl ?_
  refine FW.seq ?_
  refine FW.region ?_
  obtain ⟨w21, run22, S23, z24⟩ := S0.boxB (P := Tryz.prog) 24 [Value.int .i64 a0.vars, v0_1] (v := Value.agg #[Value.int .i64 a0.vars, v0_1]) rfl (ones_cons rfl (ones_cons p0_1.one ones_nil))
  refine FL.val rfl rfl rfl (E.box rfl run22) ?_
  obtain ⟨H25, S26, i27, at28⟩ := S23.sealBoxB (i := 0) (l' := []) rfl rfl
  refine FL.val rfl rfl rfl (E.assign (v := Value.bool false) rfl) ?_
  refine FL.nil ?_
  refine FW.seq ?_
  refine FW.region ?_
  refine FL.val rfl rfl rfl (E.assign (v := Value.int .i64 1048576) rfl) ?_
  refine FL.nil ?_
  refine FW.seq ?_
  refine FW.region ?_
  refine FL.val rfl rfl rfl (E.load rfl (run_loadA Tryz.isAgg24 Tryz.sizeOf24 ((at28.mono sgI).now S26.sl) rfl)) ?_
  refine FL.val rfl rfl rfl (E.move (v := Value.int .i64 1048576) rfl) ?_
  obtain ⟨r29, hr30, hp⟩ := bnd hp
  refine FL.call rfl rfl rfl (E.call Tryz.call15 (A2 rfl rfl)) (w_laws_szCnf S26.sl a0 v0_1 (p0_1.mono i27) 1048576 hr30) ?_
  rintro e w31 ⟨rfl, r32⟩
  refine ⟨_, rfl, ?_⟩
  have S33 := S26.call r32
  have z34 := r32.bel.size
  refine FL.val rfl rfl rfl (E.assign (v := Value.int .i64 r29) rfl) ?_
  refine FL.nil ?_
  refine FW.seq ?_
  refine FW.seq ?_
  refine FW.region ?_
  refine FL.val rfl rfl rfl (E.move (v := Value.int .i64 r29) rfl) ?_
  refine FL.val rfl rfl rfl (E.lss rfl rfl) ?_
  refine FL.nil ?_
  rcases ifB hp with ⟨c35, hp⟩ | ⟨c35, hp⟩
  ·
    refine FW.condT rfl c35 ?_
    refine FW.seq ?_
    refine FW.region ?_
    refine FL.val rfl rfl rfl (E.assign (v := Value.bool true) rfl) ?_
    refine FL.nil ?_
    refine FW.ret ?_
    obtain rfl := Option.some.inj hp
    exact ⟨.inr rfl, res1 rfl rfl ⟨rfl, S33.back⟩⟩
  ·
    refine FW.condF rfl c35 ?_
    refine FW.skip ?_
    refine FW.seq ?_
    refine FW.region ?_
    refine FL.val rfl rfl rfl (E.move (v := v1) rfl) ?_
    refine FL.val rfl rfl rfl (E.move (v := Value.int .i64 r29) rfl) ?_
    obtain ⟨r36, hr37, hp⟩ := bnd hp
    refine FL.call rfl rfl rfl (E.call Tryz.call41 (A2 rfl rfl)) (w_laws_szResStepS S33.sl v1 a1 (p1.mono i27) r29 hr37) ?_
    rintro e w38 ⟨rfl, r39⟩
    refine ⟨_, rfl, ?_⟩
    have S40 := S33.call r39
    have z41 := r39.bel.size
    refine FL.val rfl rfl rfl (E.assign (v := Value.int .i64 r36) rfl) ?_
    refine FL.nil ?_
    refine FW.seq ?_
    refine FW.seq ?_
    refine FW.region ?_
    refine FL.val rfl rfl rfl (E.move (v := Value.int .i64 r36) rfl) ?_
    refine FL.val rfl rfl rfl (E.lss rfl rfl) ?_
    refine FL.nil ?_
    rcases ifB hp with ⟨c42, hp⟩ | ⟨c42, hp⟩
    ·
      refine FW.condT rfl c42 ?_
      refine FW.seq ?_
      refine FW.region ?_
      refine FL.val rfl rfl rfl (E.assign (v := Value.bool true) rfl) ?_
      refine FL.nil ?_
      refine FW.ret ?_
      obtain rfl := Option.some.inj hp
      exact ⟨.inr rfl, res1 rfl rfl ⟨rfl, S40.back⟩⟩
    ·
      refine FW.condF rfl c42 ?_
      refine FW.skip ?_
      refine FW.seq ?_
      refine FW.region ?_
      refine FL.val rfl rfl rfl (E.load rfl (run_loadA Tryz.isAgg24 Tryz.sizeOf24 ((at28.mono sgI).now S40.sl) rfl)) ?_
      obtain ⟨r43, hr44, hp⟩ := bnd hp
      refine FL.call rfl rfl rfl (E.call Tryz.call18 (A1 rfl)) (w_laws_toCnf S40.sl a0 v0_1 (p0_1.mono i27) hr44) ?_
      rintro e w46 ⟨H45, v49, rfl, r48, ⟨c52, ns51⟩⟩
      refine ⟨_, rfl, ?_⟩
      have h50 := ns51.rsl
      have nv53 : New H25 [v49] := New.of_up S40.sl h50.dom
      have S47 := S40.call r48
      have z54 := r48.bel.size
      have h50 := h50.mono (sg_of S47.sl)
      have ns51 := ns51.mono (sg_of S47.sl)
      refine FL.val rfl rfl rfl (E.move (v := v1) rfl) ?_
      obtain ⟨r55, hr56, hp⟩ := bnd hp
      refine FL.call rfl rfl rfl (E.call Tryz.call43 (A1 rfl)) (w_laws_toResStepS S47.sl v1 a1 (p1.mono (i27.tr r48.inc)) hr56) ?_
      rintro e w58 ⟨H57, v61, n62, cs63, rfl, r60, els64, nd65⟩
      refine ⟨_, rfl, ?_⟩
      have nv66 : New H45 cs63 := New.of_up S47.sl els64.dom
      obtain ⟨H67, r68, i69, ns72, nv71⟩ := r60.sealRowN (i := 0) (l' := []) rfl els64 nd65 (by decide) rfl
      have h70 := ns72.rsl
      have S59 := S47.call r68.run
      have z73 := r68.run.bel.size
      have h70 := h70.mono (sg_of S59.sl)
      have ns72 := ns72.mono (sg_of S59.sl)
      obtain ⟨r74, hr75, hp⟩ := bnd hp
      refine FL.call rfl rfl rfl (E.call Tryz.call62 (A2 rfl rfl)) (w_spec_FirstIrregular S59.sl r43 v49 (h50.mono (sgI.tr r68.run.inc)) v61 r55 (h70.mono sgI) hr75) ?_
      rintro e w76 ⟨rfl, r77⟩
      refine ⟨_, rfl, ?_⟩
      have S78 := S59.call r77
      have z79 := r77.bel.size
      refine FL.val rfl rfl rfl (E.move (v := Value.tuple #[Value.int .i64 r74.1, Value.bool r74.2]) rfl) ?_
      refine FL.val rfl rfl rfl (E.extract (i := 0) rfl rfl) ?_
      refine FL.val rfl rfl rfl (E.extract (i := 1) rfl rfl) ?_
      refine FL.val rfl rfl rfl (E.assign (v := Value.int .i64 r74.1) rfl) ?_
      refine FL.val rfl rfl rfl (E.assign (v := Value.bool r74.2) rfl) ?_
      refine FL.nil ?_
      refine FW.seq ?_
      refine FW.region ?_
      refine FL.val rfl rfl rfl (E.load rfl (run_loadA Tryz.isAgg24 Tryz.sizeOf24 ((at28.mono (sgI.tr (r48.inc.tr r68.run.inc))).now S78.sl) rfl)) ?_
      obtain ⟨r80, hr81, hp⟩ := bnd hp
      refine FL.call rfl rfl rfl (E.call Tryz.call18 (A1 rfl)) (w_laws_toCnf S78.sl a0 v0_1 (p0_1.mono ((i27.tr r48.inc).tr r68.run.inc)) hr81) ?_
      rintro e w83 ⟨H82, v86, rfl, r85, ⟨c89, ns88⟩⟩
      refine ⟨_, rfl, ?_⟩
      have h87 := ns88.rsl
      have nv90 : New H67 [v86] := New.of_up S78.sl h87.dom
      have S84 := S78.call r85
      have z91 := r85.bel.size
      have h87 := h87.mono (sg_of S84.sl)
      have ns88 := ns88.mono (sg_of S84.sl)
      obtain ⟨w92, run93, S94, z95⟩ := S84.allocB (P := Tryz.prog) 30 [Value.int .i64 0, Value.slice none 0 0] Tryz.zeroValue30 rfl (ones_cons rfl (ones_cons rfl ones_nil))
      refine FL.val rfl rfl rfl (E.alloc run93) ?_
      obtain ⟨w96, run97, S98, z99⟩ := S94.store0B (P := Tryz.prog) (t := 30) (i := 0) (cs' := [Value.int .i64 r80.vars, v86]) (l' := [.box w83.heap.size 30 [Value.int .i64 r80.vars, v86]]) (v := Value.agg #[Value.int .i64 r80.vars, v86]) (c := [Value.int .i64 r80.vars, v86]) rfl Tryz.sizeOf30 rfl rfl (ones_cons rfl (ones_cons h87.one ones_nil)) (Nat.le_of_ble_eq_true rfl) rfl rfl
      refine FL.act rfl rfl (E.store rfl rfl run97) ?_
      obtain ⟨H100, S101, i102, at103⟩ := S98.sealBoxB (i := 0) (l' := []) rfl rfl
      refine FL.nil ?_
      refine FW.seq ?_
      refine FW.region ?_
      refine FL.val rfl rfl rfl (E.move (v := v1) rfl) ?_
      obtain ⟨r104, hr105, hp⟩ := bnd hp
      refine FL.call rfl rfl rfl (E.call Tryz.call43 (A1 rfl)) (w_laws_toResStepS S101.sl v1 a1 (p1.mono ((((i27.tr r48.inc).tr r68.run.inc).tr r85.inc).tr i102)) hr105) ?_
      rintro e w107 ⟨H106, v110, n111, cs112, rfl, r109, els113, nd114⟩
      refine ⟨_, rfl, ?_⟩
      have nv115 : New H100 cs112 := New.of_up S101.sl els113.dom
      obtain ⟨H116, r117, i118, ns121, nv120⟩ := r109.sealRowN (i := 0) (l' := []) rfl els113 nd114 (by decide) rfl
      have h119 := ns121.rsl
      have S108 := S101.call r117.run
      have z122 := r117.run.bel.size
      have h119 := h119.mono (sg_of S108.sl)
      have ns121 := ns121.mono (sg_of S108.sl)
      refine FL.val rfl rfl rfl (E.assign (v := v110) rfl) ?_
      refine FL.nil ?_
      refine FW.seq ?_
      refine FW.region ?_
      refine FL.val rfl rfl rfl (E.load rfl (run_loadA Tryz.isAgg30 Tryz.sizeOf30 ((at103.mono (sgI.tr r117.run.inc)).now S108.sl) rfl)) ?_
      refine FL.val rfl rfl rfl (E.move (v := v110) rfl) ?_
      obtain ⟨r123, hr124, hp⟩ := bnd hp
      refine FL.call rfl rfl rfl (E.call Tryz.call63 (A2 rfl rfl)) (w_impl_FirstIrregular S108.sl r80 v86 (h87.mono (sgI.tr (i102.tr r117.run.inc))) v110 r104 (h119.mono sgI) hr124) ?_
      rintro e w125 ⟨rfl, r126⟩
      refine ⟨_, rfl, ?_⟩
      have S127 := S108.call r126
      have z128 := r126.bel.size
      refine FL.val rfl rfl rfl (E.move (v := Value.tuple #[Value.int .i64 r123.1, Value.bool r123.2]) rfl) ?_
      refine FL.val rfl rfl rfl (E.extract (i := 0) rfl rfl) ?_
      refine FL.val rfl rfl rfl (E.extract (i := 1) rfl rfl) ?_
      refine FL.val rfl rfl rfl (E.assign (v := Value.int .i64 r123.1) rfl) ?_
      refine FL.val rfl rfl rfl (E.assign (v := Value.bool r123.2) rfl) ?_
      refine FL.nil ?_
      refine FW.seq ?_
      refine FW.seq ?_
      refine FW.region ?_
      refine FL.val rfl rfl rfl (E.move (v := Value.int .i64 r123.1) rfl) ?_
      refine FL.val rfl rfl rfl (E.move (v := Value.int .i64 r74.1) rfl) ?_
      refine FL.val rfl rfl rfl (E.neq rfl rfl) ?_
      refine FL.val rfl rfl rfl (E.move (v := Value.bool (!(r123.1 == r74.1))) rfl) ?_
      refine FL.cut 4 (fun f w => ∃ H : GH, St Ha wa H w [] ∧ Inc H116 H ∧ f 1 = v1 ∧ f 2 = Value.pointer (some ⟨wa.heap.size, 0, none⟩) ∧ f 8 = Value.pointer (some ⟨w83.heap.size, 0, none⟩) ∧ f 9 = v110 ∧ f 47 = Value.bool (bif (!(r123.1 == r74.1)) then true else (!(r123.2 == r74.2)))) ?_ ?_
      ·
        rcases bcase (!(r123.1 == r74.1)) with c135 | c135
        ·
          refine FL.skip (wF_no rfl rfl rfl c135) rfl ?_
          refine FL.skip (wF_no rfl rfl rfl c135) rfl ?_
          refine FL.skip (wF_no rfl rfl rfl c135) rfl ?_
          refine FL.val rfl rfl rfl (E.pickT rfl c135 rfl) ?_
          exact FL.nil ⟨rfl, _, S127, (Inc.rfl _), rfl, rfl, rfl, rfl, (congrArg Value.bool (bifT c135).symm)⟩
        ·
          refine FL.val (wF_yes rfl rfl rfl c135) rfl rfl (E.move (v := Value.bool r123.2) rfl) ?_
          refine FL.val (wF_yes rfl rfl rfl c135) rfl rfl (E.move (v := Value.bool r74.2) rfl) ?_
          refine FL.val (wF_yes rfl rfl rfl c135) rfl rfl (E.neqB Tryz.runUnderlying4 rfl rfl) ?_
          refine FL.val rfl rfl rfl (E.pickF rfl c135 rfl) ?_
          exact FL.nil ⟨rfl, _, S127, (Inc.rfl _), rfl, rfl, rfl, rfl, (congrArg Value.bool (bifF c135).symm)⟩
      rintro f134 w133 ⟨H130, S131, i132, k136, k137, k138, k139, k140⟩
      refine FL.nil ?_
      rcases ifB hp with ⟨c141, hp⟩ | ⟨c141, hp⟩
      ·
        refine FW.condT k140 c141 ?_
        refine FW.seq ?_
        refine FW.region ?_
        refine FL.val rfl rfl rfl (E.assign (v := Value.bool false) rfl) ?_
        refine FL.nil ?_
        refine FW.ret ?_
        obtain rfl := Option.some.inj hp
        exact ⟨.inr rfl, res1 rfl rfl ⟨rfl, S131.back⟩⟩
      ·
        refine FW.condF k140 c141 ?_
        refine FW.skip ?_
        refine FW.seq ?_
        refine FW.seq ?_
        obtain ⟨r1342, hr1343, hp⟩ := bnd hp
        obtain ⟨r1742, hr1743, hp⟩ := bnd hp
        refine FW.drawA (Sl H130) (fun f w => ∃ H : GH, St Ha wa H w [] ∧ Inc H130 H ∧ f 1 = v1 ∧ f 9 = v110 ∧ f 52 = Value.bool (!r1742)) (by kernel_rfl) S131.sl ?_ ?_
        ·
          intro w142 r143
          have S144 := S131.call r143
          refine FA.take (i := 0) (l' := #[true, false, false, false, false]) rfl (by kernel_rfl) (by kernel_rfl) (by kernel_rfl) (by kernel_rfl) S144.sl rfl rfl rfl (fun w' hw' => (E.load k138 (run_loadA Tryz.isAgg30 Tryz.sizeOf30 ((at103.mono (sgI.tr (r117.run.inc.tr i132))).now hw') rfl))) ?_
          refine FA.take (i := 1) (l' := #[true, true, false, false, false]) rfl (by kernel_rfl) (by kernel_rfl) (by kernel_rfl) (by kernel_rfl) S144.sl rfl rfl rfl (fun w' hw' => (E.load k137 (run_loadA Tryz.isAgg24 Tryz.sizeOf24 ((at28.mono (sgI.tr (((((r48.inc.tr r68.run.inc).tr r85.inc).tr i102).tr r117.run.inc).tr i132))).now hw') rfl))) ?_
          refine FA.all1 (i := 2) (by kernel_rfl) ?_
          ·
            refine FO.call (l' := #[true, true, true, false, false]) rfl (by kernel_rfl) rfl rfl rfl (E.call Tryz.call18 (A1 rfl)) (w_laws_toCnf S144.sl a0 v0_1 (p0_1.mono ((((((i27.tr r48.inc).tr r68.run.inc).tr r85.inc).tr i102).tr r117.run.inc).tr i132)) hr1343) ?_
            rintro e w1345 ⟨H1344, v1348, rfl, r1347, ⟨c1351, ns1350⟩⟩
            refine ⟨_, rfl, ?_⟩
            have h1349 := ns1350.rsl
            have nv1352 : New H130 [v1348] := New.of_up S144.sl h1349.dom
            have S1346 := S144.call r1347
            have z1353 := r1347.bel.size
            have h1349 := h1349.mono (sg_of S1346.sl)
            have ns1350 := ns1350.mono (sg_of S1346.sl)
            refine ⟨(Sl.of_inc r1347.inc S1346.sl), ?_⟩
            refine FA.all1 (i := 3) (by kernel_rfl) ?_
            ·
              refine FO.call (l' := #[true, true, true, true, false]) rfl (by kernel_rfl) rfl rfl rfl (E.call Tryz.call22 (A2 rfl rfl)) (w_laws_eqCnf S1346.sl r80 v86 (h87.mono (sgI.tr (((i102.tr r117.run.inc).tr i132).tr r1347.inc))) r1342 v1348 (h1349.mono sgI) hr1743) ?_
              rintro e w1744 ⟨rfl, r1745⟩
              refine ⟨_, rfl, ?_⟩
              have S1746 := S1346.call r1745
              have z1747 := r1745.bel.size
              refine ⟨(Sl.of_inc r1347.inc S1746.sl), ?_⟩
              refine FA.take (i := 4) (l' := #[true, true, true, true, true]) rfl (by kernel_rfl) (by kernel_rfl) (by kernel_rfl) (by kernel_rfl) (Sl.of_inc r1347.inc S1746.sl) rfl rfl rfl (fun w' hw' => (E.not rfl)) ?_
              exact FA.done (by kernel_rfl) ⟨_, S1746, r1347.inc, k136, k139, rfl⟩
        ·
          rintro f2947 w2946 ⟨H2943, S2944, i2945, k2948, k2949, k2950⟩
          rcases ifB hp with ⟨c2951, hp⟩ | ⟨c2951, hp⟩
          ·
            refine FW.condT k2950 c2951 ?_
            refine FW.seq ?_
            refine FW.region ?_
            refine FL.val rfl rfl rfl (E.assign (v := Value.bool false) rfl) ?_
            refine FL.nil ?_
            refine FW.ret ?_
            obtain rfl := Option.some.inj hp
            exact ⟨.inr rfl, res1 rfl rfl ⟨rfl, S2944.back⟩⟩
          ·
            refine FW.condF k2950 c2951 ?_
            refine FW.skip ?_
            refine FW.seq ?_
            refine FW.seq ?_
            refine FW.region ?_
            refine FL.val rfl rfl rfl (E.move k2949) ?_
            refine FL.val rfl rfl rfl (E.move k2948) ?_
            obtain ⟨r2952, hr2953, hp⟩ := bnd hp
            refine FL.call rfl rfl rfl (E.call Tryz.call43 (A1 rfl)) (w_laws_toResStepS S2944.sl v1 a1 (p1.mono (((((((i27.tr r48.inc).tr r68.run.inc).tr r85.inc).tr i102).tr r117.run.inc).tr i132).tr i2945)) hr2953) ?_
            rintro e w2955 ⟨H2954, v2958, n2959, cs2960, rfl, r2957, els2961, nd2962⟩
            refine ⟨_, rfl, ?_⟩
            have nv2963 : New H2943 cs2960 := New.of_up S2944.sl els2961.dom
            obtain ⟨H2964, r2965, i2966, ns2969, nv2968⟩ := r2957.sealRowN (i := 0) (l' := []) rfl els2961 nd2962 (by decide) rfl
            have h2967 := ns2969.rsl
            have S2956 := S2944.call r2965.run
            have z2970 := r2965.run.bel.size
            have h2967 := h2967.mono (sg_of S2956.sl)
            have ns2969 := ns2969.mono (sg_of S2956.sl)
            obtain ⟨r2971, hr2972, hp⟩ := bnd hp
            refine FL.call rfl rfl rfl (E.call Tryz.call32 (A2 rfl rfl)) (w_laws_eqResStepS S2956.sl v110 r104 (h119.mono (sgI.tr ((i132.tr i2945).tr r2965.run.inc))) v2958 r2952 (h2967.mono sgI) hr2972) ?_
            rintro e w2973 ⟨rfl, r2974⟩
            refine ⟨_, rfl, ?_⟩
            have S2975 := S2956.call r2974
            have z2976 := r2974.bel.size
            refine FL.val rfl rfl rfl (E.not rfl) ?_
            refine FL.nil ?_
            rcases ifB hp with ⟨c2977, hp⟩ | ⟨c2977, hp⟩
            ·
              refine FW.condT rfl c2977 ?_
              refine FW.seq ?_
              refine FW.region ?_
              refine FL.val rfl rfl rfl (E.assign (v := Value.bool false) rfl) ?_
              refine FL.nil ?_
              refine FW.ret ?_
              obtain rfl := Option.some.inj hp
              exact ⟨.inr rfl, res1 rfl rfl ⟨rfl, S2975.back⟩⟩
            ·
              refine FW.condF rfl c2977 ?_
              refine FW.skip ?_
              refine FW.seq ?_
              refine FW.region ?_
              refine FL.val rfl rfl rfl (E.assign (v := Value.bool true) rfl) ?_
              refine FL.nil ?_
              refine FW.ret ?_
              obtain rfl := Option.some.inj hp
              exact ⟨.inr rfl, res1 rfl rfl ⟨rfl, S2975.back⟩⟩

end Go.Proofs
