/- Part of the walks and plain laws behind the claim: it proves helpers, under no condition beyond their own. -/
import Derived.Test.YtjpjbfbloplacaaGreatItWk3
set_option linter.unusedVariables false
set_option maxRecDepth 100000
namespace Go.Proofs
open Go.Mr Go.Pu Go.PF Go.RowKit

theorem w_laws_eqResStep {Ha : GH} {wa : World} (hs : Sl Ha wa) (a0 : ResStep) (v0_0 : Value) (p0_0 : RSl Ha eI 1 v0_0 a0.clause) (a1 : ResStep) (v1_0 : Value) (p1_0 : RSl Ha eI 1 v1_0 a1.clause) {r : Bool} (hp : (PF.laws_eqResStep a0 a1) = some r) :
  Calls Tryz.prog 71 #[Value.agg #[v0_0, Value.int .i64 a0.left, Value.int .i64 a0.right, Value.int .i64 a0.pivot], Value.agg #[v1_0, Value.int .i64 a1.left, Value.int .i64 a1.right, Value.int .i64 a1.pivot]] wa (Sc Ha wa (Value.bool r)) := by
 unfold PF.laws_eqResStep at hp
 have S0 := St.init hs
 refine calls_go (N := 26) (args := [Value.agg #[v0_0, Value.int .i64 a0.left, Value.int .i64 a0.right, Value.int .i64 a0.pivot], Value.agg #[v1_0, Value.int .i64 a1.left, Value.int .i64 a1.right, Value.int .i64 a1.pivot]]) Tryz.func71 rfl rfl rfl ?_
 refine FW.seq (FW.region ?_)
 obtain ⟨b21, w22, run23, S24⟩ := S0.box (P := Tryz.prog) 88 [v0_0, Value.int .i64 a0.left, Value.int .i64 a0.right, Value.int .i64 a0.pivot] (v := Value.agg #[v0_0, Value.int .i64 a0.left, Value.int .i64 a0.right, Value.int .i64 a0.pivot]) rfl (ones_cons p0_0.one (ones_cons rfl (ones_cons rfl (ones_cons rfl ones_nil))))
 refine FL.v (E.box rfl run23) ?_
 obtain ⟨H25, S26, i27, at28⟩ := S24.sealBox (i := 0) (l' := []) rfl rfl
 obtain ⟨b29, w30, run31, S32⟩ := S26.box (P := Tryz.prog) 88 [v1_0, Value.int .i64 a1.left, Value.int .i64 a1.right, Value.int .i64 a1.pivot] (v := Value.agg #[v1_0, Value.int .i64 a1.left, Value.int .i64 a1.right, Value.int .i64 a1.pivot]) rfl (ones_cons p1_0.one (ones_cons rfl (ones_cons rfl (ones_cons rfl ones_nil))))
 refine FL.v (E.box rfl run31) ?_
 obtain ⟨H33, S34, i35, at36⟩ := S32.sealBox (i := 0) (l' := []) rfl rfl
 refine FL.v (E.assign (v := Value.bool false) rfl) ?_
 refine FL.nil (FW.seq (FW.seq (FW.region ?_)))
 refine FL.v (E.fieldAddr tf88_0 rfl) ?_
 refine FL.v (E.load rfl (run_load1 Tryz.isAgg73 ((at28.mono i35).now S34.sl) rfl)) ?_
 refine FL.v (E.fieldAddr tf88_0 rfl) ?_
 refine FL.v (E.load rfl (run_load1 Tryz.isAgg73 (at36.now S34.sl) rfl)) ?_
 obtain ⟨r37, hr38, hp⟩ := bnd hp
 refine FL.call rfl rfl rfl (E.call Tryz.call52 (A2 rfl rfl)) (w_laws_eqIntS S34.sl v0_0 a0.clause (p0_0.mono (i27.tr i35)) v1_0 a1.clause (p1_0.mono (i27.tr i35)) hr38) ?_
 rintro e w39 ⟨rfl, r40⟩
 refine ⟨_, rfl, ?_⟩
 have S41 := S34.call r40
 refine FL.v (E.not rfl) ?_
 refine FL.nil ?_
 rcases ifB hp with ⟨c42, hp⟩ | ⟨c42, hp⟩
 ·
  refine FW.condT rfl c42 ?_
  refine FW.seq (FW.region ?_)
  refine FL.v (E.assign (v := Value.bool false) rfl) ?_
  refine FL.nil ?_
  refine FW.ret ?_
  obtain rfl := Option.some.inj hp
  exact ⟨.inr rfl, res1 rfl rfl ⟨rfl, S41.back⟩⟩
 ·
  refine FW.condF rfl c42 ?_
  refine FW.skip (FW.seq (FW.seq (FW.region ?_)))
  refine FL.v (E.fieldAddr tf88_1 rfl) ?_
  refine FL.v (E.load rfl (run_load1 Tryz.isAgg3 ((at28.mono i35).now S41.sl) rfl)) ?_
  refine FL.v (E.fieldAddr tf88_1 rfl) ?_
  refine FL.v (E.load rfl (run_load1 Tryz.isAgg3 (at36.now S41.sl) rfl)) ?_
  refine FL.v (E.neq rfl rfl) ?_
  refine FL.nil ?_
  rcases ifB hp with ⟨c43, hp⟩ | ⟨c43, hp⟩
  ·
   refine FW.condT rfl c43 ?_
   refine FW.seq (FW.region ?_)
   refine FL.v (E.assign (v := Value.bool false) rfl) ?_
   refine FL.nil ?_
   refine FW.ret ?_
   obtain rfl := Option.some.inj hp
   exact ⟨.inr rfl, res1 rfl rfl ⟨rfl, S41.back⟩⟩
  ·
   refine FW.condF rfl c43 ?_
   refine FW.skip (FW.seq (FW.seq (FW.region ?_)))
   refine FL.v (E.fieldAddr tf88_2 rfl) ?_
   refine FL.v (E.load rfl (run_load1 Tryz.isAgg3 ((at28.mono i35).now S41.sl) rfl)) ?_
   refine FL.v (E.fieldAddr tf88_2 rfl) ?_
   refine FL.v (E.load rfl (run_load1 Tryz.isAgg3 (at36.now S41.sl) rfl)) ?_
   refine FL.v (E.neq rfl rfl) ?_
   refine FL.nil ?_
   rcases ifB hp with ⟨c44, hp⟩ | ⟨c44, hp⟩
   ·
    refine FW.condT rfl c44 ?_
    refine FW.seq (FW.region ?_)
    refine FL.v (E.assign (v := Value.bool false) rfl) ?_
    refine FL.nil ?_
    refine FW.ret ?_
    obtain rfl := Option.some.inj hp
    exact ⟨.inr rfl, res1 rfl rfl ⟨rfl, S41.back⟩⟩
   ·
    refine FW.condF rfl c44 ?_
    refine FW.skip (FW.seq (FW.seq (FW.region ?_)))
    refine FL.v (E.fieldAddr tf88_3 rfl) ?_
    refine FL.v (E.load rfl (run_load1 Tryz.isAgg3 ((at28.mono i35).now S41.sl) rfl)) ?_
    refine FL.v (E.fieldAddr tf88_3 rfl) ?_
    refine FL.v (E.load rfl (run_load1 Tryz.isAgg3 (at36.now S41.sl) rfl)) ?_
    refine FL.v (E.neq rfl rfl) ?_
    refine FL.nil ?_
    rcases ifB hp with ⟨c45, hp⟩ | ⟨c45, hp⟩
    ·
     refine FW.condT rfl c45 ?_
     refine FW.seq (FW.region ?_)
     refine FL.v (E.assign (v := Value.bool false) rfl) ?_
     refine FL.nil ?_
     refine FW.ret ?_
     obtain rfl := Option.some.inj hp
     exact ⟨.inr rfl, res1 rfl rfl ⟨rfl, S41.back⟩⟩
    ·
     refine FW.condF rfl c45 ?_
     refine FW.skip (FW.seq (FW.region ?_))
     refine FL.v (E.assign (v := Value.bool true) rfl) ?_
     refine FL.nil ?_
     refine FW.ret ?_
     obtain rfl := Option.some.inj hp
     exact ⟨.inr rfl, res1 rfl rfl ⟨rfl, S41.back⟩⟩

theorem w_laws_eqResStepS {Ha : GH} {wa : World} (hs : Sl Ha wa) (v0 : Value) (a0 : List ResStep) (p0 : RSl Ha eResStep 4 v0 a0) (v1 : Value) (a1 : List ResStep) (p1 : RSl Ha eResStep 4 v1 a1) {r : Bool} (hp : (PF.laws_eqResStepS a0 a1) = some r) :
  Calls Tryz.prog 20 #[v0, v1] wa (Sc Ha wa (Value.bool r)) := by
 unfold PF.laws_eqResStepS at hp
 have S0 := St.init hs
 refine calls_go (N := 27) (args := [v0, v1]) Tryz.func20 rfl rfl rfl ?_
 refine FW.seq (FW.region ?_)
 refine FL.v (E.assign (v := Value.bool false) rfl) ?_
 refine FL.nil (FW.seq (FW.seq (FW.region ?_)))
 refine FL.v (E.move (v := v0) rfl) ?_
 refine FL.v (E.lenP te34 rfl p0) ?_
 refine FL.v (E.move (v := v1) rfl) ?_
 refine FL.v (E.lenP te34 rfl p1) ?_
 refine FL.v (E.neq rfl rfl) ?_
 refine FL.nil ?_
 rcases ifB hp with ⟨c21, hp⟩ | ⟨c21, hp⟩
 ·
  refine FW.condT rfl c21 ?_
  refine FW.seq (FW.region ?_)
  refine FL.v (E.assign (v := Value.bool false) rfl) ?_
  refine FL.nil ?_
  refine FW.ret ?_
  obtain rfl := Option.some.inj hp
  exact ⟨.inr rfl, res1 rfl rfl ⟨rfl, S0.back⟩⟩
 ·
  refine FW.condF rfl c21 ?_
  refine FW.skip (FW.seq (FW.seq (FW.region ?_)))
  refine FL.v (E.assign (v := Value.int .i64 0) rfl) ?_
  refine FL.nil ?_
  obtain ⟨q23, hq, hp⟩ := bndR hp
  refine FW.block ?_
  refine FW.mono (FW.forL (S := Unit) (X := Bool) (fun (i23 : Nat) (s23 : Unit) f w => ∃ H : GH, St Ha wa H w [] ∧ Inc Ha H ∧ f 5 = Value.int .i64 ((i23 : Nat) : Int) ∧ f 0 = v0 ∧ f 1 = v1) (fun q e f w => match q with | .go s23 => e = Exit.exit 0 ∧ (∃ H : GH, St Ha wa H w [] ∧ Inc Ha H) | .rt x => ((e = Exit.ret) ∧ (fun e f w => (e = Exit.normal ∨ e = Exit.ret) ∧ ∀ a, Fr (δ := []) 27 a f → ∃ v, (results Tryz.f20 a.tmps).run Tryz.prog w = .ok v w ∧ (Sc Ha wa (Value.bool x)) (.returned v) w) e f w)) hq ⟨_, S0, (Inc.rfl _), rfl, rfl, rfl⟩ ?_ ?_) ?_
  ·
   clear hp hq
   rintro i23 y22 s23 f61 w60 ⟨H57, S58, i59, k62, k63, k64⟩ hx23 o90 hp
   refine FW.seq (FW.seq (FW.region ?_))
   refine FL.v (E.move k62) ?_
   refine FL.v (E.move k63) ?_
   refine FL.v (E.lenP te34 rfl p0) ?_
   refine FL.v (E.lssT rfl rfl (lss_len hx23)) ?_
   refine FL.nil ?_
   refine FW.condT rfl rfl ?_
   refine FW.skip (FW.seq (FW.block (FW.seq ?_)))
   refine FW.draw (fun w' => Run w60.heap.size H57 w60 H57 w') (by kernel_rfl) (by kernel_rfl) (run_drew S58.sl) ?_
   refine FD.val rfl rfl rfl (fun w' hw' => (E.move k63)) ?_
   refine FD.val rfl rfl rfl (fun w' hw' => (E.move k62)) ?_
   obtain ⟨p66, cs67, pt68, l69, at70, rel71⟩ := p0.at (ix_nat hx23)
   obtain ⟨v72, rfl, h73⟩ := eResStep_open rel71
   refine FD.val rfl rfl rfl (fun w' hw' => (E.indexAddr te34 rfl rfl pt68)) ?_
   refine FD.val rfl rfl rfl (fun w' hw' => (E.load rfl (run_loadA Tryz.isAgg88 Tryz.sizeOf88 ((at70.mono i59).now (S58.call hw').sl) rfl))) ?_
   refine FD.val rfl rfl rfl (fun w' hw' => (E.move k64)) ?_
   refine FD.val rfl rfl rfl (fun w' hw' => (E.move k62)) ?_
   obtain ⟨x80, hx81, hp⟩ := bnd hp
   obtain ⟨p74, cs75, pt76, l77, at78, rel79⟩ := p1.at hx81
   obtain ⟨v82, rfl, h83⟩ := eResStep_open rel79
   refine FD.val rfl rfl rfl (fun w' hw' => (E.indexAddr te34 rfl rfl pt76)) ?_
   refine FD.val rfl rfl rfl (fun w' hw' => (E.load rfl (run_loadA Tryz.isAgg88 Tryz.sizeOf88 ((at78.mono i59).now (S58.call hw').sl) rfl))) ?_
   obtain ⟨r84, hr85, hp⟩ := bnd hp
   refine FD.call rfl rfl rfl (fun w' hw' => (E.call Tryz.call71 (A2 rfl rfl))) (fun w' hw' => Calls.cls hw' (w_laws_eqResStep (S58.call hw').sl y22 v72 (h73.mono i59) x80 v82 (h83.mono i59) hr85)) ?_
   refine FD.val rfl rfl rfl (fun w' hw' => (E.not rfl)) ?_
   refine FD.nil ?_
   intro w86 r88
   have S87 := S58.call r88
   rcases ifB hp with ⟨c89, hp⟩ | ⟨c89, hp⟩
   ·
    refine FW.condT rfl c89 ?_
    refine FW.seq (FW.region ?_)
    refine FL.v (E.assign (v := Value.bool false) rfl) ?_
    refine FL.nil ?_
    refine FW.ret ?_
    obtain rfl := Option.some.inj hp
    exact ⟨nofun, rfl, ⟨.inr rfl, res1 rfl rfl ⟨rfl, S87.back⟩⟩⟩
   ·
    refine FW.condF rfl c89 ?_
    refine FW.skip (FW.region ?_)
    refine FL.v (E.move k62) ?_
    refine FL.v (E.add rfl rfl) ?_
    refine FL.v (E.assign (v := Value.int .i64 (wr (((i23 : Nat) : Int) + 1))) rfl) ?_
    refine FL.nil ?_
    obtain rfl := Option.some.inj hp
    exact ⟨rfl, ⟨_, S87, i59, (nat_succ rfl (lt_of_get hx23) (p0.mono i59).le), k63, k64⟩⟩
  ·
   clear hp hq
   rintro s23 f100 w99 ⟨H96, S97, i98, k101, k102, k103⟩
   refine FW.seq (FW.seq (FW.region ?_))
   refine FL.v (E.move k101) ?_
   refine FL.v (E.move k102) ?_
   refine FL.v (E.lenP te34 rfl p0) ?_
   refine FL.v (E.lss rfl rfl) ?_
   refine FL.nil ?_
   refine FW.condF rfl dlt_len ?_
   refine FW.exit ?_
   exact ⟨nofun, rfl, ⟨_, S97, i98⟩⟩
  ·
   clear hq
   intro e f95 w94 hD
   rcases q23 with s23 | x23
   ·
    obtain ⟨rfl, hD⟩ := hD
    obtain ⟨H91, S92, i93⟩ := hD
    replace hp := el_go hp
    refine FW.seq (FW.region ?_)
    refine FL.v (E.assign (v := Value.bool true) rfl) ?_
    refine FL.nil ?_
    refine FW.ret ?_
    obtain rfl := Option.some.inj hp
    exact ⟨.inr rfl, res1 rfl rfl ⟨rfl, S92.back⟩⟩
   ·
    obtain ⟨he, hL⟩ := hD
    replace hp := el_rt hp
    obtain rfl := Option.some.inj hp
    subst he
    exact hL

theorem w_laws_eqTerm {Ha : GH} {wa : World} (hs : Sl Ha wa) (a0 : Term) (a1 : Term) :
  Calls Tryz.prog 101 #[Value.agg #[Value.int .i64 a0.mono, Value.int .i64 a0.coeff], Value.agg #[Value.int .i64 a1.mono, Value.int .i64 a1.coeff]] wa (Sc Ha wa (Value.bool (PF.laws_eqTerm a0 a1))) := by
 obtain ⟨r, hp⟩ : ∃ r, (PF.laws_eqTerm a0 a1) = r := ⟨_, rfl⟩
 rw [hp]
 unfold PF.laws_eqTerm at hp
 have S0 := St.init hs
 refine calls_go (N := 15) (args := [Value.agg #[Value.int .i64 a0.mono, Value.int .i64 a0.coeff], Value.agg #[Value.int .i64 a1.mono, Value.int .i64 a1.coeff]]) Tryz.func101 rfl rfl rfl ?_
 refine FW.seq (FW.region ?_)
 obtain ⟨b21, w22, run23, S24⟩ := S0.box (P := Tryz.prog) 108 [Value.int .i64 a0.mono, Value.int .i64 a0.coeff] (v := Value.agg #[Value.int .i64 a0.mono, Value.int .i64 a0.coeff]) rfl (ones_cons rfl (ones_cons rfl ones_nil))
 refine FL.v (E.box rfl run23) ?_
 obtain ⟨H25, S26, i27, at28⟩ := S24.sealBox (i := 0) (l' := []) rfl rfl
 obtain ⟨b29, w30, run31, S32⟩ := S26.box (P := Tryz.prog) 108 [Value.int .i64 a1.mono, Value.int .i64 a1.coeff] (v := Value.agg #[Value.int .i64 a1.mono, Value.int .i64 a1.coeff]) rfl (ones_cons rfl (ones_cons rfl ones_nil))
 refine FL.v (E.box rfl run31) ?_
 obtain ⟨H33, S34, i35, at36⟩ := S32.sealBox (i := 0) (l' := []) rfl rfl
 refine FL.v (E.assign (v := Value.bool false) rfl) ?_
 refine FL.nil (FW.seq (FW.seq (FW.region ?_)))
 refine FL.v (E.fieldAddr tf108_0 rfl) ?_
 refine FL.v (E.load rfl (run_load1 Tryz.isAgg3 ((at28.mono i35).now S34.sl) rfl)) ?_
 refine FL.v (E.fieldAddr tf108_0 rfl) ?_
 refine FL.v (E.load rfl (run_load1 Tryz.isAgg3 (at36.now S34.sl) rfl)) ?_
 refine FL.v (E.neq rfl rfl) ?_
 refine FL.nil ?_
 rcases ifT hp with ⟨c37, hp⟩ | ⟨c37, hp⟩
 ·
  refine FW.condT rfl c37 ?_
  refine FW.seq (FW.region ?_)
  refine FL.v (E.assign (v := Value.bool false) rfl) ?_
  refine FL.nil ?_
  refine FW.ret ?_
  obtain rfl := hp
  exact ⟨.inr rfl, res1 rfl rfl ⟨rfl, S34.back⟩⟩
 ·
  refine FW.condF rfl c37 ?_
  refine FW.skip (FW.seq (FW.seq (FW.region ?_)))
  refine FL.v (E.fieldAddr tf108_1 rfl) ?_
  refine FL.v (E.load rfl (run_load1 Tryz.isAgg3 ((at28.mono i35).now S34.sl) rfl)) ?_
  refine FL.v (E.fieldAddr tf108_1 rfl) ?_
  refine FL.v (E.load rfl (run_load1 Tryz.isAgg3 (at36.now S34.sl) rfl)) ?_
  refine FL.v (E.neq rfl rfl) ?_
  refine FL.nil ?_
  rcases ifT hp with ⟨c38, hp⟩ | ⟨c38, hp⟩
  ·
   refine FW.condT rfl c38 ?_
   refine FW.seq (FW.region ?_)
   refine FL.v (E.assign (v := Value.bool false) rfl) ?_
   refine FL.nil ?_
   refine FW.ret ?_
   obtain rfl := hp
   exact ⟨.inr rfl, res1 rfl rfl ⟨rfl, S34.back⟩⟩
  ·
   refine FW.condF rfl c38 ?_
   refine FW.skip (FW.seq (FW.region ?_))
   refine FL.v (E.assign (v := Value.bool true) rfl) ?_
   refine FL.nil ?_
   refine FW.ret ?_
   obtain rfl := hp
   exact ⟨.inr rfl, res1 rfl rfl ⟨rfl, S34.back⟩⟩

theorem w_laws_eqTermS {Ha : GH} {wa : World} (hs : Sl Ha wa) (v0 : Value) (a0 : List Term) (p0 : RSl Ha eTerm 2 v0 a0) (v1 : Value) (a1 : List Term) (p1 : RSl Ha eTerm 2 v1 a1) {r : Bool} (hp : (PF.laws_eqTermS a0 a1) = some r) :
  Calls Tryz.prog 35 #[v0, v1] wa (Sc Ha wa (Value.bool r)) := by
 unfold PF.laws_eqTermS at hp
 have S0 := St.init hs
 refine calls_go (N := 27) (args := [v0, v1]) Tryz.func35 rfl rfl rfl ?_
 refine FW.seq (FW.region ?_)
 refine FL.v (E.assign (v := Value.bool false) rfl) ?_
 refine FL.nil (FW.seq (FW.seq (FW.region ?_)))
 refine FL.v (E.move (v := v0) rfl) ?_
 refine FL.v (E.lenP te55 rfl p0) ?_
 refine FL.v (E.move (v := v1) rfl) ?_
 refine FL.v (E.lenP te55 rfl p1) ?_
 refine FL.v (E.neq rfl rfl) ?_
 refine FL.nil ?_
 rcases ifB hp with ⟨c21, hp⟩ | ⟨c21, hp⟩
 ·
  refine FW.condT rfl c21 ?_
  refine FW.seq (FW.region ?_)
  refine FL.v (E.assign (v := Value.bool false) rfl) ?_
  refine FL.nil ?_
  refine FW.ret ?_
  obtain rfl := Option.some.inj hp
  exact ⟨.inr rfl, res1 rfl rfl ⟨rfl, S0.back⟩⟩
 ·
  refine FW.condF rfl c21 ?_
  refine FW.skip (FW.seq (FW.seq (FW.region ?_)))
  refine FL.v (E.assign (v := Value.int .i64 0) rfl) ?_
  refine FL.nil ?_
  obtain ⟨q23, hq, hp⟩ := bndR hp
  refine FW.block ?_
  refine FW.mono (FW.forL (S := Unit) (X := Bool) (fun (i23 : Nat) (s23 : Unit) f w => ∃ H : GH, St Ha wa H w [] ∧ Inc Ha H ∧ f 5 = Value.int .i64 ((i23 : Nat) : Int) ∧ f 0 = v0 ∧ f 1 = v1) (fun q e f w => match q with | .go s23 => e = Exit.exit 0 ∧ (∃ H : GH, St Ha wa H w [] ∧ Inc Ha H) | .rt x => ((e = Exit.ret) ∧ (fun e f w => (e = Exit.normal ∨ e = Exit.ret) ∧ ∀ a, Fr (δ := []) 27 a f → ∃ v, (results Tryz.f35 a.tmps).run Tryz.prog w = .ok v w ∧ (Sc Ha wa (Value.bool x)) (.returned v) w) e f w)) hq ⟨_, S0, (Inc.rfl _), rfl, rfl, rfl⟩ ?_ ?_) ?_
  ·
   clear hp hq
   rintro i23 y22 s23 f55 w54 ⟨H51, S52, i53, k56, k57, k58⟩ hx23 o78 hp
   refine FW.seq (FW.seq (FW.region ?_))
   refine FL.v (E.move k56) ?_
   refine FL.v (E.move k57) ?_
   refine FL.v (E.lenP te55 rfl p0) ?_
   refine FL.v (E.lssT rfl rfl (lss_len hx23)) ?_
   refine FL.nil ?_
   refine FW.condT rfl rfl ?_
   refine FW.skip (FW.seq (FW.block (FW.seq ?_)))
   refine FW.draw (fun w' => Run w54.heap.size H51 w54 H51 w') (by kernel_rfl) (by kernel_rfl) (run_drew S52.sl) ?_
   refine FD.val rfl rfl rfl (fun w' hw' => (E.move k57)) ?_
   refine FD.val rfl rfl rfl (fun w' hw' => (E.move k56)) ?_
   obtain ⟨p60, cs61, pt62, l63, at64, rel65⟩ := p0.at (ix_nat hx23)
   obtain rfl := eTerm_open rel65
   refine FD.val rfl rfl rfl (fun w' hw' => (E.indexAddr te55 rfl rfl pt62)) ?_
   refine FD.val rfl rfl rfl (fun w' hw' => (E.load rfl (run_loadA Tryz.isAgg108 Tryz.sizeOf108 ((at64.mono i53).now (S52.call hw').sl) rfl))) ?_
   refine FD.val rfl rfl rfl (fun w' hw' => (E.move k58)) ?_
   refine FD.val rfl rfl rfl (fun w' hw' => (E.move k56)) ?_
   obtain ⟨x72, hx73, hp⟩ := bnd hp
   obtain ⟨p66, cs67, pt68, l69, at70, rel71⟩ := p1.at hx73
   obtain rfl := eTerm_open rel71
   refine FD.val rfl rfl rfl (fun w' hw' => (E.indexAddr te55 rfl rfl pt68)) ?_
   refine FD.val rfl rfl rfl (fun w' hw' => (E.load rfl (run_loadA Tryz.isAgg108 Tryz.sizeOf108 ((at70.mono i53).now (S52.call hw').sl) rfl))) ?_
   refine FD.call rfl rfl rfl (fun w' hw' => (E.call Tryz.call101 (A2 rfl rfl))) (fun w' hw' => Calls.cls hw' (w_laws_eqTerm (S52.call hw').sl y22 x72)) ?_
   refine FD.val rfl rfl rfl (fun w' hw' => (E.not rfl)) ?_
   refine FD.nil ?_
   intro w74 r76
   have S75 := S52.call r76
   rcases ifB hp with ⟨c77, hp⟩ | ⟨c77, hp⟩
   ·
    refine FW.condT rfl c77 ?_
    refine FW.seq (FW.region ?_)
    refine FL.v (E.assign (v := Value.bool false) rfl) ?_
    refine FL.nil ?_
    refine FW.ret ?_
    obtain rfl := Option.some.inj hp
    exact ⟨nofun, rfl, ⟨.inr rfl, res1 rfl rfl ⟨rfl, S75.back⟩⟩⟩
   ·
    refine FW.condF rfl c77 ?_
    refine FW.skip (FW.region ?_)
    refine FL.v (E.move k56) ?_
    refine FL.v (E.add rfl rfl) ?_
    refine FL.v (E.assign (v := Value.int .i64 (wr (((i23 : Nat) : Int) + 1))) rfl) ?_
    refine FL.nil ?_
    obtain rfl := Option.some.inj hp
    exact ⟨rfl, ⟨_, S75, i53, (nat_succ rfl (lt_of_get hx23) (p0.mono i53).le), k57, k58⟩⟩
  ·
   clear hp hq
   rintro s23 f88 w87 ⟨H84, S85, i86, k89, k90, k91⟩
   refine FW.seq (FW.seq (FW.region ?_))
   refine FL.v (E.move k89) ?_
   refine FL.v (E.move k90) ?_
   refine FL.v (E.lenP te55 rfl p0) ?_
   refine FL.v (E.lss rfl rfl) ?_
   refine FL.nil ?_
   refine FW.condF rfl dlt_len ?_
   refine FW.exit ?_
   exact ⟨nofun, rfl, ⟨_, S85, i86⟩⟩
  ·
   clear hq
   intro e f83 w82 hD
   rcases q23 with s23 | x23
   ·
    obtain ⟨rfl, hD⟩ := hD
    obtain ⟨H79, S80, i81⟩ := hD
    replace hp := el_go hp
    refine FW.seq (FW.region ?_)
    refine FL.v (E.assign (v := Value.bool true) rfl) ?_
    refine FL.nil ?_
    refine FW.ret ?_
    obtain rfl := Option.some.inj hp
    exact ⟨.inr rfl, res1 rfl rfl ⟨rfl, S80.back⟩⟩
   ·
    obtain ⟨he, hL⟩ := hD
    replace hp := el_rt hp
    obtain rfl := Option.some.inj hp
    subst he
    exact hL

theorem w_laws_eqPcStep {Ha : GH} {wa : World} (hs : Sl Ha wa) (a0 : PcStep) (v0_1 : Value) (p0_1 : RSl Ha eTerm 2 v0_1 a0.poly) (a1 : PcStep) (v1_1 : Value) (p1_1 : RSl Ha eTerm 2 v1_1 a1.poly) {r : Bool} (hp : (PF.laws_eqPcStep a0 a1) = some r) :
  Calls Tryz.prog 72 #[Value.agg #[Value.int .i64 a0.kind, v0_1, Value.int .i64 a0.a, Value.int .i64 a0.b, Value.int .i64 a0.x, Value.int .i64 a0.y], Value.agg #[Value.int .i64 a1.kind, v1_1, Value.int .i64 a1.a, Value.int .i64 a1.b, Value.int .i64 a1.x, Value.int .i64 a1.y]] wa (Sc Ha wa (Value.bool r)) := by
 unfold PF.laws_eqPcStep at hp
 have S0 := St.init hs
 refine calls_go (N := 36) (args := [Value.agg #[Value.int .i64 a0.kind, v0_1, Value.int .i64 a0.a, Value.int .i64 a0.b, Value.int .i64 a0.x, Value.int .i64 a0.y], Value.agg #[Value.int .i64 a1.kind, v1_1, Value.int .i64 a1.a, Value.int .i64 a1.b, Value.int .i64 a1.x, Value.int .i64 a1.y]]) Tryz.func72 rfl rfl rfl ?_
 refine FW.seq (FW.region ?_)
 obtain ⟨b21, w22, run23, S24⟩ := S0.box (P := Tryz.prog) 90 [Value.int .i64 a0.kind, v0_1, Value.int .i64 a0.a, Value.int .i64 a0.b, Value.int .i64 a0.x, Value.int .i64 a0.y] (v := Value.agg #[Value.int .i64 a0.kind, v0_1, Value.int .i64 a0.a, Value.int .i64 a0.b, Value.int .i64 a0.x, Value.int .i64 a0.y]) rfl (ones_cons rfl (ones_cons p0_1.one (ones_cons rfl (ones_cons rfl (ones_cons rfl (ones_cons rfl ones_nil))))))
 refine FL.v (E.box rfl run23) ?_
 obtain ⟨H25, S26, i27, at28⟩ := S24.sealBox (i := 0) (l' := []) rfl rfl
 obtain ⟨b29, w30, run31, S32⟩ := S26.box (P := Tryz.prog) 90 [Value.int .i64 a1.kind, v1_1, Value.int .i64 a1.a, Value.int .i64 a1.b, Value.int .i64 a1.x, Value.int .i64 a1.y] (v := Value.agg #[Value.int .i64 a1.kind, v1_1, Value.int .i64 a1.a, Value.int .i64 a1.b, Value.int .i64 a1.x, Value.int .i64 a1.y]) rfl (ones_cons rfl (ones_cons p1_1.one (ones_cons rfl (ones_cons rfl (ones_cons rfl (ones_cons rfl ones_nil))))))
 refine FL.v (E.box rfl run31) ?_
 obtain ⟨H33, S34, i35, at36⟩ := S32.sealBox (i := 0) (l' := []) rfl rfl
 refine FL.v (E.assign (v := Value.bool false) rfl) ?_
 refine FL.nil (FW.seq (FW.seq (FW.region ?_)))
 refine FL.v (E.fieldAddr tf90_0 rfl) ?_
 refine FL.v (E.load rfl (run_load1 Tryz.isAgg3 ((at28.mono i35).now S34.sl) rfl)) ?_
 refine FL.v (E.fieldAddr tf90_0 rfl) ?_
 refine FL.v (E.load rfl (run_load1 Tryz.isAgg3 (at36.now S34.sl) rfl)) ?_
 refine FL.v (E.neq rfl rfl) ?_
 refine FL.nil ?_
 rcases ifB hp with ⟨c37, hp⟩ | ⟨c37, hp⟩
 ·
  refine FW.condT rfl c37 ?_
  refine FW.seq (FW.region ?_)
  refine FL.v (E.assign (v := Value.bool false) rfl) ?_
  refine FL.nil ?_
  refine FW.ret ?_
  obtain rfl := Option.some.inj hp
  exact ⟨.inr rfl, res1 rfl rfl ⟨rfl, S34.back⟩⟩
 ·
  refine FW.condF rfl c37 ?_
  refine FW.skip (FW.seq (FW.seq (FW.region ?_)))
  refine FL.v (E.fieldAddr tf90_1 rfl) ?_
  refine FL.v (E.load rfl (run_load1 Tryz.isAgg55 ((at28.mono i35).now S34.sl) rfl)) ?_
  refine FL.v (E.fieldAddr tf90_1 rfl) ?_
  refine FL.v (E.load rfl (run_load1 Tryz.isAgg55 (at36.now S34.sl) rfl)) ?_
  obtain ⟨r38, hr39, hp⟩ := bnd hp
  refine FL.call rfl rfl rfl (E.call Tryz.call35 (A2 rfl rfl)) (w_laws_eqTermS S34.sl v0_1 a0.poly (p0_1.mono (i27.tr i35)) v1_1 a1.poly (p1_1.mono (i27.tr i35)) hr39) ?_
  rintro e w40 ⟨rfl, r41⟩
  refine ⟨_, rfl, ?_⟩
  have S42 := S34.call r41
  refine FL.v (E.not rfl) ?_
  refine FL.nil ?_
  rcases ifB hp with ⟨c43, hp⟩ | ⟨c43, hp⟩
  ·
   refine FW.condT rfl c43 ?_
   refine FW.seq (FW.region ?_)
   refine FL.v (E.assign (v := Value.bool false) rfl) ?_
   refine FL.nil ?_
   refine FW.ret ?_
   obtain rfl := Option.some.inj hp
   exact ⟨.inr rfl, res1 rfl rfl ⟨rfl, S42.back⟩⟩
  ·
   refine FW.condF rfl c43 ?_
   refine FW.skip (FW.seq (FW.seq (FW.region ?_)))
   refine FL.v (E.fieldAddr tf90_2 rfl) ?_
   refine FL.v (E.load rfl (run_load1 Tryz.isAgg3 ((at28.mono i35).now S42.sl) rfl)) ?_
   refine FL.v (E.fieldAddr tf90_2 rfl) ?_
   refine FL.v (E.load rfl (run_load1 Tryz.isAgg3 (at36.now S42.sl) rfl)) ?_
   refine FL.v (E.neq rfl rfl) ?_
   refine FL.nil ?_
   rcases ifB hp with ⟨c44, hp⟩ | ⟨c44, hp⟩
   ·
    refine FW.condT rfl c44 ?_
    refine FW.seq (FW.region ?_)
    refine FL.v (E.assign (v := Value.bool false) rfl) ?_
    refine FL.nil ?_
    refine FW.ret ?_
    obtain rfl := Option.some.inj hp
    exact ⟨.inr rfl, res1 rfl rfl ⟨rfl, S42.back⟩⟩
   ·
    refine FW.condF rfl c44 ?_
    refine FW.skip (FW.seq (FW.seq (FW.region ?_)))
    refine FL.v (E.fieldAddr tf90_3 rfl) ?_
    refine FL.v (E.load rfl (run_load1 Tryz.isAgg3 ((at28.mono i35).now S42.sl) rfl)) ?_
    refine FL.v (E.fieldAddr tf90_3 rfl) ?_
    refine FL.v (E.load rfl (run_load1 Tryz.isAgg3 (at36.now S42.sl) rfl)) ?_
    refine FL.v (E.neq rfl rfl) ?_
    refine FL.nil ?_
    rcases ifB hp with ⟨c45, hp⟩ | ⟨c45, hp⟩
    ·
     refine FW.condT rfl c45 ?_
     refine FW.seq (FW.region ?_)
     refine FL.v (E.assign (v := Value.bool false) rfl) ?_
     refine FL.nil ?_
     refine FW.ret ?_
     obtain rfl := Option.some.inj hp
     exact ⟨.inr rfl, res1 rfl rfl ⟨rfl, S42.back⟩⟩
    ·
     refine FW.condF rfl c45 ?_
     refine FW.skip (FW.seq (FW.seq (FW.region ?_)))
     refine FL.v (E.fieldAddr tf90_4 rfl) ?_
     refine FL.v (E.load rfl (run_load1 Tryz.isAgg3 ((at28.mono i35).now S42.sl) rfl)) ?_
     refine FL.v (E.fieldAddr tf90_4 rfl) ?_
     refine FL.v (E.load rfl (run_load1 Tryz.isAgg3 (at36.now S42.sl) rfl)) ?_
     refine FL.v (E.neq rfl rfl) ?_
     refine FL.nil ?_
     rcases ifB hp with ⟨c46, hp⟩ | ⟨c46, hp⟩
     ·
      refine FW.condT rfl c46 ?_
      refine FW.seq (FW.region ?_)
      refine FL.v (E.assign (v := Value.bool false) rfl) ?_
      refine FL.nil ?_
      refine FW.ret ?_
      obtain rfl := Option.some.inj hp
      exact ⟨.inr rfl, res1 rfl rfl ⟨rfl, S42.back⟩⟩
     ·
      refine FW.condF rfl c46 ?_
      refine FW.skip (FW.seq (FW.seq (FW.region ?_)))
      refine FL.v (E.fieldAddr tf90_5 rfl) ?_
      refine FL.v (E.load rfl (run_load1 Tryz.isAgg3 ((at28.mono i35).now S42.sl) rfl)) ?_
      refine FL.v (E.fieldAddr tf90_5 rfl) ?_
      refine FL.v (E.load rfl (run_load1 Tryz.isAgg3 (at36.now S42.sl) rfl)) ?_
      refine FL.v (E.neq rfl rfl) ?_
      refine FL.nil ?_
      rcases ifB hp with ⟨c47, hp⟩ | ⟨c47, hp⟩
      ·
       refine FW.condT rfl c47 ?_
       refine FW.seq (FW.region ?_)
       refine FL.v (E.assign (v := Value.bool false) rfl) ?_
       refine FL.nil ?_
       refine FW.ret ?_
       obtain rfl := Option.some.inj hp
       exact ⟨.inr rfl, res1 rfl rfl ⟨rfl, S42.back⟩⟩
      ·
       refine FW.condF rfl c47 ?_
       refine FW.skip (FW.seq (FW.region ?_))
       refine FL.v (E.assign (v := Value.bool true) rfl) ?_
       refine FL.nil ?_
       refine FW.ret ?_
       obtain rfl := Option.some.inj hp
       exact ⟨.inr rfl, res1 rfl rfl ⟨rfl, S42.back⟩⟩

theorem w_laws_eqPcStepS {Ha : GH} {wa : World} (hs : Sl Ha wa) (v0 : Value) (a0 : List PcStep) (p0 : RSl Ha ePcStep 6 v0 a0) (v1 : Value) (a1 : List PcStep) (p1 : RSl Ha ePcStep 6 v1 a1) {r : Bool} (hp : (PF.laws_eqPcStepS a0 a1) = some r) :
  Calls Tryz.prog 21 #[v0, v1] wa (Sc Ha wa (Value.bool r)) := by
 unfold PF.laws_eqPcStepS at hp
 have S0 := St.init hs
 refine calls_go (N := 27) (args := [v0, v1]) Tryz.func21 rfl rfl rfl ?_
 refine FW.seq (FW.region ?_)
 refine FL.v (E.assign (v := Value.bool false) rfl) ?_
 refine FL.nil (FW.seq (FW.seq (FW.region ?_)))
 refine FL.v (E.move (v := v0) rfl) ?_
 refine FL.v (E.lenP te36 rfl p0) ?_
 refine FL.v (E.move (v := v1) rfl) ?_
 refine FL.v (E.lenP te36 rfl p1) ?_
 refine FL.v (E.neq rfl rfl) ?_
 refine FL.nil ?_
 rcases ifB hp with ⟨c21, hp⟩ | ⟨c21, hp⟩
 ·
  refine FW.condT rfl c21 ?_
  refine FW.seq (FW.region ?_)
  refine FL.v (E.assign (v := Value.bool false) rfl) ?_
  refine FL.nil ?_
  refine FW.ret ?_
  obtain rfl := Option.some.inj hp
  exact ⟨.inr rfl, res1 rfl rfl ⟨rfl, S0.back⟩⟩
 ·
  refine FW.condF rfl c21 ?_
  refine FW.skip (FW.seq (FW.seq (FW.region ?_)))
  refine FL.v (E.assign (v := Value.int .i64 0) rfl) ?_
  refine FL.nil ?_
  obtain ⟨q23, hq, hp⟩ := bndR hp
  refine FW.block ?_
  refine FW.mono (FW.forL (S := Unit) (X := Bool) (fun (i23 : Nat) (s23 : Unit) f w => ∃ H : GH, St Ha wa H w [] ∧ Inc Ha H ∧ f 5 = Value.int .i64 ((i23 : Nat) : Int) ∧ f 0 = v0 ∧ f 1 = v1) (fun q e f w => match q with | .go s23 => e = Exit.exit 0 ∧ (∃ H : GH, St Ha wa H w [] ∧ Inc Ha H) | .rt x => ((e = Exit.ret) ∧ (fun e f w => (e = Exit.normal ∨ e = Exit.ret) ∧ ∀ a, Fr (δ := []) 27 a f → ∃ v, (results Tryz.f21 a.tmps).run Tryz.prog w = .ok v w ∧ (Sc Ha wa (Value.bool x)) (.returned v) w) e f w)) hq ⟨_, S0, (Inc.rfl _), rfl, rfl, rfl⟩ ?_ ?_) ?_
  ·
   clear hp hq
   rintro i23 y22 s23 f61 w60 ⟨H57, S58, i59, k62, k63, k64⟩ hx23 o90 hp
   refine FW.seq (FW.seq (FW.region ?_))
   refine FL.v (E.move k62) ?_
   refine FL.v (E.move k63) ?_
   refine FL.v (E.lenP te36 rfl p0) ?_
   refine FL.v (E.lssT rfl rfl (lss_len hx23)) ?_
   refine FL.nil ?_
   refine FW.condT rfl rfl ?_
   refine FW.skip (FW.seq (FW.block (FW.seq ?_)))
   refine FW.draw (fun w' => Run w60.heap.size H57 w60 H57 w') (by kernel_rfl) (by kernel_rfl) (run_drew S58.sl) ?_
   refine FD.val rfl rfl rfl (fun w' hw' => (E.move k63)) ?_
   refine FD.val rfl rfl rfl (fun w' hw' => (E.move k62)) ?_
   obtain ⟨p66, cs67, pt68, l69, at70, rel71⟩ := p0.at (ix_nat hx23)
   obtain ⟨v72, rfl, h73⟩ := ePcStep_open rel71
   refine FD.val rfl rfl rfl (fun w' hw' => (E.indexAddr te36 rfl rfl pt68)) ?_
   refine FD.val rfl rfl rfl (fun w' hw' => (E.load rfl (run_loadA Tryz.isAgg90 Tryz.sizeOf90 ((at70.mono i59).now (S58.call hw').sl) rfl))) ?_
   refine FD.val rfl rfl rfl (fun w' hw' => (E.move k64)) ?_
   refine FD.val rfl rfl rfl (fun w' hw' => (E.move k62)) ?_
   obtain ⟨x80, hx81, hp⟩ := bnd hp
   obtain ⟨p74, cs75, pt76, l77, at78, rel79⟩ := p1.at hx81
   obtain ⟨v82, rfl, h83⟩ := ePcStep_open rel79
   refine FD.val rfl rfl rfl (fun w' hw' => (E.indexAddr te36 rfl rfl pt76)) ?_
   refine FD.val rfl rfl rfl (fun w' hw' => (E.load rfl (run_loadA Tryz.isAgg90 Tryz.sizeOf90 ((at78.mono i59).now (S58.call hw').sl) rfl))) ?_
   obtain ⟨r84, hr85, hp⟩ := bnd hp
   refine FD.call rfl rfl rfl (fun w' hw' => (E.call Tryz.call72 (A2 rfl rfl))) (fun w' hw' => Calls.cls hw' (w_laws_eqPcStep (S58.call hw').sl y22 v72 (h73.mono i59) x80 v82 (h83.mono i59) hr85)) ?_
   refine FD.val rfl rfl rfl (fun w' hw' => (E.not rfl)) ?_
   refine FD.nil ?_
   intro w86 r88
   have S87 := S58.call r88
   rcases ifB hp with ⟨c89, hp⟩ | ⟨c89, hp⟩
   ·
    refine FW.condT rfl c89 ?_
    refine FW.seq (FW.region ?_)
    refine FL.v (E.assign (v := Value.bool false) rfl) ?_
    refine FL.nil ?_
    refine FW.ret ?_
    obtain rfl := Option.some.inj hp
    exact ⟨nofun, rfl, ⟨.inr rfl, res1 rfl rfl ⟨rfl, S87.back⟩⟩⟩
   ·
    refine FW.condF rfl c89 ?_
    refine FW.skip (FW.region ?_)
    refine FL.v (E.move k62) ?_
    refine FL.v (E.add rfl rfl) ?_
    refine FL.v (E.assign (v := Value.int .i64 (wr (((i23 : Nat) : Int) + 1))) rfl) ?_
    refine FL.nil ?_
    obtain rfl := Option.some.inj hp
    exact ⟨rfl, ⟨_, S87, i59, (nat_succ rfl (lt_of_get hx23) (p0.mono i59).le), k63, k64⟩⟩
  ·
   clear hp hq
   rintro s23 f100 w99 ⟨H96, S97, i98, k101, k102, k103⟩
   refine FW.seq (FW.seq (FW.region ?_))
   refine FL.v (E.move k101) ?_
   refine FL.v (E.move k102) ?_
   refine FL.v (E.lenP te36 rfl p0) ?_
   refine FL.v (E.lss rfl rfl) ?_
   refine FL.nil ?_
   refine FW.condF rfl dlt_len ?_
   refine FW.exit ?_
   exact ⟨nofun, rfl, ⟨_, S97, i98⟩⟩
  ·
   clear hq
   intro e f95 w94 hD
   rcases q23 with s23 | x23
   ·
    obtain ⟨rfl, hD⟩ := hD
    obtain ⟨H91, S92, i93⟩ := hD
    replace hp := el_go hp
    refine FW.seq (FW.region ?_)
    refine FL.v (E.assign (v := Value.bool true) rfl) ?_
    refine FL.nil ?_
    refine FW.ret ?_
    obtain rfl := Option.some.inj hp
    exact ⟨.inr rfl, res1 rfl rfl ⟨rfl, S92.back⟩⟩
   ·
    obtain ⟨he, hL⟩ := hD
    replace hp := el_rt hp
    obtain rfl := Option.some.inj hp
    subst he
    exact hL

set_option maxHeartbeats 4000000 in
theorem w_laws_FnExactIsTranslationOf {Ha : GH} {wa : World} (hs : Sl Ha wa) (a0 : Int) (a1 : Cnf) (v1_1 : Value) (p1_1 : RSl Ha (eL eI 1) 1 v1_1 a1.clauses) (v2 : Value) (a2 : List ResStep) (p2 : RSl Ha eResStep 4 v2 a2) (v3 : Value) (a3 : List PcStep) (p3 : RSl Ha ePcStep 6 v3 a3) {r : Bool} (hp : (PF.laws_FnExactIsTranslationOf a0 a1 a2 a3) = some r) :
  Calls Tryz.prog 3 #[Value.int .i64 a0, Value.agg #[Value.int .i64 a1.vars, v1_1], v2, v3] wa (Sc Ha wa (Value.bool r)) := by
 unfold PF.laws_FnExactIsTranslationOf at hp
 have S0 := St.init hs
 refine calls_go (N := 80) (args := [Value.int .i64 a0, Value.agg #[Value.int .i64 a1.vars, v1_1], v2, v3]) Tryz.func3 rfl rfl rfl ?_
 refine FW.seq (FW.region ?_)
 obtain ⟨w21, run22, S23, z24⟩ := S0.boxB (P := Tryz.prog) 24 [Value.int .i64 a1.vars, v1_1] (v := Value.agg #[Value.int .i64 a1.vars, v1_1]) rfl (ones_cons rfl (ones_cons p1_1.one ones_nil))
 refine FL.v (E.box rfl run22) ?_
 obtain ⟨H25, S26, i27, at28⟩ := S23.sealBoxB (i := 0) (l' := []) rfl rfl
 refine FL.v (E.assign (v := Value.bool false) rfl) ?_
 refine FL.nil (FW.seq (FW.region ?_))
 refine FL.v (E.assign (v := Value.int .i64 1048576) rfl) ?_
 refine FL.nil (FW.seq (FW.region ?_))
 refine FL.v (E.load rfl (run_loadA Tryz.isAgg24 Tryz.sizeOf24 ((at28.mono sgI).now S26.sl) rfl)) ?_
 refine FL.v (E.move (v := Value.int .i64 1048576) rfl) ?_
 obtain ⟨r29, hr30, hp⟩ := bnd hp
 refine FL.call rfl rfl rfl (E.call Tryz.call11 (A2 rfl rfl)) (w_laws_szCnf S26.sl a1 v1_1 (p1_1.mono i27) 1048576 hr30) ?_
 rintro e w31 ⟨rfl, r32⟩
 refine ⟨_, rfl, ?_⟩
 have S33 := S26.call r32
 have z34 := r32.bel.size
 refine FL.v (E.assign (v := Value.int .i64 r29) rfl) ?_
 refine FL.nil (FW.seq (FW.seq (FW.region ?_)))
 refine FL.v (E.move (v := Value.int .i64 r29) rfl) ?_
 refine FL.v (E.lss rfl rfl) ?_
 refine FL.nil ?_
 rcases ifB hp with ⟨c35, hp⟩ | ⟨c35, hp⟩
 ·
  refine FW.condT rfl c35 ?_
  refine FW.seq (FW.region ?_)
  refine FL.v (E.assign (v := Value.bool true) rfl) ?_
  refine FL.nil ?_
  refine FW.ret ?_
  obtain rfl := Option.some.inj hp
  exact ⟨.inr rfl, res1 rfl rfl ⟨rfl, S33.back⟩⟩
 ·
  refine FW.condF rfl c35 ?_
  refine FW.skip (FW.seq (FW.region ?_))
  refine FL.v (E.move (v := v2) rfl) ?_
  refine FL.v (E.move (v := Value.int .i64 r29) rfl) ?_
  obtain ⟨r36, hr37, hp⟩ := bnd hp
  refine FL.call rfl rfl rfl (E.call Tryz.call12 (A2 rfl rfl)) (w_laws_szResStepS S33.sl v2 a2 (p2.mono i27) r29 hr37) ?_
  rintro e w38 ⟨rfl, r39⟩
  refine ⟨_, rfl, ?_⟩
  have S40 := S33.call r39
  have z41 := r39.bel.size
  refine FL.v (E.assign (v := Value.int .i64 r36) rfl) ?_
  refine FL.nil (FW.seq (FW.seq (FW.region ?_)))
  refine FL.v (E.move (v := Value.int .i64 r36) rfl) ?_
  refine FL.v (E.lss rfl rfl) ?_
  refine FL.nil ?_
  rcases ifB hp with ⟨c42, hp⟩ | ⟨c42, hp⟩
  ·
   refine FW.condT rfl c42 ?_
   refine FW.seq (FW.region ?_)
   refine FL.v (E.assign (v := Value.bool true) rfl) ?_
   refine FL.nil ?_
   refine FW.ret ?_
   obtain rfl := Option.some.inj hp
   exact ⟨.inr rfl, res1 rfl rfl ⟨rfl, S40.back⟩⟩
  ·
   refine FW.condF rfl c42 ?_
   refine FW.skip (FW.seq (FW.region ?_))
   refine FL.v (E.move (v := v3) rfl) ?_
   refine FL.v (E.move (v := Value.int .i64 r36) rfl) ?_
   obtain ⟨r43, hr44, hp⟩ := bnd hp
   refine FL.call rfl rfl rfl (E.call Tryz.call13 (A2 rfl rfl)) (w_laws_szPcStepS S40.sl v3 a3 (p3.mono i27) r36 hr44) ?_
   rintro e w45 ⟨rfl, r46⟩
   refine ⟨_, rfl, ?_⟩
   have S47 := S40.call r46
   have z48 := r46.bel.size
   refine FL.v (E.assign (v := Value.int .i64 r43) rfl) ?_
   refine FL.nil (FW.seq (FW.seq (FW.region ?_)))
   refine FL.v (E.move (v := Value.int .i64 r43) rfl) ?_
   refine FL.v (E.lss rfl rfl) ?_
   refine FL.nil ?_
   rcases ifB hp with ⟨c49, hp⟩ | ⟨c49, hp⟩
   ·
    refine FW.condT rfl c49 ?_
    refine FW.seq (FW.region ?_)
    refine FL.v (E.assign (v := Value.bool true) rfl) ?_
    refine FL.nil ?_
    refine FW.ret ?_
    obtain rfl := Option.some.inj hp
    exact ⟨.inr rfl, res1 rfl rfl ⟨rfl, S47.back⟩⟩
   ·
    refine FW.condF rfl c49 ?_
    refine FW.skip (FW.seq (FW.region ?_))
    refine FL.v (E.move (v := Value.int .i64 a0) rfl) ?_
    refine FL.v (E.load rfl (run_loadA Tryz.isAgg24 Tryz.sizeOf24 ((at28.mono sgI).now S47.sl) rfl)) ?_
    obtain ⟨r50, hr51, hp⟩ := bnd hp
    refine FL.call rfl rfl rfl (E.call Tryz.call15 (A1 rfl)) (w_laws_toCnf S47.sl a1 v1_1 (p1_1.mono i27) hr51) ?_
    rintro e w53 ⟨H52, v56, rfl, r55, ⟨c59, ns58⟩⟩
    refine ⟨_, rfl, ?_⟩
    have h57 := ns58.rsl
    have nv60 : New H25 [v56] := New.of_up S47.sl h57.dom
    have S54 := S47.call r55
    have z61 := r55.bel.size
    have h57 := h57.mono (sg_of S54.sl)
    have ns58 := ns58.mono (sg_of S54.sl)
    refine FL.v (E.move (v := v2) rfl) ?_
    obtain ⟨r62, hr63, hp⟩ := bnd hp
    refine FL.call rfl rfl rfl (E.call Tryz.call16 (A1 rfl)) (w_laws_toResStepS S54.sl v2 a2 (p2.mono (i27.tr r55.inc)) hr63) ?_
    rintro e w65 ⟨H64, v68, n69, cs70, rfl, r67, els71, nd72⟩
    refine ⟨_, rfl, ?_⟩
    have nv73 : New H52 cs70 := New.of_up S54.sl els71.dom
    obtain ⟨H74, r75, i76, ns79, nv78⟩ := r67.sealRowN (i := 0) (l' := []) rfl els71 nd72 (by decide) rfl
    have h77 := ns79.rsl
    have S66 := S54.call r75.run
    have z80 := r75.run.bel.size
    have h77 := h77.mono (sg_of S66.sl)
    have ns79 := ns79.mono (sg_of S66.sl)
    refine FL.v (E.move (v := v3) rfl) ?_
    obtain ⟨r81, hr82, hp⟩ := bnd hp
    refine FL.call rfl rfl rfl (E.call Tryz.call17 (A1 rfl)) (w_laws_toPcStepS S66.sl v3 a3 (p3.mono ((i27.tr r55.inc).tr r75.run.inc)) hr82) ?_
    rintro e w84 ⟨H83, v87, n88, cs89, rfl, r86, els90, nd91⟩
    refine ⟨_, rfl, ?_⟩
    have nv92 : New H74 cs89 := New.of_up S66.sl els90.dom
    obtain ⟨H93, r94, i95, ns98, nv97⟩ := r86.sealRowN (i := 0) (l' := []) rfl els90 nd91 (by decide) rfl
    have h96 := ns98.rsl
    have S85 := S66.call r94.run
    have z99 := r94.run.bel.size
    have h96 := h96.mono (sg_of S85.sl)
    have ns98 := ns98.mono (sg_of S85.sl)
    obtain ⟨r100, hr101, hp⟩ := bnd hp
    refine FL.call rfl rfl rfl (E.call Tryz.call14 (A4 rfl rfl rfl rfl)) (w_spec_IsTranslationOf S85.sl a0 r50 v56 (h57.mono (sgI.tr (r75.run.inc.tr r94.run.inc))) v68 r62 (h77.mono (sgI.tr r94.run.inc)) v87 r81 (h96.mono sgI) hr101) ?_
    rintro e w102 ⟨rfl, r103⟩
    refine ⟨_, rfl, ?_⟩
    have S104 := S85.call r103
    have z105 := r103.bel.size
    refine FL.v (E.move (v := Value.tuple #[Value.bool r100.1, Value.bool r100.2]) rfl) ?_
    refine FL.v (E.extract (i := 0) rfl rfl) ?_
    refine FL.v (E.extract (i := 1) rfl rfl) ?_
    refine FL.v (E.assign (v := Value.bool r100.1) rfl) ?_
    refine FL.v (E.assign (v := Value.bool r100.2) rfl) ?_
    refine FL.nil (FW.seq (FW.region ?_))
    refine FL.v (E.load rfl (run_loadA Tryz.isAgg24 Tryz.sizeOf24 ((at28.mono (sgI.tr ((r55.inc.tr r75.run.inc).tr r94.run.inc))).now S104.sl) rfl)) ?_
    obtain ⟨r106, hr107, hp⟩ := bnd hp
    refine FL.call rfl rfl rfl (E.call Tryz.call15 (A1 rfl)) (w_laws_toCnf S104.sl a1 v1_1 (p1_1.mono (((i27.tr r55.inc).tr r75.run.inc).tr r94.run.inc)) hr107) ?_
    rintro e w109 ⟨H108, v112, rfl, r111, ⟨c115, ns114⟩⟩
    refine ⟨_, rfl, ?_⟩
    have h113 := ns114.rsl
    have nv116 : New H93 [v112] := New.of_up S104.sl h113.dom
    have S110 := S104.call r111
    have z117 := r111.bel.size
    have h113 := h113.mono (sg_of S110.sl)
    have ns114 := ns114.mono (sg_of S110.sl)
    obtain ⟨w118, run119, S120, z121⟩ := S110.allocB (P := Tryz.prog) 32 [Value.int .i64 0, Value.slice none 0 0] Tryz.zeroValue32 rfl (ones_cons rfl (ones_cons rfl ones_nil))
    refine FL.v (E.alloc run119) ?_
    obtain ⟨w122, run123, S124, z125⟩ := S120.store0B (P := Tryz.prog) (t := 32) (i := 0) (cs' := [Value.int .i64 r106.vars, v112]) (l' := [.box w109.heap.size 32 [Value.int .i64 r106.vars, v112]]) (v := Value.agg #[Value.int .i64 r106.vars, v112]) (c := [Value.int .i64 r106.vars, v112]) rfl Tryz.sizeOf32 rfl rfl (ones_cons rfl (ones_cons h113.one ones_nil)) (Nat.le_of_ble_eq_true rfl) rfl rfl
    refine FL.act rfl rfl (E.store rfl rfl run123) ?_
    obtain ⟨H126, S127, i128, at129⟩ := S124.sealBoxB (i := 0) (l' := []) rfl rfl
    refine FL.nil (FW.seq (FW.region ?_))
    refine FL.v (E.move (v := v2) rfl) ?_
    obtain ⟨r130, hr131, hp⟩ := bnd hp
    refine FL.call rfl rfl rfl (E.call Tryz.call16 (A1 rfl)) (w_laws_toResStepS S127.sl v2 a2 (p2.mono (((((i27.tr r55.inc).tr r75.run.inc).tr r94.run.inc).tr r111.inc).tr i128)) hr131) ?_
    rintro e w133 ⟨H132, v136, n137, cs138, rfl, r135, els139, nd140⟩
    refine ⟨_, rfl, ?_⟩
    have nv141 : New H126 cs138 := New.of_up S127.sl els139.dom
    obtain ⟨H142, r143, i144, ns147, nv146⟩ := r135.sealRowN (i := 0) (l' := []) rfl els139 nd140 (by decide) rfl
    have h145 := ns147.rsl
    have S134 := S127.call r143.run
    have z148 := r143.run.bel.size
    have h145 := h145.mono (sg_of S134.sl)
    have ns147 := ns147.mono (sg_of S134.sl)
    refine FL.v (E.assign (v := v136) rfl) ?_
    refine FL.nil (FW.seq (FW.region ?_))
    refine FL.v (E.move (v := v3) rfl) ?_
    obtain ⟨r149, hr150, hp⟩ := bnd hp
    refine FL.call rfl rfl rfl (E.call Tryz.call17 (A1 rfl)) (w_laws_toPcStepS S134.sl v3 a3 (p3.mono ((((((i27.tr r55.inc).tr r75.run.inc).tr r94.run.inc).tr r111.inc).tr i128).tr r143.run.inc)) hr150) ?_
    rintro e w152 ⟨H151, v155, n156, cs157, rfl, r154, els158, nd159⟩
    refine ⟨_, rfl, ?_⟩
    have nv160 : New H142 cs157 := New.of_up S134.sl els158.dom
    obtain ⟨H161, r162, i163, ns166, nv165⟩ := r154.sealRowN (i := 0) (l' := []) rfl els158 nd159 (by decide) rfl
    have h164 := ns166.rsl
    have S153 := S134.call r162.run
    have z167 := r162.run.bel.size
    have h164 := h164.mono (sg_of S153.sl)
    have ns166 := ns166.mono (sg_of S153.sl)
    refine FL.v (E.assign (v := v155) rfl) ?_
    refine FL.nil (FW.seq (FW.region ?_))
    refine FL.v (E.move (v := Value.int .i64 a0) rfl) ?_
    refine FL.v (E.load rfl (run_loadA Tryz.isAgg32 Tryz.sizeOf32 ((at129.mono (sgI.tr (r143.run.inc.tr r162.run.inc))).now S153.sl) rfl)) ?_
    refine FL.v (E.move (v := v136) rfl) ?_
    refine FL.v (E.move (v := v155) rfl) ?_
    obtain ⟨r168, hr169, hp⟩ := bnd hp
    refine FL.call rfl rfl rfl (E.call Tryz.call18 (A4 rfl rfl rfl rfl)) (w_impl_IsTranslationOf S153.sl a0 r106 v112 (h113.mono (sgI.tr ((i128.tr r143.run.inc).tr r162.run.inc))) v136 r130 (h145.mono (sgI.tr r162.run.inc)) v155 r149 (h164.mono sgI) hr169) ?_
    rintro e w170 ⟨rfl, r171⟩
    refine ⟨_, rfl, ?_⟩
    have S172 := S153.call r171
    have z173 := r171.bel.size
    refine FL.v (E.move (v := Value.tuple #[Value.bool r168.1, Value.bool r168.2]) rfl) ?_
    refine FL.v (E.extract (i := 0) rfl rfl) ?_
    refine FL.v (E.extract (i := 1) rfl rfl) ?_
    refine FL.v (E.assign (v := Value.bool r168.1) rfl) ?_
    refine FL.v (E.assign (v := Value.bool r168.2) rfl) ?_
    refine FL.nil (FW.seq (FW.seq (FW.region ?_)))
    refine FL.v (E.move (v := Value.bool r168.1) rfl) ?_
    refine FL.v (E.move (v := Value.bool r100.1) rfl) ?_
    refine FL.v (E.neqB Tryz.runUnderlying4 rfl rfl) ?_
    refine FL.v (E.move (v := Value.bool (!(r168.1 == r100.1))) rfl) ?_
    refine FL.cut 4 (fun f w => ∃ H : GH, St Ha wa H w [] ∧ Inc H161 H ∧ f 2 = v2 ∧ f 3 = v3 ∧ f 5 = Value.pointer (some ⟨wa.heap.size, 0, none⟩) ∧ f 12 = Value.pointer (some ⟨w109.heap.size, 0, none⟩) ∧ f 13 = v136 ∧ f 14 = v155 ∧ f 64 = Value.bool (bif (!(r168.1 == r100.1)) then true else (!(r168.2 == r100.2)))) ?_ ?_
    ·
     rcases bcase (!(r168.1 == r100.1)) with c180 | c180
     ·
      refine FL.skip (wF_no rfl rfl rfl c180) rfl ?_
      refine FL.skip (wF_no rfl rfl rfl c180) rfl ?_
      refine FL.skip (wF_no rfl rfl rfl c180) rfl ?_
      refine FL.v (E.pickT rfl c180 rfl) ?_
      exact FL.nil ⟨rfl, _, S172, (Inc.rfl _), rfl, rfl, rfl, rfl, rfl, rfl, (congrArg Value.bool (bifT c180).symm)⟩
     ·
      refine FL.val (wF_yes rfl rfl rfl c180) rfl rfl (E.move (v := Value.bool r168.2) rfl) ?_
      refine FL.val (wF_yes rfl rfl rfl c180) rfl rfl (E.move (v := Value.bool r100.2) rfl) ?_
      refine FL.val (wF_yes rfl rfl rfl c180) rfl rfl (E.neqB Tryz.runUnderlying4 rfl rfl) ?_
      refine FL.v (E.pickF rfl c180 rfl) ?_
      exact FL.nil ⟨rfl, _, S172, (Inc.rfl _), rfl, rfl, rfl, rfl, rfl, rfl, (congrArg Value.bool (bifF c180).symm)⟩
    rintro f179 w178 ⟨H175, S176, i177, k181, k182, k183, k184, k185, k186, k187⟩
    refine FL.nil ?_
    rcases ifB hp with ⟨c188, hp⟩ | ⟨c188, hp⟩
    ·
     refine FW.condT k187 c188 ?_
     refine FW.seq (FW.region ?_)
     refine FL.v (E.assign (v := Value.bool false) rfl) ?_
     refine FL.nil ?_
     refine FW.ret ?_
     obtain rfl := Option.some.inj hp
     exact ⟨.inr rfl, res1 rfl rfl ⟨rfl, S176.back⟩⟩
    ·
     refine FW.condF k187 c188 ?_
     refine FW.skip (FW.seq (FW.seq ?_))
     obtain ⟨r174, hr192, hp⟩ := bnd hp
     obtain ⟨r203, hr204, hp⟩ := bnd hp
     refine FW.drawB (Sl H175) (fun f w => ∃ H : GH, St Ha wa H w [] ∧ Inc H175 H ∧ f 2 = v2 ∧ f 3 = v3 ∧ f 13 = v136 ∧ f 14 = v155 ∧ f 69 = Value.bool (!r203)) (by kernel_rfl) S176.sl ?_ ?_
     ·
      intro w189 r190
      have S191 := S176.call r190
      refine FB.t (i := 0) (bs 5 1) rfl (SP.nil S191.sl) rfl (fun w' hw' => (E.load k184 (run_loadA Tryz.isAgg32 Tryz.sizeOf32 ((at129.mono (sgI.tr ((r143.run.inc.tr r162.run.inc).tr i177))).now hw') rfl))) ?_
      refine FB.t (i := 1) (bs 5 3) rfl (SP.nil S191.sl) rfl (fun w' hw' => (E.load k183 (run_loadA Tryz.isAgg24 Tryz.sizeOf24 ((at28.mono (sgI.tr (((((((r55.inc.tr r75.run.inc).tr r94.run.inc).tr r111.inc).tr i128).tr r143.run.inc).tr r162.run.inc).tr i177))).now hw') rfl))) ?_
      refine FB.all1 (i := 2) (by kernel_rfl) ?_
      ·
       refine FC.call (l' := (bs 5 7)) rfl (by kernel_rfl) rfl rfl rfl (E.call Tryz.call15 (A1 rfl)) (w_laws_toCnf S191.sl a1 v1_1 (p1_1.mono ((((((((i27.tr r55.inc).tr r75.run.inc).tr r94.run.inc).tr r111.inc).tr i128).tr r143.run.inc).tr r162.run.inc).tr i177)) hr192) ?_
       rintro e w194 ⟨H193, v197, rfl, r196, ⟨c200, ns199⟩⟩
       refine ⟨_, rfl, ?_⟩
       have h198 := ns199.rsl
       have nv201 : New H175 [v197] := New.of_up S191.sl h198.dom
       have S195 := S191.call r196
       have z202 := r196.bel.size
       have h198 := h198.mono (sg_of S195.sl)
       have ns199 := ns199.mono (sg_of S195.sl)
       refine ⟨(SP.nil (Sl.of_inc r196.inc S195.sl)), ?_⟩
       refine FB.all1 (i := 3) (by kernel_rfl) ?_
       ·
        refine FC.call (l' := (bs 5 15)) rfl (by kernel_rfl) rfl rfl rfl (E.call Tryz.call19 (A2 rfl rfl)) (w_laws_eqCnf S195.sl r106 v112 (h113.mono (sgI.tr ((((i128.tr r143.run.inc).tr r162.run.inc).tr i177).tr r196.inc))) r174 v197 (h198.mono sgI) hr204) ?_
        rintro e w205 ⟨rfl, r206⟩
        refine ⟨_, rfl, ?_⟩
        have S207 := S195.call r206
        have z208 := r206.bel.size
        refine ⟨(SP.nil (Sl.of_inc r196.inc S207.sl)), ?_⟩
        refine FB.t (i := 4) (bs 5 31) rfl (SP.nil (Sl.of_inc r196.inc S207.sl)) rfl (fun w' hw' => (E.not rfl)) ?_
        exact FB.done (by kernel_rfl) ⟨_, S207, r196.inc, k181, k182, k185, k186, rfl⟩
     ·
      rintro f213 w212 ⟨H209, S210, i211, k214, k215, k216, k217, k218⟩
      rcases ifB hp with ⟨c219, hp⟩ | ⟨c219, hp⟩
      ·
       refine FW.condT k218 c219 ?_
       refine FW.seq (FW.region ?_)
       refine FL.v (E.assign (v := Value.bool false) rfl) ?_
       refine FL.nil ?_
       refine FW.ret ?_
       obtain rfl := Option.some.inj hp
       exact ⟨.inr rfl, res1 rfl rfl ⟨rfl, S210.back⟩⟩
      ·
       refine FW.condF k218 c219 ?_
       refine FW.skip (FW.seq (FW.seq (FW.region ?_)))
       refine FL.v (E.move k216) ?_
       refine FL.v (E.move k214) ?_
       obtain ⟨r220, hr221, hp⟩ := bnd hp
       refine FL.call rfl rfl rfl (E.call Tryz.call16 (A1 rfl)) (w_laws_toResStepS S210.sl v2 a2 (p2.mono (((((((((i27.tr r55.inc).tr r75.run.inc).tr r94.run.inc).tr r111.inc).tr i128).tr r143.run.inc).tr r162.run.inc).tr i177).tr i211)) hr221) ?_
       rintro e w223 ⟨H222, v226, n227, cs228, rfl, r225, els229, nd230⟩
       refine ⟨_, rfl, ?_⟩
       have nv231 : New H209 cs228 := New.of_up S210.sl els229.dom
       obtain ⟨H232, r233, i234, ns237, nv236⟩ := r225.sealRowN (i := 0) (l' := []) rfl els229 nd230 (by decide) rfl
       have h235 := ns237.rsl
       have S224 := S210.call r233.run
       have z238 := r233.run.bel.size
       have h235 := h235.mono (sg_of S224.sl)
       have ns237 := ns237.mono (sg_of S224.sl)
       obtain ⟨r239, hr240, hp⟩ := bnd hp
       refine FL.call rfl rfl rfl (E.call Tryz.call20 (A2 rfl rfl)) (w_laws_eqResStepS S224.sl v136 r130 (h145.mono (sgI.tr (((r162.run.inc.tr i177).tr i211).tr r233.run.inc))) v226 r220 (h235.mono sgI) hr240) ?_
       rintro e w241 ⟨rfl, r242⟩
       refine ⟨_, rfl, ?_⟩
       have S243 := S224.call r242
       have z244 := r242.bel.size
       refine FL.v (E.not rfl) ?_
       refine FL.nil ?_
       rcases ifB hp with ⟨c245, hp⟩ | ⟨c245, hp⟩
       ·
        refine FW.condT rfl c245 ?_
        refine FW.seq (FW.region ?_)
        refine FL.v (E.assign (v := Value.bool false) rfl) ?_
        refine FL.nil ?_
        refine FW.ret ?_
        obtain rfl := Option.some.inj hp
        exact ⟨.inr rfl, res1 rfl rfl ⟨rfl, S243.back⟩⟩
       ·
        refine FW.condF rfl c245 ?_
        refine FW.skip (FW.seq (FW.seq (FW.region ?_)))
        refine FL.v (E.move k217) ?_
        refine FL.v (E.move k215) ?_
        obtain ⟨r246, hr247, hp⟩ := bnd hp
        refine FL.call rfl rfl rfl (E.call Tryz.call17 (A1 rfl)) (w_laws_toPcStepS S243.sl v3 a3 (p3.mono ((((((((((i27.tr r55.inc).tr r75.run.inc).tr r94.run.inc).tr r111.inc).tr i128).tr r143.run.inc).tr r162.run.inc).tr i177).tr i211).tr r233.run.inc)) hr247) ?_
        rintro e w249 ⟨H248, v252, n253, cs254, rfl, r251, els255, nd256⟩
        refine ⟨_, rfl, ?_⟩
        have nv257 : New H232 cs254 := New.of_up S243.sl els255.dom
        obtain ⟨H258, r259, i260, ns263, nv262⟩ := r251.sealRowN (i := 0) (l' := []) rfl els255 nd256 (by decide) rfl
        have h261 := ns263.rsl
        have S250 := S243.call r259.run
        have z264 := r259.run.bel.size
        have h261 := h261.mono (sg_of S250.sl)
        have ns263 := ns263.mono (sg_of S250.sl)
        obtain ⟨r265, hr266, hp⟩ := bnd hp
        refine FL.call rfl rfl rfl (E.call Tryz.call21 (A2 rfl rfl)) (w_laws_eqPcStepS S250.sl v155 r149 (h164.mono (sgI.tr (((i177.tr i211).tr r233.run.inc).tr r259.run.inc))) v252 r246 (h261.mono sgI) hr266) ?_
        rintro e w267 ⟨rfl, r268⟩
        refine ⟨_, rfl, ?_⟩
        have S269 := S250.call r268
        have z270 := r268.bel.size
        refine FL.v (E.not rfl) ?_
        refine FL.nil ?_
        rcases ifB hp with ⟨c271, hp⟩ | ⟨c271, hp⟩
        ·
         refine FW.condT rfl c271 ?_
         refine FW.seq (FW.region ?_)
         refine FL.v (E.assign (v := Value.bool false) rfl) ?_
         refine FL.nil ?_
         refine FW.ret ?_
         obtain rfl := Option.some.inj hp
         exact ⟨.inr rfl, res1 rfl rfl ⟨rfl, S269.back⟩⟩
        ·
         refine FW.condF rfl c271 ?_
         refine FW.skip (FW.seq (FW.region ?_))
         refine FL.v (E.assign (v := Value.bool true) rfl) ?_
         refine FL.nil ?_
         refine FW.ret ?_
         obtain rfl := Option.some.inj hp
         exact ⟨.inr rfl, res1 rfl rfl ⟨rfl, S269.back⟩⟩

end Go.Proofs
