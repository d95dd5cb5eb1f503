/- Part of the walks and plain laws behind the claim: it proves helpers, under no condition beyond their own. -/
import Derived.Test.YtikmcenkjiebmaaGreatDoorErWk1
set_option linter.unusedVariables false
set_option maxRecDepth 100000
namespace Go.Proofs
open Go.Mr Go.Pu Go.PF Go.RowKit

set_option maxHeartbeats 4000000 in
theorem w_impl_IsCnf {Ha : GH} {wa : World} (hs : Sl Ha wa) (a0 : Cnf) (v0_1 : Value) (p0_1 : RSl Ha (eL eI 1) 1 v0_1 a0.clauses) {r : Bool} (hp : (PF.impl_IsCnf a0) = some r) :
  Calls Tryz.prog 56 #[Value.agg #[Value.int .i64 a0.vars, v0_1]] wa (Sc Ha wa (Value.bool r)) := by
 unfold PF.impl_IsCnf at hp
 have S0 := St.init hs
 refine calls_go (N := 27) (args := [Value.agg #[Value.int .i64 a0.vars, v0_1]]) Tryz.func56 rfl rfl rfl ?_
 refine FW.seq (FW.region ?_)
 obtain ⟨b21, w22, run23, S24⟩ := S0.box (P := Tryz.prog) 34 [Value.int .i64 a0.vars, v0_1] (v := Value.agg #[Value.int .i64 a0.vars, v0_1]) rfl (ones_cons rfl (ones_cons p0_1.one ones_nil))
 refine FL.v (E.box rfl run23) ?_
 obtain ⟨H25, S26, i27, at28⟩ := S24.sealBox (i := 0) (l' := []) rfl rfl
 refine FL.v (E.assign (v := Value.bool false) rfl) ?_
 refine FL.nil (FW.seq (FW.seq (FW.region ?_)))
 refine FL.v (E.fieldAddr tf34_1 rfl) ?_
 refine FL.v (E.load rfl (run_load1 Tryz.isAgg23 (at28.now S26.sl) rfl)) ?_
 refine FL.v (E.lenP te23 rfl p0_1) ?_
 refine FL.v (E.move (v := Value.int .i64 0) rfl) ?_
 refine FL.nil ?_
 obtain ⟨q30, hq, hp⟩ := bndR hp
 refine FW.block ?_
 refine FW.mono (FW.forL (S := Unit) (X := Bool) (fun (i30 : Nat) (s30 : Unit) f w => ∃ H : GH, St Ha wa H w [] ∧ Inc H25 H ∧ f 8 = Value.int .i64 ((i30 : Nat) : Int) ∧ f 1 = Value.pointer (some ⟨b21, 0, none⟩) ∧ f 6 = v0_1 ∧ f 7 = Value.int .i64 (len a0.clauses)) (fun q e f w => match q with | .go s30 => e = Exit.exit 0 ∧ (∃ H : GH, St Ha wa H w [] ∧ Inc H25 H ∧ f 1 = Value.pointer (some ⟨b21, 0, none⟩)) | .rt x => ((e = Exit.ret) ∧ (fun e f w => (e = Exit.normal ∨ e = Exit.ret) ∧ ∀ a, Fr (δ := []) 27 a f → ∃ v, (results Tryz.f56 a.tmps).run Tryz.prog w = .ok v w ∧ (Sc Ha wa (Value.bool x)) (.returned v) w) e f w)) hq ⟨_, S26, (Inc.rfl _), rfl, rfl, rfl, rfl⟩ ?_ ?_) ?_
 ·
  clear hp hq
  rintro i30 y29 s30 f58 w57 ⟨H54, S55, i56, k59, k60, k61, k62⟩ hx30 o77 hp
  refine FW.seq (FW.region ?_)
  refine FL.v (E.lssT k59 k62 (lss_len hx30)) ?_
  refine FL.nil (FW.seq ?_)
  refine FW.condT rfl rfl ?_
  refine FW.skip (FW.seq (FW.block (FW.seq (FW.region ?_))))
  obtain ⟨p63, cs64, pt65, l66, at67, rel68⟩ := p0_1.at (ix_nat hx30)
  obtain ⟨v69, rfl, h70⟩ := eL_open rel68
  refine FL.v (E.indexAddr te23 k61 k59 pt65) ?_
  refine FL.v (E.load rfl (run_load0 Tryz.isAgg50 ((at67.mono (i27.tr i56)).now S55.sl) rfl)) ?_
  refine FL.v (E.assign (v := v69) rfl) ?_
  refine FL.nil (FW.seq (FW.region ?_))
  refine FL.v (E.fieldAddr tf34_0 k60) ?_
  refine FL.v (E.load rfl (run_load1 Tryz.isAgg3 ((at28.mono i56).now S55.sl) rfl)) ?_
  refine FL.v (E.move (v := v69) rfl) ?_
  obtain ⟨r71, hr72, hp⟩ := bnd hp
  refine FL.call rfl rfl rfl (E.call Tryz.call67 (A2 rfl rfl)) (w_impl_IsClause S55.sl a0.vars v69 y29 (h70.mono (i27.tr i56)) hr72) ?_
  rintro e w73 ⟨rfl, r74⟩
  refine ⟨_, rfl, ?_⟩
  have S75 := S55.call r74
  refine FL.v (E.not rfl) ?_
  refine FL.nil ?_
  rcases ifB hp with ⟨c76, hp⟩ | ⟨c76, hp⟩
  ·
   refine FW.condT rfl c76 ?_
   refine FW.seq (FW.region ?_)
   refine FL.v (E.assign (v := Value.bool false) rfl) ?_
   refine FL.nil ?_
   refine FW.ret ?_
   obtain rfl := Option.some.inj hp
   exact ⟨nofun, rfl, ⟨.inr rfl, res1 rfl rfl ⟨rfl, S75.back⟩⟩⟩
  ·
   refine FW.condF rfl c76 ?_
   refine FW.skip (FW.region ?_)
   refine FL.v (E.add k59 rfl) ?_
   refine FL.v (E.move (v := Value.int .i64 (wr (((i30 : Nat) : Int) + 1))) rfl) ?_
   refine FL.nil ?_
   obtain rfl := Option.some.inj hp
   exact ⟨rfl, ⟨_, S75, i56, (nat_succ rfl (lt_of_get hx30) (p0_1.mono (i27.tr i56)).le), k60, k61, k62⟩⟩
 ·
  clear hp hq
  rintro s30 f99 w98 ⟨H95, S96, i97, k100, k101, k102, k103⟩
  refine FW.seq (FW.region ?_)
  refine FL.v (E.lss k100 k103) ?_
  refine FL.nil (FW.seq ?_)
  refine FW.condF rfl dlt_len ?_
  refine FW.exit ?_
  exact ⟨nofun, rfl, ⟨_, S96, i97, k101⟩⟩
 ·
  clear hq
  intro e f82 w81 hD
  rcases q30 with s30 | x30
  ·
   obtain ⟨rfl, hD⟩ := hD
   obtain ⟨H78, S79, i80, k83⟩ := hD
   replace hp := el_go hp
   refine FW.seq (FW.region ?_)
   refine FL.v (E.fieldAddr tf34_0 k83) ?_
   refine FL.v (E.load rfl (run_load1 Tryz.isAgg3 ((at28.mono i80).now S79.sl) rfl)) ?_
   refine FL.call rfl rfl rfl (E.call Tryz.call68 (A1 rfl)) (w_impl_varsOk S79.sl a0.vars) ?_
   rintro e w84 ⟨rfl, r85⟩
   refine ⟨_, rfl, ?_⟩
   have S86 := S79.call r85
   refine FL.v (E.move (v := Value.bool (PF.impl_varsOk a0.vars)) rfl) ?_
   refine FL.cut 5 (fun f w => ∃ H : GH, St Ha wa H w [] ∧ Inc H78 H ∧ f 26 = Value.bool (bif (PF.impl_varsOk a0.vars) then (decide ((len a0.clauses) ≤ 60)) else false)) ?_ ?_
   ·
    rcases bcase (PF.impl_varsOk a0.vars) with c93 | c93
    ·
     refine FL.val (wF_yes rfl rfl rfl c93) rfl rfl (E.fieldAddr tf34_1 k83) ?_
     refine FL.val (wF_yes rfl rfl rfl c93) rfl rfl (E.load rfl (run_load1 Tryz.isAgg23 ((at28.mono i80).now S86.sl) rfl)) ?_
     refine FL.val (wF_yes rfl rfl rfl c93) rfl rfl (E.lenP te23 rfl p0_1) ?_
     refine FL.val (wF_yes rfl rfl rfl c93) rfl rfl (E.leq rfl rfl) ?_
     refine FL.v (E.pickT rfl c93 rfl) ?_
     exact FL.nil ⟨rfl, _, S86, (Inc.rfl _), (congrArg Value.bool (bifT c93).symm)⟩
    ·
     refine FL.skip (wF_no rfl rfl rfl c93) rfl ?_
     refine FL.skip (wF_no rfl rfl rfl c93) rfl ?_
     refine FL.skip (wF_no rfl rfl rfl c93) rfl ?_
     refine FL.skip (wF_no rfl rfl rfl c93) rfl ?_
     refine FL.v (E.pickF rfl c93 rfl) ?_
     exact FL.nil ⟨rfl, _, S86, (Inc.rfl _), (congrArg Value.bool (bifF c93).symm)⟩
   rintro f92 w91 ⟨H88, S89, i90, k94⟩
   refine FL.v (E.assign k94) ?_
   refine FL.nil ?_
   refine FW.ret ?_
   obtain rfl := Option.some.inj hp
   exact ⟨.inr rfl, res1 rfl rfl ⟨rfl, S89.back⟩⟩
  ·
   obtain ⟨he, hL⟩ := hD
   replace hp := el_rt hp
   obtain rfl := Option.some.inj hp
   subst he
   exact hL

set_option maxHeartbeats 4000000 in
theorem w_slices_Equal_int_int {Ha : GH} {wa : World} (hs : Sl Ha wa) (v0 : Value) (a0 : List Int) (p0 : RSl Ha eI 1 v0 a0) (v1 : Value) (a1 : List Int) (p1 : RSl Ha eI 1 v1 a1) {r : Bool} (hp : (PF.slices_Equal_int_int a0 a1) = some r) :
  Calls Tryz.prog 86 #[v0, v1] wa (Sc Ha wa (Value.bool r)) := by
 unfold PF.slices_Equal_int_int at hp
 have S0 := St.init hs
 refine calls_go (N := 26) (args := [v0, v1]) Tryz.func86 rfl rfl rfl ?_
 refine FW.seq (FW.region ?_)
 refine FL.v (E.assign (v := Value.bool false) rfl) ?_
 refine FL.nil (FW.seq (FW.seq (FW.region ?_)))
 refine FL.v (E.move (v := v0) rfl) ?_
 refine FL.v (E.lenP te50 rfl p0) ?_
 refine FL.v (E.move (v := v1) rfl) ?_
 refine FL.v (E.lenP te50 rfl p1) ?_
 refine FL.v (E.neq rfl rfl) ?_
 refine FL.nil ?_
 rcases ifB hp with ⟨c21, hp⟩ | ⟨c21, hp⟩
 ·
  refine FW.condT rfl c21 ?_
  refine FW.seq (FW.region ?_)
  refine FL.v (E.assign (v := Value.bool false) rfl) ?_
  refine FL.nil ?_
  refine FW.ret ?_
  obtain rfl := Option.some.inj hp
  exact ⟨.inr rfl, res1 rfl rfl ⟨rfl, S0.back⟩⟩
 ·
  refine FW.condF rfl c21 ?_
  refine FW.skip (FW.seq (FW.seq (FW.region ?_)))
  refine FL.v (E.move (v := v0) rfl) ?_
  refine FL.v (E.lenP te50 rfl p0) ?_
  refine FL.v (E.move (v := Value.int .i64 0) rfl) ?_
  refine FL.nil ?_
  obtain ⟨q23, hq, hp⟩ := bndR hp
  refine FW.block ?_
  refine FW.mono (FW.forL (S := Unit) (X := Bool) (fun (i23 : Nat) (s23 : Unit) f w => ∃ H : GH, St Ha wa H w [] ∧ Inc Ha H ∧ f 13 = Value.int .i64 ((i23 : Nat) : Int) ∧ f 0 = v0 ∧ f 1 = v1 ∧ f 12 = Value.int .i64 (len a0)) (fun q e f w => match q with | .go s23 => e = Exit.exit 0 ∧ (∃ H : GH, St Ha wa H w [] ∧ Inc Ha H) | .rt x => ((e = Exit.ret) ∧ (fun e f w => (e = Exit.normal ∨ e = Exit.ret) ∧ ∀ a, Fr (δ := []) 26 a f → ∃ v, (results Tryz.f86 a.tmps).run Tryz.prog w = .ok v w ∧ (Sc Ha wa (Value.bool x)) (.returned v) w) e f w)) hq ⟨_, S0, (Inc.rfl _), rfl, rfl, rfl, rfl⟩ ?_ ?_) ?_
  ·
   clear hp hq
   rintro i23 y22 s23 f56 w55 ⟨H52, S53, i54, k57, k58, k59, k60⟩ hx23 o80 hp
   refine FW.seq (FW.region ?_)
   refine FL.v (E.lssT k57 k60 (lss_len hx23)) ?_
   refine FL.nil (FW.seq ?_)
   refine FW.condT rfl rfl ?_
   refine FW.skip (FW.seq (FW.block (FW.seq (FW.region ?_))))
   refine FL.v (E.move k57) ?_
   refine FL.v (E.assign (v := Value.int .i64 ((i23 : Nat) : Int)) rfl) ?_
   refine FL.nil (FW.seq ?_)
   refine FW.draw (fun w' => Run w55.heap.size H52 w55 H52 w') (by kernel_rfl) (by kernel_rfl) (run_drew S53.sl) ?_
   refine FD.val rfl rfl rfl (fun w' hw' => (E.move k58)) ?_
   refine FD.val rfl rfl rfl (fun w' hw' => (E.move (v := Value.int .i64 ((i23 : Nat) : Int)) rfl)) ?_
   obtain ⟨p62, cs63, pt64, l65, at66, rel67⟩ := p0.at (ix_nat hx23)
   obtain rfl := eI_open rel67
   refine FD.val rfl rfl rfl (fun w' hw' => (E.indexAddr te50 rfl rfl pt64)) ?_
   refine FD.val rfl rfl rfl (fun w' hw' => (E.load rfl (run_load0 Tryz.isAgg3 ((at66.mono i54).now (S53.call hw').sl) rfl))) ?_
   refine FD.val rfl rfl rfl (fun w' hw' => (E.move k59)) ?_
   refine FD.val rfl rfl rfl (fun w' hw' => (E.move (v := Value.int .i64 ((i23 : Nat) : Int)) rfl)) ?_
   obtain ⟨x74, hx75, hp⟩ := bnd hp
   obtain ⟨p68, cs69, pt70, l71, at72, rel73⟩ := p1.at hx75
   obtain rfl := eI_open rel73
   refine FD.val rfl rfl rfl (fun w' hw' => (E.indexAddr te50 rfl rfl pt70)) ?_
   refine FD.val rfl rfl rfl (fun w' hw' => (E.load rfl (run_load0 Tryz.isAgg3 ((at72.mono i54).now (S53.call hw').sl) rfl))) ?_
   refine FD.val rfl rfl rfl (fun w' hw' => (E.neq rfl rfl)) ?_
   refine FD.nil ?_
   intro w76 r78
   have S77 := S53.call r78
   rcases ifB hp with ⟨c79, hp⟩ | ⟨c79, hp⟩
   ·
    refine FW.condT rfl c79 ?_
    refine FW.seq (FW.region ?_)
    refine FL.v (E.assign (v := Value.bool false) rfl) ?_
    refine FL.nil ?_
    refine FW.ret ?_
    obtain rfl := Option.some.inj hp
    exact ⟨nofun, rfl, ⟨.inr rfl, res1 rfl rfl ⟨rfl, S77.back⟩⟩⟩
   ·
    refine FW.condF rfl c79 ?_
    refine FW.skip (FW.region ?_)
    refine FL.v (E.add k57 rfl) ?_
    refine FL.v (E.move (v := Value.int .i64 (wr (((i23 : Nat) : Int) + 1))) rfl) ?_
    refine FL.nil ?_
    obtain rfl := Option.some.inj hp
    exact ⟨rfl, ⟨_, S77, i54, (nat_succ rfl (lt_of_get hx23) (p0.mono i54).le), k58, k59, k60⟩⟩
  ·
   clear hp hq
   rintro s23 f90 w89 ⟨H86, S87, i88, k91, k92, k93, k94⟩
   refine FW.seq (FW.region ?_)
   refine FL.v (E.lss k91 k94) ?_
   refine FL.nil (FW.seq ?_)
   refine FW.condF rfl dlt_len ?_
   refine FW.exit ?_
   exact ⟨nofun, rfl, ⟨_, S87, i88⟩⟩
  ·
   clear hq
   intro e f85 w84 hD
   rcases q23 with s23 | x23
   ·
    obtain ⟨rfl, hD⟩ := hD
    obtain ⟨H81, S82, i83⟩ := hD
    replace hp := el_go hp
    refine FW.seq (FW.region ?_)
    refine FL.v (E.assign (v := Value.bool true) rfl) ?_
    refine FL.nil ?_
    refine FW.ret ?_
    obtain rfl := Option.some.inj hp
    exact ⟨.inr rfl, res1 rfl rfl ⟨rfl, S82.back⟩⟩
   ·
    obtain ⟨he, hL⟩ := hD
    replace hp := el_rt hp
    obtain rfl := Option.some.inj hp
    subst he
    exact hL

@[reducible] def p_impl_earlier (Ha : GH) (wa : World) (r : ((List Int) × Bool)) : Ending → World → Prop :=
 fun e w' => ∃ H' : GH, ∃ v0 : Value, e = .returned (Value.tuple #[v0, Value.bool r.2]) ∧ Run wa.heap.size Ha wa H' w' ∧ RSl H' eI 1 v0 r.1
theorem w_impl_earlier {Ha : GH} {wa : World} (hs : Sl Ha wa) (a0 : Cnf) (v0_1 : Value) (p0_1 : RSl Ha (eL eI 1) 1 v0_1 a0.clauses) (v1 : Value) (a1 : List ResStep) (p1 : RSl Ha eResStep 4 v1 a1) (a2 : Int) (a3 : Int) {r : ((List Int) × Bool)} (hp : (PF.impl_earlier a0 a1 a2 a3) = some r) :
  Calls Tryz.prog 87 #[Value.agg #[Value.int .i64 a0.vars, v0_1], v1, Value.int .i64 a2, Value.int .i64 a3] wa (p_impl_earlier Ha wa r) := by
 unfold PF.impl_earlier at hp
 have S0 := St.init hs
 refine calls_go (N := 31) (args := [Value.agg #[Value.int .i64 a0.vars, v0_1], v1, Value.int .i64 a2, Value.int .i64 a3]) Tryz.func87 rfl rfl rfl ?_
 refine FW.seq (FW.region ?_)
 obtain ⟨b21, w22, run23, S24⟩ := S0.box (P := Tryz.prog) 34 [Value.int .i64 a0.vars, v0_1] (v := Value.agg #[Value.int .i64 a0.vars, v0_1]) rfl (ones_cons rfl (ones_cons p0_1.one ones_nil))
 refine FL.v (E.box rfl run23) ?_
 obtain ⟨H25, S26, i27, at28⟩ := S24.sealBox (i := 0) (l' := []) rfl rfl
 refine FL.v (E.assign (v := Value.slice none 0 0) rfl) ?_
 refine FL.v (E.assign (v := Value.bool false) rfl) ?_
 refine FL.nil (FW.seq (FW.seq ?_))
 refine FW.draw (fun w' => Run w22.heap.size H25 w22 H25 w') (by kernel_rfl) (by kernel_rfl) (run_drew S26.sl) ?_
 refine FD.val rfl rfl rfl (fun w' hw' => (E.move (v := Value.int .i64 a3) rfl)) ?_
 refine FD.val rfl rfl rfl (fun w' hw' => (E.move (v := Value.int .i64 a2) rfl)) ?_
 refine FD.val rfl rfl rfl (fun w' hw' => (E.sub rfl rfl)) ?_
 refine FD.call rfl rfl rfl (fun w' hw' => (E.call Tryz.call72 (A3 rfl rfl rfl))) (fun w' hw' => Calls.cls hw' (w_impl_within (S26.call hw').sl a3 0 (wr (a2 - 1)))) ?_
 refine FD.val rfl rfl rfl (fun w' hw' => (E.not rfl)) ?_
 refine FD.val rfl rfl rfl (fun w' hw' => (E.move (v := Value.bool (!(PF.impl_within a3 0 (wr (a2 - 1))))) rfl)) ?_
 obtain ⟨t42, hqt42, hp⟩ := bnd hp
 refine FD.cut 10 (fun f => f 1 = v1 ∧ f 3 = Value.int .i64 a3 ∧ f 25 = Value.bool t42) ?_ ?_
 ·
  clear hp; have hp := hqt42; clear hqt42
  rcases ifB hp with ⟨c48, hp⟩ | ⟨c48, hp⟩
  ·
   refine FD.skip (wF_no rfl rfl rfl c48) rfl ?_
   refine FD.skip (wF_no rfl rfl rfl c48) rfl ?_
   refine FD.skip (wF_no rfl rfl rfl c48) rfl ?_
   refine FD.skip (wF_no rfl rfl rfl c48) rfl ?_
   refine FD.skip (wF_no rfl rfl rfl c48) rfl ?_
   refine FD.skip (wF_no rfl rfl rfl c48) rfl ?_
   refine FD.skip (wF_no rfl rfl rfl c48) rfl ?_
   refine FD.skip (wF_no rfl rfl rfl c48) rfl ?_
   refine FD.skip (wF_no rfl rfl rfl c48) rfl ?_
   obtain rfl := Option.some.inj hp
   refine FD.val rfl rfl rfl (fun w' hw' => (E.pickT rfl c48 rfl)) ?_
   exact FD.nil ⟨rfl, rfl, rfl⟩
  ·
   refine FD.val (wF_yes rfl rfl rfl c48) rfl rfl (fun w' hw' => (E.fieldAddr tf34_0 rfl)) ?_
   refine FD.val (wF_yes rfl rfl rfl c48) rfl rfl (fun w' hw' => (E.load rfl (run_load1 Tryz.isAgg3 (at28.now (S26.call hw').sl) rfl))) ?_
   refine FD.val (wF_yes rfl rfl rfl c48) rfl rfl (fun w' hw' => (E.move (v := v1) rfl)) ?_
   refine FD.val (wF_yes rfl rfl rfl c48) rfl rfl (fun w' hw' => (E.move (v := Value.int .i64 a3) rfl)) ?_
   obtain ⟨x55, hx56, hp⟩ := bnd hp
   obtain ⟨p49, cs50, pt51, l52, at53, rel54⟩ := p1.at hx56
   obtain ⟨v57, rfl, h58⟩ := eResStep_open rel54
   refine FD.val (wF_yes rfl rfl rfl c48) rfl rfl (fun w' hw' => (E.indexAddr te36 rfl rfl pt51)) ?_
   refine FD.val (wF_yes rfl rfl rfl c48) rfl rfl (fun w' hw' => (E.fieldAddr tf60_0 rfl)) ?_
   refine FD.val (wF_yes rfl rfl rfl c48) rfl rfl (fun w' hw' => (E.load rfl (run_load1 Tryz.isAgg50 ((at53.mono i27).now (S26.call hw').sl) rfl))) ?_
   obtain ⟨r59, hr60, hp⟩ := bnd hp
   refine FD.call (wF_yes rfl rfl rfl c48) rfl rfl (fun w' hw' => (E.call Tryz.call67 (A2 rfl rfl))) (fun w' hw' => Calls.cls hw' (w_impl_IsClause (S26.call hw').sl a0.vars v57 x55.clause (h58.mono i27) hr60)) ?_
   refine FD.val (wF_yes rfl rfl rfl c48) rfl rfl (fun w' hw' => (E.not rfl)) ?_
   obtain rfl := Option.some.inj hp
   refine FD.val rfl rfl rfl (fun w' hw' => (E.pickF rfl c48 rfl)) ?_
   exact FD.nil ⟨rfl, rfl, rfl⟩
 rintro f47 ⟨k61, k62, k63⟩
 refine FD.nil ?_
 intro w64 r66
 have S65 := S26.call r66
 rcases ifB hp with ⟨c67, hp⟩ | ⟨c67, hp⟩
 ·
  refine FW.condT k63 c67 ?_
  refine FW.seq (FW.region ?_)
  refine FL.v (E.assign (v := Value.slice none 0 0) rfl) ?_
  refine FL.v (E.assign (v := Value.bool false) rfl) ?_
  refine FL.nil ?_
  refine FW.ret ?_
  obtain rfl := Option.some.inj hp
  exact ⟨.inr rfl, res2 rfl rfl rfl ⟨_, _, rfl, S65.run, (RSl.nil _ _ _)⟩⟩
 ·
  refine FW.condF k63 c67 ?_
  refine FW.skip (FW.seq (FW.region ?_))
  refine FL.v (E.move k61) ?_
  refine FL.v (E.move k62) ?_
  obtain ⟨x74, hx75, hp⟩ := bnd hp
  obtain ⟨p68, cs69, pt70, l71, at72, rel73⟩ := p1.at hx75
  obtain ⟨v76, rfl, h77⟩ := eResStep_open rel73
  refine FL.v (E.indexAddr te36 rfl rfl pt70) ?_
  refine FL.v (E.fieldAddr tf60_0 rfl) ?_
  refine FL.v (E.load rfl (run_load1 Tryz.isAgg50 ((at72.mono i27).now S65.sl) rfl)) ?_
  refine FL.v (E.assign (v := v76) rfl) ?_
  refine FL.v (E.assign (v := Value.bool true) rfl) ?_
  refine FL.nil ?_
  refine FW.ret ?_
  obtain rfl := Option.some.inj hp
  exact ⟨.inr rfl, res2 rfl rfl rfl ⟨_, _, rfl, S65.run, (h77.mono i27)⟩⟩

theorem w_slices_IndexFunc_int_int {Ha : GH} {wa : World} (hs : Sl Ha wa) (v0 : Value) (a0 : List Int) (p0 : RSl Ha eI 1 v0 a0) (v1 : Value) (a1 : Int → Option Bool) (p1 : Fn_I_to_B Tryz.prog Ha v1 a1) {r : Int} (hp : (PF.slices_IndexFunc_int_int a0 a1) = some r) :
  Calls Tryz.prog 110 #[v0, v1] wa (Sc Ha wa (Value.int .i64 r)) := by
 unfold PF.slices_IndexFunc_int_int at hp
 have S0 := St.init hs
 refine calls_go (N := 19) (args := [v0, v1]) Tryz.func110 rfl rfl rfl ?_
 refine FW.seq (FW.region ?_)
 refine FL.v (E.assign (v := Value.int .i64 0) rfl) ?_
 refine FL.nil (FW.seq (FW.seq (FW.region ?_)))
 refine FL.v (E.move (v := v0) rfl) ?_
 refine FL.v (E.lenP te50 rfl p0) ?_
 refine FL.v (E.move (v := Value.int .i64 0) rfl) ?_
 refine FL.nil ?_
 obtain ⟨q22, hq, hp⟩ := bndR hp
 refine FW.block ?_
 refine FW.mono (FW.forL (S := Unit) (X := Int) (fun (i22 : Nat) (s22 : Unit) f w => ∃ H : GH, St Ha wa H w [] ∧ Inc Ha H ∧ f 8 = Value.int .i64 ((i22 : Nat) : Int) ∧ f 0 = v0 ∧ f 1 = v1 ∧ f 7 = Value.int .i64 (len a0)) (fun q e f w => match q with | .go s22 => e = Exit.exit 0 ∧ (∃ H : GH, St Ha wa H w [] ∧ Inc Ha H) | .rt x => ((e = Exit.ret) ∧ (fun e f w => (e = Exit.normal ∨ e = Exit.ret) ∧ ∀ a, Fr (δ := []) 19 a f → ∃ v, (results Tryz.f110 a.tmps).run Tryz.prog w = .ok v w ∧ (Sc Ha wa (Value.int .i64 x)) (.returned v) w) e f w)) hq ⟨_, S0, (Inc.rfl _), rfl, rfl, rfl, rfl⟩ ?_ ?_) ?_
 ·
  clear hp hq
  rintro i22 y21 s22 f53 w52 ⟨H49, S50, i51, k54, k55, k56, k57⟩ hx22 o75 hp
  refine FW.seq (FW.region ?_)
  refine FL.v (E.lssT k54 k57 (lss_len hx22)) ?_
  refine FL.nil (FW.seq ?_)
  refine FW.condT rfl rfl ?_
  refine FW.skip (FW.seq (FW.block (FW.seq (FW.region ?_))))
  refine FL.v (E.move k54) ?_
  refine FL.v (E.assign (v := Value.int .i64 ((i22 : Nat) : Int)) rfl) ?_
  refine FL.nil (FW.seq (FW.region ?_))
  refine FL.v (E.move k56) ?_
  refine FL.v (E.move k55) ?_
  refine FL.v (E.move (v := Value.int .i64 ((i22 : Nat) : Int)) rfl) ?_
  obtain ⟨p58, cs59, pt60, l61, at62, rel63⟩ := p0.at (ix_nat hx22)
  obtain rfl := eI_open rel63
  refine FL.v (E.indexAddr te50 rfl rfl pt60) ?_
  refine FL.v (E.load rfl (run_load0 Tryz.isAgg3 ((at62.mono i51).now S50.sl) rfl)) ?_
  obtain ⟨r64, hr65, hp⟩ := bnd hp
  obtain ⟨fi69, cs70, hv71, he72, hc73⟩ := (p1.mono i51) H49 w52 (Inc.rfl _) S50.sl y21 r64 hr65
  refine FL.call rfl rfl rfl (E.callV he72 (Eq.trans rfl hv71) (appA (A1 rfl) cs70)) hc73 ?_
  rintro e w66 ⟨rfl, r67⟩
  refine ⟨_, rfl, ?_⟩
  have S68 := S50.call r67
  refine FL.nil ?_
  rcases ifB hp with ⟨c74, hp⟩ | ⟨c74, hp⟩
  ·
   refine FW.condT rfl c74 ?_
   refine FW.seq (FW.region ?_)
   refine FL.v (E.move (v := Value.int .i64 ((i22 : Nat) : Int)) rfl) ?_
   refine FL.v (E.assign (v := Value.int .i64 ((i22 : Nat) : Int)) rfl) ?_
   refine FL.nil ?_
   refine FW.ret ?_
   obtain rfl := Option.some.inj hp
   exact ⟨nofun, rfl, ⟨.inr rfl, res1 rfl rfl ⟨rfl, S68.back⟩⟩⟩
  ·
   refine FW.condF rfl c74 ?_
   refine FW.skip (FW.region ?_)
   refine FL.v (E.add k54 rfl) ?_
   refine FL.v (E.move (v := Value.int .i64 (wr (((i22 : Nat) : Int) + 1))) rfl) ?_
   refine FL.nil ?_
   obtain rfl := Option.some.inj hp
   exact ⟨rfl, ⟨_, S68, i51, (nat_succ rfl (lt_of_get hx22) (p0.mono i51).le), k55, k56, k57⟩⟩
 ·
  clear hp hq
  rintro s22 f85 w84 ⟨H81, S82, i83, k86, k87, k88, k89⟩
  refine FW.seq (FW.region ?_)
  refine FL.v (E.lss k86 k89) ?_
  refine FL.nil (FW.seq ?_)
  refine FW.condF rfl dlt_len ?_
  refine FW.exit ?_
  exact ⟨nofun, rfl, ⟨_, S82, i83⟩⟩
 ·
  clear hq
  intro e f80 w79 hD
  rcases q22 with s22 | x22
  ·
   obtain ⟨rfl, hD⟩ := hD
   obtain ⟨H76, S77, i78⟩ := hD
   replace hp := el_go hp
   refine FW.seq (FW.region ?_)
   refine FL.v (E.assign (v := Value.int .i64 (-1)) rfl) ?_
   refine FL.nil ?_
   refine FW.ret ?_
   obtain rfl := Option.some.inj hp
   exact ⟨.inr rfl, res1 rfl rfl ⟨rfl, S77.back⟩⟩
  ·
   obtain ⟨he, hL⟩ := hD
   replace hp := el_rt hp
   obtain rfl := Option.some.inj hp
   subst he
   exact hL

theorem w_slices_ContainsFunc_int_int {Ha : GH} {wa : World} (hs : Sl Ha wa) (v0 : Value) (a0 : List Int) (p0 : RSl Ha eI 1 v0 a0) (v1 : Value) (a1 : Int → Option Bool) (p1 : Fn_I_to_B Tryz.prog Ha v1 a1) {r : Bool} (hp : (PF.slices_ContainsFunc_int_int a0 a1) = some r) :
  Calls Tryz.prog 99 #[v0, v1] wa (Sc Ha wa (Value.bool r)) := by
 unfold PF.slices_ContainsFunc_int_int at hp
 have S0 := St.init hs
 refine calls_go (N := 9) (args := [v0, v1]) Tryz.func99 rfl rfl rfl ?_
 refine FW.seq (FW.region ?_)
 refine FL.v (E.assign (v := Value.bool false) rfl) ?_
 refine FL.nil (FW.seq (FW.region ?_))
 refine FL.v (E.move (v := v0) rfl) ?_
 refine FL.v (E.move (v := v1) rfl) ?_
 obtain ⟨r21, hr22, hp⟩ := bnd hp
 refine FL.call rfl rfl rfl (E.call Tryz.call110 (A2 rfl rfl)) (w_slices_IndexFunc_int_int S0.sl v0 a0 p0 v1 a1 p1 hr22) ?_
 rintro e w23 ⟨rfl, r24⟩
 refine ⟨_, rfl, ?_⟩
 have S25 := S0.call r24
 refine FL.v (E.geq rfl rfl) ?_
 refine FL.v (E.assign (v := Value.bool (decide (0 ≤ r21))) rfl) ?_
 refine FL.nil ?_
 refine FW.ret ?_
 obtain rfl := Option.some.inj hp
 exact ⟨.inr rfl, res1 rfl rfl ⟨rfl, S25.back⟩⟩

theorem w_slices_Index_int_int {Ha : GH} {wa : World} (hs : Sl Ha wa) (v0 : Value) (a0 : List Int) (p0 : RSl Ha eI 1 v0 a0) (a1 : Int) {r : Int} (hp : (PF.slices_Index_int_int a0 a1) = some r) :
  Calls Tryz.prog 111 #[v0, Value.int .i64 a1] wa (Sc Ha wa (Value.int .i64 r)) := by
 unfold PF.slices_Index_int_int at hp
 have S0 := St.init hs
 refine calls_go (N := 19) (args := [v0, Value.int .i64 a1]) Tryz.func111 rfl rfl rfl ?_
 refine FW.seq (FW.region ?_)
 refine FL.v (E.assign (v := Value.int .i64 0) rfl) ?_
 refine FL.nil (FW.seq (FW.seq (FW.region ?_)))
 refine FL.v (E.move (v := v0) rfl) ?_
 refine FL.v (E.lenP te50 rfl p0) ?_
 refine FL.v (E.move (v := Value.int .i64 0) rfl) ?_
 refine FL.nil ?_
 obtain ⟨q22, hq, hp⟩ := bndR hp
 refine FW.block ?_
 refine FW.mono (FW.forL (S := Unit) (X := Int) (fun (i22 : Nat) (s22 : Unit) f w => ∃ H : GH, St Ha wa H w [] ∧ Inc Ha H ∧ f 8 = Value.int .i64 ((i22 : Nat) : Int) ∧ f 0 = v0 ∧ f 1 = Value.int .i64 a1 ∧ f 7 = Value.int .i64 (len a0)) (fun q e f w => match q with | .go s22 => e = Exit.exit 0 ∧ (∃ H : GH, St Ha wa H w [] ∧ Inc Ha H) | .rt x => ((e = Exit.ret) ∧ (fun e f w => (e = Exit.normal ∨ e = Exit.ret) ∧ ∀ a, Fr (δ := []) 19 a f → ∃ v, (results Tryz.f111 a.tmps).run Tryz.prog w = .ok v w ∧ (Sc Ha wa (Value.int .i64 x)) (.returned v) w) e f w)) hq ⟨_, S0, (Inc.rfl _), rfl, rfl, rfl, rfl⟩ ?_ ?_) ?_
 ·
  clear hp hq
  rintro i22 y21 s22 f43 w42 ⟨H39, S40, i41, k44, k45, k46, k47⟩ hx22 o55 hp
  refine FW.seq (FW.region ?_)
  refine FL.v (E.lssT k44 k47 (lss_len hx22)) ?_
  refine FL.nil (FW.seq ?_)
  refine FW.condT rfl rfl ?_
  refine FW.skip (FW.seq (FW.block (FW.seq (FW.region ?_))))
  refine FL.v (E.move k44) ?_
  refine FL.v (E.assign (v := Value.int .i64 ((i22 : Nat) : Int)) rfl) ?_
  refine FL.nil (FW.seq (FW.region ?_))
  refine FL.v (E.move k46) ?_
  refine FL.v (E.move k45) ?_
  refine FL.v (E.move (v := Value.int .i64 ((i22 : Nat) : Int)) rfl) ?_
  obtain ⟨p48, cs49, pt50, l51, at52, rel53⟩ := p0.at (ix_nat hx22)
  obtain rfl := eI_open rel53
  refine FL.v (E.indexAddr te50 rfl rfl pt50) ?_
  refine FL.v (E.load rfl (run_load0 Tryz.isAgg3 ((at52.mono i41).now S40.sl) rfl)) ?_
  refine FL.v (E.eql rfl rfl) ?_
  refine FL.nil ?_
  rcases ifB hp with ⟨c54, hp⟩ | ⟨c54, hp⟩
  ·
   refine FW.condT rfl c54 ?_
   refine FW.seq (FW.region ?_)
   refine FL.v (E.move (v := Value.int .i64 ((i22 : Nat) : Int)) rfl) ?_
   refine FL.v (E.assign (v := Value.int .i64 ((i22 : Nat) : Int)) rfl) ?_
   refine FL.nil ?_
   refine FW.ret ?_
   obtain rfl := Option.some.inj hp
   exact ⟨nofun, rfl, ⟨.inr rfl, res1 rfl rfl ⟨rfl, S40.back⟩⟩⟩
  ·
   refine FW.condF rfl c54 ?_
   refine FW.skip (FW.region ?_)
   refine FL.v (E.add k44 rfl) ?_
   refine FL.v (E.move (v := Value.int .i64 (wr (((i22 : Nat) : Int) + 1))) rfl) ?_
   refine FL.nil ?_
   obtain rfl := Option.some.inj hp
   exact ⟨rfl, ⟨_, S40, i41, (nat_succ rfl (lt_of_get hx22) (p0.mono i41).le), k45, k46, k47⟩⟩
 ·
  clear hp hq
  rintro s22 f65 w64 ⟨H61, S62, i63, k66, k67, k68, k69⟩
  refine FW.seq (FW.region ?_)
  refine FL.v (E.lss k66 k69) ?_
  refine FL.nil (FW.seq ?_)
  refine FW.condF rfl dlt_len ?_
  refine FW.exit ?_
  exact ⟨nofun, rfl, ⟨_, S62, i63⟩⟩
 ·
  clear hq
  intro e f60 w59 hD
  rcases q22 with s22 | x22
  ·
   obtain ⟨rfl, hD⟩ := hD
   obtain ⟨H56, S57, i58⟩ := hD
   replace hp := el_go hp
   refine FW.seq (FW.region ?_)
   refine FL.v (E.assign (v := Value.int .i64 (-1)) rfl) ?_
   refine FL.nil ?_
   refine FW.ret ?_
   obtain rfl := Option.some.inj hp
   exact ⟨.inr rfl, res1 rfl rfl ⟨rfl, S57.back⟩⟩
  ·
   obtain ⟨he, hL⟩ := hD
   replace hp := el_rt hp
   obtain rfl := Option.some.inj hp
   subst he
   exact hL

theorem w_slices_Contains_int_int {Ha : GH} {wa : World} (hs : Sl Ha wa) (v0 : Value) (a0 : List Int) (p0 : RSl Ha eI 1 v0 a0) (a1 : Int) {r : Bool} (hp : (PF.slices_Contains_int_int a0 a1) = some r) :
  Calls Tryz.prog 101 #[v0, Value.int .i64 a1] wa (Sc Ha wa (Value.bool r)) := by
 unfold PF.slices_Contains_int_int at hp
 have S0 := St.init hs
 refine calls_go (N := 9) (args := [v0, Value.int .i64 a1]) Tryz.func101 rfl rfl rfl ?_
 refine FW.seq (FW.region ?_)
 refine FL.v (E.assign (v := Value.bool false) rfl) ?_
 refine FL.nil (FW.seq (FW.region ?_))
 refine FL.v (E.move (v := v0) rfl) ?_
 refine FL.v (E.move (v := Value.int .i64 a1) rfl) ?_
 obtain ⟨r21, hr22, hp⟩ := bnd hp
 refine FL.call rfl rfl rfl (E.call Tryz.call111 (A2 rfl rfl)) (w_slices_Index_int_int S0.sl v0 a0 p0 a1 hr22) ?_
 rintro e w23 ⟨rfl, r24⟩
 refine ⟨_, rfl, ?_⟩
 have S25 := S0.call r24
 refine FL.v (E.geq rfl rfl) ?_
 refine FL.v (E.assign (v := Value.bool (decide (0 ≤ r21))) rfl) ?_
 refine FL.nil ?_
 refine FW.ret ?_
 obtain rfl := Option.some.inj hp
 exact ⟨.inr rfl, res1 rfl rfl ⟨rfl, S25.back⟩⟩

theorem w_impl_part_1 {Ha : GH} {wa : World} (hs : Sl Ha wa) (a0 : Int) (q0 : Addr) (b0 : List Int) (u0_0 : Value) (g0_0 : RSl Ha eI 1 u0_0 b0) (c0 : CAt Ha q0 [u0_0]) {r : Bool} (hp : (PF.impl_part_1 a0 b0) = some r) :
  Calls Tryz.prog 100 #[Value.int .i64 a0, Value.pointer (some q0)] wa (Sc Ha wa (Value.bool r)) := by
 unfold PF.impl_part_1 at hp
 have S0 := St.init hs
 refine calls_go (N := 8) (args := [Value.int .i64 a0, Value.pointer (some q0)]) Tryz.func100 rfl rfl rfl ?_
 refine FW.seq (FW.region ?_)
 refine FL.v (E.assign (v := Value.bool false) rfl) ?_
 refine FL.nil (FW.seq (FW.region ?_))
 refine FL.v (E.load rfl (run_load0 Tryz.isAgg50 (c0.now S0.sl) rfl)) ?_
 refine FL.v (E.move (v := Value.int .i64 a0) rfl) ?_
 obtain ⟨r21, hr22, hp⟩ := bnd hp
 refine FL.call rfl rfl rfl (E.call Tryz.call101 (A2 rfl rfl)) (w_slices_Contains_int_int S0.sl u0_0 b0 g0_0 a0 hr22) ?_
 rintro e w23 ⟨rfl, r24⟩
 refine ⟨_, rfl, ?_⟩
 have S25 := S0.call r24
 refine FL.v (E.not rfl) ?_
 refine FL.v (E.assign (v := Value.bool (!r21)) rfl) ?_
 refine FL.nil ?_
 refine FW.ret ?_
 obtain rfl := Option.some.inj hp
 exact ⟨.inr rfl, res1 rfl rfl ⟨rfl, S25.back⟩⟩

theorem w_impl_part {Ha : GH} {wa : World} (hs : Sl Ha wa) (v0 : Value) (a0 : List Int) (p0 : RSl Ha eI 1 v0 a0) (v1 : Value) (a1 : List Int) (p1 : RSl Ha eI 1 v1 a1) {r : Bool} (hp : (PF.impl_part a0 a1) = some r) :
  Calls Tryz.prog 88 #[v0, v1] wa (Sc Ha wa (Value.bool r)) := by
 unfold PF.impl_part at hp
 have S0 := St.init hs
 refine calls_go (N := 9) (args := [v0, v1]) Tryz.func88 rfl rfl rfl ?_
 refine FW.seq (FW.region ?_)
 obtain ⟨b21, w22, run23, S24⟩ := S0.box (P := Tryz.prog) 50 [v1] (v := v1) p1.cells (ones_cons p1.one ones_nil)
 refine FL.v (E.box rfl run23) ?_
 obtain ⟨H25, S26, i27, at28⟩ := S24.sealBox (i := 0) (l' := []) rfl rfl
 refine FL.v (E.assign (v := Value.bool false) rfl) ?_
 refine FL.nil (FW.seq (FW.region ?_))
 refine FL.v (E.move (v := v0) rfl) ?_
 refine FL.v (E.makeFunc A0 (A1 rfl)) ?_
 obtain ⟨r29, hr30, hp⟩ := bnd hp
 refine FL.call rfl rfl rfl (E.call Tryz.call99 (A2 rfl rfl)) (w_slices_ContainsFunc_int_int S26.sl v0 a0 (p0.mono i27) (Value.func (.func 100) #[] #[Value.pointer (some ⟨b21, 0, none⟩)]) (fun x0 => PF.impl_part_1 x0 a1) (fun H2 w2 hi2 hs2 x0 r hr => ⟨100, #[Value.pointer (some ⟨b21, 0, none⟩)], rfl, Tryz.call100, w_impl_part_1 hs2 x0 ⟨b21, 0, none⟩ a1 v1 ((p1.mono i27).mono hi2) (at28.mono hi2) hr⟩) hr30) ?_
 rintro e w31 ⟨rfl, r32⟩
 refine ⟨_, rfl, ?_⟩
 have S33 := S26.call r32
 refine FL.v (E.not rfl) ?_
 refine FL.v (E.assign (v := Value.bool (!r29)) rfl) ?_
 refine FL.nil ?_
 refine FW.ret ?_
 obtain rfl := Option.some.inj hp
 exact ⟨.inr rfl, res1 rfl rfl ⟨rfl, S33.back⟩⟩

theorem w_impl_isVar {Ha : GH} {wa : World} (hs : Sl Ha wa) (a0 : Int) (a1 : Int) :
  Calls Tryz.prog 89 #[Value.int .i64 a0, Value.int .i64 a1] wa (Sc Ha wa (Value.bool (PF.impl_isVar a0 a1))) := by
 obtain ⟨r, hp⟩ : ∃ r, (PF.impl_isVar a0 a1) = r := ⟨_, rfl⟩
 rw [hp]
 unfold PF.impl_isVar at hp
 have S0 := St.init hs
 refine calls_go (N := 8) (args := [Value.int .i64 a0, Value.int .i64 a1]) Tryz.func89 rfl rfl rfl ?_
 refine FW.seq (FW.region ?_)
 refine FL.v (E.assign (v := Value.bool false) rfl) ?_
 refine FL.nil (FW.seq (FW.region ?_))
 refine FL.v (E.move (v := Value.int .i64 a1) rfl) ?_
 refine FL.v (E.move (v := Value.int .i64 a0) rfl) ?_
 refine FL.call rfl rfl rfl (E.call Tryz.call72 (A3 rfl rfl rfl)) (w_impl_within S0.sl a1 1 a0) ?_
 rintro e w21 ⟨rfl, r22⟩
 refine ⟨_, rfl, ?_⟩
 have S23 := S0.call r22
 refine FL.v (E.assign (v := Value.bool (PF.impl_within a1 1 a0)) rfl) ?_
 refine FL.nil ?_
 refine FW.ret ?_
 obtain rfl := hp
 exact ⟨.inr rfl, res1 rfl rfl ⟨rfl, S23.back⟩⟩

@[reducible] def p_slices_Clone_int_int (Ha : GH) (wa : World) (r : (List Int)) : Ending → World → Prop :=
 fun e w' => ∃ H' : GH, ∃ v0 : Value, ∃ n0 : Nat, ∃ c0 : List Value, e = .returned (v0) ∧ St Ha wa H' w' [.row 3 1 v0 n0 c0] ∧ Els (up wa.heap.size H') eI 1 c0 r
theorem w_slices_Clone_int_int {Ha : GH} {wa : World} (hs : Sl Ha wa) (v0 : Value) (a0 : List Int) (p0 : RSl Ha eI 1 v0 a0) {r : (List Int)} (hp : (PF.slices_Clone_int_int a0) = some r) :
  Calls Tryz.prog 112 #[v0] wa (p_slices_Clone_int_int Ha wa r) := by
 unfold PF.slices_Clone_int_int at hp
 have S0 := St.init hs
 refine calls_go (N := 8) (args := [v0]) Tryz.func112 rfl rfl rfl ?_
 refine FW.seq (FW.region ?_)
 refine FL.v (E.assign (v := Value.slice none 0 0) rfl) ?_
 refine FL.nil (FW.seq (FW.seq (FW.region ?_)))
 refine FL.v (E.move (v := v0) rfl) ?_
 obtain ⟨nb21, run22, hn23⟩ := RSl.nilTest te50 p0
 refine FL.v (run22 _ _ _ _ _ _ _ _ _ _ _ _ rfl rfl) ?_
 refine FL.nil ?_
 rcases bcase nb21 with c24 | c24
 ·
  refine FW.condT (b := nb21) rfl c24 ?_
  rw [hn23 c24, app_nil2] at hp
  refine FW.seq (FW.region ?_)
  refine FL.v (E.assign (v := Value.slice none 0 0) rfl) ?_
  refine FL.nil ?_
  refine FW.ret ?_
  obtain rfl := Option.some.inj hp
  exact ⟨.inr rfl, res1 rfl rfl ⟨_, _, _, _, rfl, (S0.nil 3 1), Els.nil⟩⟩
 ·
  refine FW.condF (b := nb21) rfl c24 ?_
  refine FW.skip (FW.seq (FW.region ?_))
  obtain ⟨v25, w26, run27, S28⟩ := S0.buildSlice (P := Tryz.prog) te50 [] (parts := #[]) (cells := []) rfl szs_nil fc_nil ones_nil (Nat.le_of_ble_eq_true rfl)
  have els29 : Els (up wa.heap.size Ha) eI 1 [] [] := Els.nil
  refine FL.v (E.buildSlice (B0) run27) ?_
  refine FL.v (E.move (v := v0) rfl) ?_
  obtain ⟨xs30, hz31, hp⟩ := bnd hp
  obtain ⟨v32, w35, n33, cs34, run36, S37, els38⟩ := S28.appendP (P := Tryz.prog) (Inc.rfl _) te50 (i := 0) rfl (els29.mono upI) p0 hz31
  have S37 : St Ha wa Ha w35 [.row 3 1 v32 n33 cs34] := S37
  have els38 : Els (up wa.heap.size Ha) eI 1 cs34 xs30 := els38.any (fun _ _ _ _ h => h)
  refine FL.v (E.append rfl rfl run36) ?_
  refine FL.v (E.assign (v := v32) rfl) ?_
  refine FL.nil ?_
  refine FW.ret ?_
  obtain rfl := Option.some.inj hp
  exact ⟨.inr rfl, res1 rfl rfl ⟨_, _, _, _, rfl, S37, els38⟩⟩

@[reducible] def p_slices_DeleteFunc_int_int (H0 : GH) (w0 : World) (Ha : GH) (L : List MO) (r : (List Int)) : Ending → World → Prop :=
 fun e w' => ∃ H' : GH, ∃ v0r : Value, ∃ n0r : Nat, ∃ c0r : List Value, e = .returned (v0r) ∧ (St H0 w0 H' w' (.row 3 1 v0r n0r c0r :: L) ∧ Inc Ha H') ∧ Els (up w0.heap.size H') eI 1 c0r r
set_option maxHeartbeats 4000000 in
theorem w_slices_DeleteFunc_int_int {H0 Ha : GH} {w0 wa : World} {L : List MO} {v0 : Value} {n0 : Nat} {k0 : List Value} (S0 : St H0 w0 Ha wa (.row 3 1 v0 n0 k0 :: L)) (a0 : List Int) (p0 : Els (up w0.heap.size Ha) eI 1 k0 a0) (v1 : Value) (a1 : Int → Option Bool) (p1 : Fn_I_to_B Tryz.prog Ha v1 a1) {r : (List Int)} (hp : (PF.slices_DeleteFunc_int_int a0 a1) = some r) :
  Calls Tryz.prog 117 #[v0, v1] wa (p_slices_DeleteFunc_int_int H0 w0 Ha L r) := by
 unfold PF.slices_DeleteFunc_int_int at hp
 refine calls_go (N := 42) (args := [v0, v1]) Tryz.func117 rfl rfl rfl ?_
 refine FW.seq (FW.region ?_)
 refine FL.v (E.assign (v := Value.slice none 0 0) rfl) ?_
 refine FL.nil (FW.seq (FW.region ?_))
 refine FL.v (E.move (v := v0) rfl) ?_
 refine FL.v (E.move (v := v1) rfl) ?_
 obtain ⟨H21, S22, i23, h24, nv25⟩ := S0.sealRowU (i := 0) (l' := L) rfl p0 (by decide) rfl
 obtain ⟨r26, hr27, hp⟩ := bnd hp
 refine FL.call rfl rfl rfl (E.call Tryz.call110 (A2 rfl rfl)) (w_slices_IndexFunc_int_int S22.sl v0 a0 (h24.mono upI) v1 a1 (p1.mono i23) hr27) ?_
 rintro e w28 ⟨rfl, r29⟩
 refine ⟨_, rfl, ?_⟩
 have r29 := Run.lend i23 S0.sl r29
 have S30 := S0.call r29
 refine FL.v (E.assign (v := Value.int .i64 r26) rfl) ?_
 refine FL.nil (FW.seq (FW.seq (FW.region ?_)))
 refine FL.v (E.move (v := Value.int .i64 r26) rfl) ?_
 refine FL.v (E.eql rfl rfl) ?_
 refine FL.nil ?_
 rcases ifB hp with ⟨c31, hp⟩ | ⟨c31, hp⟩
 ·
  refine FW.condT rfl c31 ?_
  refine FW.seq (FW.region ?_)
  refine FL.v (E.move (v := v0) rfl) ?_
  refine FL.v (E.assign (v := v0) rfl) ?_
  refine FL.nil ?_
  refine FW.ret ?_
  obtain rfl := Option.some.inj hp
  exact ⟨.inr rfl, res1 rfl rfl ⟨_, _, _, _, rfl, ⟨S30, (Inc.rfl _)⟩, p0⟩⟩
 ·
  refine FW.condF rfl c31 ?_
  refine FW.skip (FW.seq (FW.seq (FW.region ?_)))
  refine FL.v (E.move (v := Value.int .i64 r26) rfl) ?_
  refine FL.v (E.add rfl rfl) ?_
  refine FL.v (E.assign (v := Value.int .i64 (wr (r26 + 1))) rfl) ?_
  refine FL.nil ?_
  obtain ⟨q32, hq, hp⟩ := bndR hp
  refine FW.block ?_
  refine FW.mono (FW.iter (S := ((List Int) × Int × Int)) (X := Empty) (fun (s32 : ((List Int) × Int × Int)) f w => ∃ H : GH, ∃ cs78 : List Value, St H0 w0 H w (.row 3 1 v0 n0 cs78 :: L) ∧ Inc Ha H ∧ Els (up w0.heap.size H) eI 1 cs78 s32.1 ∧ f 0 = v0 ∧ f 1 = v1 ∧ f 5 = Value.int .i64 s32.2.1 ∧ f 6 = Value.int .i64 s32.2.2) (fun (q : Rs ((List Int) × Int × Int) Empty) e f w => match q with | .go s32 => e = Exit.exit 0 ∧ (∃ H : GH, ∃ cs78 : List Value, St H0 w0 H w (.row 3 1 v0 n0 cs78 :: L) ∧ Inc Ha H ∧ Els (up w0.heap.size H) eI 1 cs78 s32.1 ∧ f 0 = v0 ∧ f 5 = Value.int .i64 s32.2.1) | .rt x => x.elim) hq ⟨_, _, S30, (Inc.rfl _), p0, rfl, rfl, rfl, rfl⟩ ?_) ?_
  ·
   clear hp hq
   rintro s32 f129 w128 ⟨H125, cs78, S126, i127, els79, k130, k131, k132, k133⟩ o170 hp
   refine FW.seq (FW.seq (FW.region ?_))
   refine FL.v (E.move k133) ?_
   refine FL.v (E.move k130) ?_
   refine FL.v (E.lenO te50 rfl S126 (i := 0) rfl els79 (by decide)) ?_
   refine FL.v (E.lss rfl rfl) ?_
   refine FL.nil ?_
   rcases ifB hp with ⟨c134, hp⟩ | ⟨c134, hp⟩
   ·
    refine FW.condT rfl c134 ?_
    refine FW.skip (FW.seq (FW.block (FW.seq (FW.region ?_))))
    refine FL.v (E.move k130) ?_
    refine FL.v (E.move k133) ?_
    obtain ⟨x141, hx142, hp⟩ := bnd hp
    obtain ⟨p135, cs136, pt137, l138, at139, rel140⟩ := S126.row_at (i := 0) rfl els79 (by decide) hx142
    obtain rfl := eI_open rel140
    refine FL.v (E.indexAddr te50 rfl rfl pt137) ?_
    refine FL.v (E.load rfl (run_load0 Tryz.isAgg3 at139 rfl)) ?_
    refine FL.v (E.assign (v := Value.int .i64 x141) rfl) ?_
    refine FL.nil (FW.seq (FW.region ?_))
    refine FL.v (E.move k131) ?_
    refine FL.v (E.move (v := Value.int .i64 x141) rfl) ?_
    obtain ⟨r143, hr144, hp⟩ := bnd hp
    obtain ⟨fi148, cs149, hv150, he151, hc152⟩ := (p1.mono i127) H125 w128 (Inc.rfl _) S126.sl x141 r143 hr144
    refine FL.call rfl rfl rfl (E.callV he151 (Eq.trans rfl hv150) (appA (A1 rfl) cs149)) hc152 ?_
    rintro e w145 ⟨rfl, r146⟩
    refine ⟨_, rfl, ?_⟩
    have S147 := S126.call r146
    refine FL.v (E.not rfl) ?_
    refine FL.nil ?_
    rcases ifB hp with ⟨c153, hp⟩ | ⟨c153, hp⟩
    ·
     refine FW.condT rfl c153 ?_
     refine FW.seq (FW.region ?_)
     refine FL.v (E.move k130) ?_
     refine FL.v (E.move k132) ?_
     refine FL.v (E.move (v := Value.int .i64 x141) rfl) ?_
     obtain ⟨x160, hx161, hp⟩ := bnd hp
     obtain ⟨p154, cs155, pt156, l157, at158, rel159⟩ := S147.row_at (i := 0) rfl els79 (by decide) hx161
     obtain rfl := eI_open rel159
     refine FL.v (E.indexAddr te50 rfl rfl pt156) ?_
     obtain ⟨xs165, hput166, hp⟩ := bnd hp
     obtain ⟨w162, cs168, run163, S164, els167, ce169⟩ := S147.putEls (P := Tryz.prog) (t := 3) (i := 0) rfl els79 hput166 pt156 Tryz.sizeOf3 (u := Value.int .i64 x141) (c := [Value.int .i64 x141]) rfl rfl (ones_cons rfl ones_nil) rfl
     have S164 : St H0 w0 H125 w162 (.row 3 1 v0 n0 cs168 :: L) := S164
     refine FL.act rfl rfl (E.store rfl rfl run163) ?_
     refine FL.nil (FW.region ?_)
     refine FL.v (E.move k132) ?_
     refine FL.v (E.add rfl rfl) ?_
     refine FL.v (E.assign (v := Value.int .i64 (wr (s32.2.1 + 1))) rfl) ?_
     refine FL.nil (FW.region ?_)
     refine FL.v (E.move k133) ?_
     refine FL.v (E.add rfl rfl) ?_
     refine FL.v (E.assign (v := Value.int .i64 (wr (s32.2.2 + 1))) rfl) ?_
     refine FL.nil ?_
     obtain rfl := Option.some.inj hp
     exact ⟨rfl, ⟨_, _, S164, i127, els167, k130, k131, rfl, rfl⟩⟩
    ·
     refine FW.condF rfl c153 ?_
     refine FW.skip (FW.region ?_)
     refine FL.v (E.move k133) ?_
     refine FL.v (E.add rfl rfl) ?_
     refine FL.v (E.assign (v := Value.int .i64 (wr (s32.2.2 + 1))) rfl) ?_
     refine FL.nil ?_
     obtain rfl := Option.some.inj hp
     exact ⟨rfl, ⟨_, _, S147, i127, els79, k130, k131, k132, rfl⟩⟩
   ·
    refine FW.condF rfl c134 ?_
    refine FW.exit ?_
    obtain rfl := Option.some.inj hp
    exact ⟨nofun, rfl, ⟨_, _, S126, i127, els79, k130, k132⟩⟩
  ·
   clear hq
   intro e f175 w174 hD
   rcases q32 with s32 | x32
   ·
    obtain ⟨rfl, hD⟩ := hD
    obtain ⟨H171, cs78, S172, i173, els79, k176, k177⟩ := hD
    replace hp := el_go hp
    refine FW.seq (FW.region ?_)
    refine FL.v (E.move k176) ?_
    refine FL.v (E.move k177) ?_
    obtain ⟨xs178, hc179, hp⟩ := bnd hp
    obtain ⟨v180, run181, h182⟩ := S172.tail te50 (kk := .i64) (i := 0) rfl els79 hc179
    refine FL.v (E.slice te50 rfl (congrArg some rfl) rfl rfl (run181 _)) ?_
    obtain ⟨w183, cs184, run185, S186, els187⟩ := S172.clearTail (P := Tryz.prog) te50 (i := 0) rfl els79 h182 rfl (ones_cons rfl ones_nil)
    have S186 : St H0 w0 H171 w183 (.row 3 1 v0 n0 cs184 :: L) := S186
    refine FL.val0 rfl rfl (E.clear rfl run185) ?_
    refine FL.nil (FW.seq (FW.region ?_))
    refine FL.v (E.move k176) ?_
    refine FL.v (E.move k177) ?_
    obtain ⟨xs188, hc189, hp⟩ := bnd hp
    obtain ⟨v190, n191, cs192, run193, S194, els195, nd196⟩ := S186.cutRow te50 (kk := .i64) (i := 0) rfl els187 hc189
    have S194 : St H0 w0 H171 w183 (.row 3 1 v190 n191 cs192 :: L) := S194
    refine FL.v (E.slice te50 rfl rfl (congrArg some rfl) rfl (run193 _)) ?_
    refine FL.v (E.assign (v := v190) rfl) ?_
    refine FL.nil ?_
    refine FW.ret ?_
    obtain rfl := Option.some.inj hp
    exact ⟨.inr rfl, res1 rfl rfl ⟨_, _, _, _, rfl, ⟨S194, i173⟩, els195⟩⟩
   ·
    exact x32.elim

theorem w_impl_withoutVar_1 {Ha : GH} {wa : World} (hs : Sl Ha wa) (a0 : Int) (q0 : Addr) (b0 : Int) (c0 : CAt Ha q0 [Value.int .i64 b0]) :
  Calls Tryz.prog 118 #[Value.int .i64 a0, Value.pointer (some q0)] wa (Sc Ha wa (Value.bool (PF.impl_withoutVar_1 a0 b0))) := by
 obtain ⟨r, hp⟩ : ∃ r, (PF.impl_withoutVar_1 a0 b0) = r := ⟨_, rfl⟩
 rw [hp]
 unfold PF.impl_withoutVar_1 at hp
 have S0 := St.init hs
 refine calls_go (N := 8) (args := [Value.int .i64 a0, Value.pointer (some q0)]) Tryz.func118 rfl rfl rfl ?_
 refine FW.seq (FW.region ?_)
 refine FL.v (E.assign (v := Value.bool false) rfl) ?_
 refine FL.nil (FW.seq ?_)
 refine FW.draw (fun w' => Run wa.heap.size Ha wa Ha w') (by kernel_rfl) (by kernel_rfl) (run_drew S0.sl) ?_
 refine FD.val rfl rfl rfl (fun w' hw' => (E.move (v := Value.int .i64 a0) rfl)) ?_
 refine FD.call rfl rfl rfl (fun w' hw' => (E.call Tryz.call85 (A1 rfl))) (fun w' hw' => Calls.cls hw' (w_impl_abs (S0.call hw').sl a0)) ?_
 refine FD.val rfl rfl rfl (fun w' hw' => (E.load rfl (run_load0 Tryz.isAgg3 (c0.now (S0.call hw').sl) rfl))) ?_
 refine FD.val rfl rfl rfl (fun w' hw' => (E.eql rfl rfl)) ?_
 refine FD.val rfl rfl rfl (fun w' hw' => (E.assign (v := Value.bool ((PF.impl_abs a0) == b0)) rfl)) ?_
 refine FD.nil ?_
 intro w22 r24
 have S23 := S0.call r24
 refine FW.ret ?_
 obtain rfl := hp
 exact ⟨.inr rfl, res1 rfl rfl ⟨rfl, S23.back⟩⟩

@[reducible] def p_impl_withoutVar (Ha : GH) (wa : World) (r : (List Int)) : Ending → World → Prop :=
 fun e w' => ∃ H' : GH, ∃ v0 : Value, ∃ n0 : Nat, ∃ c0 : List Value, e = .returned (v0) ∧ St Ha wa H' w' [.row 3 1 v0 n0 c0] ∧ Els (up wa.heap.size H') eI 1 c0 r
theorem w_impl_withoutVar {Ha : GH} {wa : World} (hs : Sl Ha wa) (v0 : Value) (a0 : List Int) (p0 : RSl Ha eI 1 v0 a0) (a1 : Int) {r : (List Int)} (hp : (PF.impl_withoutVar a0 a1) = some r) :
  Calls Tryz.prog 104 #[v0, Value.int .i64 a1] wa (p_impl_withoutVar Ha wa r) := by
 unfold PF.impl_withoutVar at hp
 have S0 := St.init hs
 refine calls_go (N := 9) (args := [v0, Value.int .i64 a1]) Tryz.func104 rfl rfl rfl ?_
 refine FW.seq (FW.region ?_)
 obtain ⟨b21, w22, run23, S24⟩ := S0.box (P := Tryz.prog) 3 [Value.int .i64 a1] (v := Value.int .i64 a1) rfl (ones_cons rfl ones_nil)
 refine FL.v (E.box rfl run23) ?_
 obtain ⟨H25, S26, i27, at28⟩ := S24.sealBox (i := 0) (l' := []) rfl rfl
 refine FL.v (E.assign (v := Value.slice none 0 0) rfl) ?_
 refine FL.nil (FW.seq (FW.region ?_))
 refine FL.v (E.move (v := v0) rfl) ?_
 obtain ⟨r29, hr30, hp⟩ := bnd hp
 refine FL.call rfl rfl rfl (E.call Tryz.call112 (A1 rfl)) (w_slices_Clone_int_int S26.sl v0 a0 (p0.mono i27) hr30) ?_
 rintro e w32 ⟨H31, v35, n36, cs37, rfl, r34, els38⟩
 refine ⟨_, rfl, ?_⟩
 have els38 := els38.mono (up_le S26.size)
 have S33 := S26.join (l' := [.row 3 1 v35 n36 cs37]) r34 rfl
 refine FL.v (E.makeFunc A0 (A1 rfl)) ?_
 obtain ⟨r39, hr40, hp⟩ := bnd hp
 refine FL.call rfl rfl rfl (E.call Tryz.call117 (A2 rfl rfl)) (w_slices_DeleteFunc_int_int (L := []) S33 r29 els38 (Value.func (.func 118) #[] #[Value.pointer (some ⟨b21, 0, none⟩)]) (fun x0 => some (PF.impl_withoutVar_1 x0 a1)) (fun H2 w2 hi2 hs2 x0 r hr => ⟨118, #[Value.pointer (some ⟨b21, 0, none⟩)], rfl, Tryz.call118, by cases hr; exact w_impl_withoutVar_1 hs2 x0 ⟨b21, 0, none⟩ a1 ((at28.mono r34.run.inc).mono hi2)⟩) hr40) ?_
 rintro e w42 ⟨H41, v45, n46, cs47, rfl, ⟨S43, i44⟩, els48⟩
 refine ⟨_, rfl, ?_⟩
 have S43 : St Ha wa H41 w42 [.row 3 1 v45 n46 cs47] := S43
 refine FL.v (E.assign (v := v45) rfl) ?_
 refine FL.nil ?_
 refine FW.ret ?_
 obtain rfl := Option.some.inj hp
 exact ⟨.inr rfl, res1 rfl rfl ⟨_, _, _, _, rfl, S43, els48⟩⟩

@[reducible] def p_slices_Grow_int_int (Ha : GH) (wa : World) (r : List Int) : Ending → World → Prop :=
 fun e w' => ∃ H' : GH, ∃ v0 : Value, ∃ n0 : Nat, ∃ c0 : List Value, e = .returned (v0) ∧ St Ha wa H' w' [.row 3 1 v0 n0 c0] ∧ Els (up wa.heap.size H') eI 1 c0 r
theorem w_slices_Grow_int_int {Ha : GH} {wa : World} (hs : Sl Ha wa) (a1 : Int) {r : List Int} (hp : PF.slices_Grow_int_int a1 = some r) :
  Calls Tryz.prog 116 #[.slice none 0 0, .int .i64 a1] wa (p_slices_Grow_int_int Ha wa r) := by
 unfold PF.slices_Grow_int_int at hp
 split at hp
 ·
  rename_i h
  cases hp
  refine (growNil (En := eI) te50 hs h.1 h.2 (fun w => Any8.slices_Grow_room (P := Tryz.prog) Tryz.grow116 none 0 0 0 w (Nat.le_refl _) (by decide) (by decide) (by decide))
   (fun n w h0 hl => ?_)).mono ?_
  ·
   have h := Any8.slices_Grow_grow (P := Tryz.prog) Tryz.grow116 _ _ Tryz.type3 rfl (by decide) none 0 0 n [] w (Nat.le_refl _) (by omega) ?_ (by unfold lim at hl; omega) (by simp) (fun _ => rfl) (by simp)
   ·
    refine h.mono ?_
    rintro _ _ ⟨rfl, rfl⟩
    refine ⟨by simp; rfl, ?_⟩
    simp
    rfl
   ·
    rw [Nat.zero_add]; refine Nat.le_trans (Nat.mul_le_mul hl (show _ ≤ 4096 by decide)) (by decide)
  ·
   rintro e w' ⟨v, n, c, rfl, h1, h2⟩
   exact ⟨_, _, _, _, rfl, h1, h2 _⟩
 ·
  cases hp

@[reducible] def p_slices_Concat_int_int (Ha : GH) (wa : World) (r : (List Int)) : Ending → World → Prop :=
 fun e w' => ∃ H' : GH, ∃ v0 : Value, ∃ n0 : Nat, ∃ c0 : List Value, e = .returned (v0) ∧ St Ha wa H' w' [.row 3 1 v0 n0 c0] ∧ Els (up wa.heap.size H') eI 1 c0 r
set_option maxHeartbeats 4000000 in
theorem w_slices_Concat_int_int {Ha : GH} {wa : World} (hs : Sl Ha wa) (v0 : Value) (a0 : List (List Int)) (p0 : RSl Ha (eL eI 1) 1 v0 a0) {r : (List Int)} (hp : (PF.slices_Concat_int_int a0) = some r) :
  Calls Tryz.prog 103 #[v0] wa (p_slices_Concat_int_int Ha wa r) := by
 unfold PF.slices_Concat_int_int at hp
 have S0 := St.init hs
 refine calls_go (N := 36) (args := [v0]) Tryz.func103 rfl rfl rfl ?_
 refine FW.seq (FW.region ?_)
 refine FL.v (E.assign (v := Value.slice none 0 0) rfl) ?_
 refine FL.nil (FW.seq (FW.region ?_))
 refine FL.v (E.assign (v := Value.int .i64 0) rfl) ?_
 refine FL.nil (FW.seq (FW.seq (FW.region ?_)))
 refine FL.v (E.move (v := v0) rfl) ?_
 refine FL.v (E.lenP te23 rfl p0) ?_
 refine FL.v (E.move (v := Value.int .i64 0) rfl) ?_
 refine FL.nil ?_
 obtain ⟨q22, hq, hp⟩ := bndR hp
 refine FW.block ?_
 refine FW.mono (FW.forL (S := Int) (X := Empty) (fun (i22 : Nat) (s22 : Int) f w => ∃ H : GH, St Ha wa H w [] ∧ Inc Ha H ∧ f 11 = Value.int .i64 ((i22 : Nat) : Int) ∧ f 0 = v0 ∧ f 3 = Value.int .i64 s22 ∧ f 9 = v0 ∧ f 10 = Value.int .i64 (len a0)) (fun (q : Rs Int Empty) e f w => match q with | .go s22 => e = Exit.exit 0 ∧ (∃ H : GH, St Ha wa H w [] ∧ Inc Ha H ∧ f 0 = v0 ∧ f 3 = Value.int .i64 s22) | .rt x => x.elim) hq ⟨_, S0, (Inc.rfl _), rfl, rfl, rfl, rfl, rfl⟩ ?_ ?_) ?_
 ·
  clear hp hq
  rintro i22 y21 s22 f46 w45 ⟨H42, S43, i44, k47, k48, k49, k50, k51⟩ hx22 o61 hp
  refine FW.seq (FW.region ?_)
  refine FL.v (E.lssT k47 k51 (lss_len hx22)) ?_
  refine FL.nil (FW.seq ?_)
  refine FW.condT rfl rfl ?_
  refine FW.skip (FW.seq (FW.block (FW.seq (FW.region ?_))))
  obtain ⟨p52, cs53, pt54, l55, at56, rel57⟩ := p0.at (ix_nat hx22)
  obtain ⟨v58, rfl, h59⟩ := eL_open rel57
  refine FL.v (E.indexAddr te23 k50 k47 pt54) ?_
  refine FL.v (E.load rfl (run_load0 Tryz.isAgg50 ((at56.mono i44).now S43.sl) rfl)) ?_
  refine FL.v (E.assign (v := v58) rfl) ?_
  refine FL.nil (FW.seq (FW.region ?_))
  refine FL.v (E.move k49) ?_
  refine FL.v (E.move (v := v58) rfl) ?_
  refine FL.v (E.lenP te50 rfl h59) ?_
  refine FL.v (E.add rfl rfl) ?_
  refine FL.v (E.assign (v := Value.int .i64 (wr (s22 + (len y21)))) rfl) ?_
  refine FL.nil (FW.seq (FW.region ?_))
  refine FL.v (E.move (v := Value.int .i64 (wr (s22 + (len y21)))) rfl) ?_
  refine FL.v (E.lss rfl rfl) ?_
  refine FL.nil ?_
  rcases ifB hp with ⟨c60, hp⟩ | ⟨c60, hp⟩
  ·
   refine FW.condT rfl c60 ?_
   cases hp
  ·
   refine FW.condF rfl c60 ?_
   refine FW.skip (FW.region ?_)
   refine FL.v (E.add k47 rfl) ?_
   refine FL.v (E.move (v := Value.int .i64 (wr (((i22 : Nat) : Int) + 1))) rfl) ?_
   refine FL.nil ?_
   obtain rfl := Option.some.inj hp
   exact ⟨rfl, ⟨_, S43, i44, (nat_succ rfl (lt_of_get hx22) (p0.mono i44).le), k48, rfl, k50, k51⟩⟩
 ·
  clear hp hq
  rintro s22 f159 w158 ⟨H155, S156, i157, k160, k161, k162, k163, k164⟩
  refine FW.seq (FW.region ?_)
  refine FL.v (E.lss k160 k164) ?_
  refine FL.nil (FW.seq ?_)
  refine FW.condF rfl dlt_len ?_
  refine FW.exit ?_
  exact ⟨nofun, rfl, ⟨_, S156, i157, k161, k162⟩⟩
 ·
  clear hq
  intro e f66 w65 hD
  rcases q22 with s22 | x22
  ·
   obtain ⟨rfl, hD⟩ := hD
   obtain ⟨H62, S63, i64, k67, k68⟩ := hD
   replace hp := el_go hp
   refine FW.seq (FW.region ?_)
   refine FL.v (E.move k68) ?_
   obtain ⟨r69, hr70, hp⟩ := bnd hp
   refine FL.call rfl rfl rfl (E.call Tryz.call116 (A2 rfl rfl)) (w_slices_Grow_int_int S63.sl s22 hr70) ?_
   rintro e w72 ⟨H71, v75, n76, cs77, rfl, r74, els78⟩
   refine ⟨_, rfl, ?_⟩
   have els78 := els78.mono (up_le S63.size)
   have S73 := S63.join (l' := [.row 3 1 v75 n76 cs77]) r74 rfl
   refine FL.v (E.assign (v := v75) rfl) ?_
   refine FL.nil (FW.seq (FW.seq (FW.region ?_)))
   refine FL.v (E.move k67) ?_
   refine FL.v (E.lenP te23 rfl p0) ?_
   refine FL.v (E.move (v := Value.int .i64 0) rfl) ?_
   refine FL.nil ?_
   obtain ⟨q80, hq, hp⟩ := bndR hp
   refine FW.block ?_
   refine FW.mono (FW.forL (S := (List Int)) (X := Empty) (fun (i80 : Nat) (s80 : (List Int)) f w => ∃ H : GH, ∃ v81 : Value, ∃ n82 : Nat, ∃ cs83 : List Value, St Ha wa H w [.row 3 1 v81 n82 cs83] ∧ Inc H71 H ∧ Els (up wa.heap.size H) eI 1 cs83 s80 ∧ f 27 = Value.int .i64 ((i80 : Nat) : Int) ∧ f 6 = v81 ∧ f 25 = v0 ∧ f 26 = Value.int .i64 (len a0)) (fun (q : Rs (List Int) Empty) e f w => match q with | .go s80 => e = Exit.exit 2 ∧ (∃ H : GH, ∃ v81 : Value, ∃ n82 : Nat, ∃ cs83 : List Value, St Ha wa H w [.row 3 1 v81 n82 cs83] ∧ Inc H71 H ∧ Els (up wa.heap.size H) eI 1 cs83 s80 ∧ f 6 = v81) | .rt x => x.elim) hq ⟨_, _, _, _, S73, (Inc.rfl _), els78, rfl, rfl, rfl, rfl⟩ ?_ ?_) ?_
   ·
    clear hp hq
    rintro i80 y79 s80 f116 w115 ⟨H112, v81, n82, cs83, S113, i114, els84, k117, k118, k119, k120⟩ hx80 o139 hp
    refine FW.seq (FW.region ?_)
    refine FL.v (E.lssT k117 k120 (lss_len hx80)) ?_
    refine FL.nil (FW.seq ?_)
    refine FW.condT rfl rfl ?_
    refine FW.skip (FW.seq (FW.block (FW.seq (FW.region ?_))))
    obtain ⟨p121, cs122, pt123, l124, at125, rel126⟩ := p0.at (ix_nat hx80)
    obtain ⟨v127, rfl, h128⟩ := eL_open rel126
    refine FL.v (E.indexAddr te23 k119 k117 pt123) ?_
    refine FL.v (E.load rfl (run_load0 Tryz.isAgg50 ((at125.mono ((i64.tr r74.run.inc).tr i114)).now S113.sl) rfl)) ?_
    refine FL.v (E.assign (v := v127) rfl) ?_
    refine FL.nil (FW.region ?_)
    refine FL.v (E.move k118) ?_
    refine FL.v (E.move (v := v127) rfl) ?_
    obtain ⟨xs129, hz130, hp⟩ := bnd hp
    obtain ⟨v131, w134, n132, cs133, run135, S136, els137⟩ := S113.appendP (P := Tryz.prog) (Inc.rfl _) te50 (i := 0) rfl (els84.mono upI) (h128.mono ((i64.tr r74.run.inc).tr i114)) hz130
    have S136 : St Ha wa H112 w134 [.row 3 1 v131 n132 cs133] := S136
    have els137 : Els (up wa.heap.size H112) eI 1 cs133 xs129 := els137.any (fun _ _ _ _ h => h)
    refine FL.v (E.append rfl rfl run135) ?_
    refine FL.v (E.assign (v := v131) rfl) ?_
    refine FL.nil (FW.region ?_)
    refine FL.v (E.add k117 rfl) ?_
    refine FL.v (E.move (v := Value.int .i64 (wr (((i80 : Nat) : Int) + 1))) rfl) ?_
    refine FL.nil ?_
    obtain rfl := Option.some.inj hp
    exact ⟨rfl, ⟨_, _, _, _, S136, i114, els137, (nat_succ rfl (lt_of_get hx80) (p0.mono ((i64.tr r74.run.inc).tr i114)).le), rfl, k119, k120⟩⟩
   ·
    clear hp hq
    rintro s80 f150 w149 ⟨H146, v81, n82, cs83, S147, i148, els84, k151, k152, k153, k154⟩
    refine FW.seq (FW.region ?_)
    refine FL.v (E.lss k151 k154) ?_
    refine FL.nil (FW.seq ?_)
    refine FW.condF rfl dlt_len ?_
    refine FW.exit ?_
    exact ⟨nofun, rfl, ⟨_, _, _, _, S147, i148, els84, k152⟩⟩
   ·
    clear hq
    intro e f144 w143 hD
    rcases q80 with s80 | x80
    ·
     obtain ⟨rfl, hD⟩ := hD
     obtain ⟨H140, v81, n82, cs83, S141, i142, els84, k145⟩ := hD
     replace hp := el_go hp
     refine FW.seq (FW.region ?_)
     refine FL.v (E.move k145) ?_
     refine FL.v (E.assign (v := v81) rfl) ?_
     refine FL.nil ?_
     refine FW.ret ?_
     obtain rfl := Option.some.inj hp
     exact ⟨.inr rfl, res1 rfl rfl ⟨_, _, _, _, rfl, S141, els84⟩⟩
    ·
     exact x80.elim
  ·
   exact x22.elim

@[reducible] def p_slices_SortFunc_int_int (H0 : GH) (w0 : World) (Ha : GH) (L : List MO) (v0 : Value) (n0 : Nat) (r : (List Int)) : Ending → World → Prop :=
 fun e w' => ∃ H' : GH, ∃ c0k : List Value, e = .returned (Value.tuple #[]) ∧ (St H0 w0 H' w' (.row 3 1 v0 n0 c0k :: L) ∧ Inc Ha H') ∧ Els (up w0.heap.size H') eI 1 c0k r
theorem w_slices_SortFunc_int_int {H0 Ha : GH} {w0 wa : World} {L : List MO} {v0 : Value} {n0 : Nat} {k0 : List Value} (S0 : St H0 w0 Ha wa (.row 3 1 v0 n0 k0 :: L)) (a0 : List Int) (p0 : Els (up w0.heap.size Ha) eI 1 k0 a0) (v1 : Value) (a1 : Int → Int → Option Int) (p1 : Fn_I_I_to_I Tryz.prog Ha v1 a1) {r : (List Int)} (hp : (PF.slices_SortFunc_int_int a0 a1) = some r) :
  Calls Tryz.prog 113 #[v0, v1] wa (p_slices_SortFunc_int_int H0 w0 Ha L v0 n0 r) := by
 refine (St.sortF (l := .row 3 1 v0 n0 k0 :: L) (i := 0) upI S0 rfl p0 (fun H2 w2 hi hs2 c x hc d y hd r hr => by cases eI_open hc; cases eI_open hd; exact p1 H2 w2 hi hs2 x y r hr) (fun p cap fv w => AnyF.slices_SortFunc_none (P := Tryz.prog) (ρ := Tryz.sort113_ren) { Tryz.sort113 with } p cap fv w) (fun α _ enc h1 cf hO g cb blk off cap d w eg hc hH hb hs => Any.slices_SortFunc Tryz.sort113 enc h1 cf hO g cb blk off cap d w eg hc hH hb hs) hp).mono ?_
 rintro e w' ⟨rfl, c', h1, h2, hq⟩
 exact ⟨_, _, rfl, ⟨h1, Inc.rfl _⟩, h2⟩

theorem w_cmp_isNaN_int {Ha : GH} {wa : World} (hs : Sl Ha wa) (a0 : Int) :
  Calls Tryz.prog 92 #[Value.int .i64 a0] wa (Sc Ha wa (Value.bool (PF.cmp_isNaN_int a0))) := by
 obtain ⟨r, hp⟩ : ∃ r, (PF.cmp_isNaN_int a0) = r := ⟨_, rfl⟩
 rw [hp]
 unfold PF.cmp_isNaN_int at hp
 have S0 := St.init hs
 refine calls_go (N := 6) (args := [Value.int .i64 a0]) Tryz.func92 rfl rfl rfl ?_
 refine FW.seq (FW.region ?_)
 refine FL.v (E.assign (v := Value.bool false) rfl) ?_
 refine FL.nil (FW.seq (FW.region ?_))
 refine FL.v (E.move (v := Value.int .i64 a0) rfl) ?_
 refine FL.v (E.move (v := Value.int .i64 a0) rfl) ?_
 refine FL.v (E.neq rfl rfl) ?_
 refine FL.v (E.assign (v := Value.bool (!(a0 == a0))) rfl) ?_
 refine FL.nil ?_
 refine FW.ret ?_
 obtain rfl := hp
 exact ⟨.inr rfl, res1 rfl rfl ⟨rfl, S0.back⟩⟩

set_option maxHeartbeats 4000000 in
theorem w_cmp_Compare_int {Ha : GH} {wa : World} (hs : Sl Ha wa) (a0 : Int) (a1 : Int) :
  Calls Tryz.prog 75 #[Value.int .i64 a0, Value.int .i64 a1] wa (Sc Ha wa (Value.int .i64 (PF.cmp_Compare_int a0 a1))) := by
 obtain ⟨r, hp⟩ : ∃ r, (PF.cmp_Compare_int a0 a1) = r := ⟨_, rfl⟩
 rw [hp]
 unfold PF.cmp_Compare_int at hp
 have S0 := St.init hs
 refine calls_go (N := 20) (args := [Value.int .i64 a0, Value.int .i64 a1]) Tryz.func75 rfl rfl rfl ?_
 refine FW.seq (FW.region ?_)
 refine FL.v (E.assign (v := Value.int .i64 0) rfl) ?_
 refine FL.nil (FW.seq (FW.region ?_))
 refine FL.v (E.move (v := Value.int .i64 a0) rfl) ?_
 refine FL.call rfl rfl rfl (E.call Tryz.call92 (A1 rfl)) (w_cmp_isNaN_int S0.sl a0) ?_
 rintro e w21 ⟨rfl, r22⟩
 refine ⟨_, rfl, ?_⟩
 have S23 := S0.call r22
 refine FL.v (E.assign (v := Value.bool (PF.cmp_isNaN_int a0)) rfl) ?_
 refine FL.nil (FW.seq (FW.region ?_))
 refine FL.v (E.move (v := Value.int .i64 a1) rfl) ?_
 refine FL.call rfl rfl rfl (E.call Tryz.call92 (A1 rfl)) (w_cmp_isNaN_int S23.sl a1) ?_
 rintro e w24 ⟨rfl, r25⟩
 refine ⟨_, rfl, ?_⟩
 have S26 := S23.call r25
 refine FL.v (E.assign (v := Value.bool (PF.cmp_isNaN_int a1)) rfl) ?_
 refine FL.nil (FW.seq (FW.seq (FW.region ?_)))
 refine FL.v (E.move (v := Value.bool (PF.cmp_isNaN_int a0)) rfl) ?_
 refine FL.nil ?_
 rcases ifT hp with ⟨c27, hp⟩ | ⟨c27, hp⟩
 ·
  refine FW.condT rfl c27 ?_
  refine FW.seq (FW.seq (FW.region ?_))
  refine FL.v (E.move (v := Value.bool (PF.cmp_isNaN_int a1)) rfl) ?_
  refine FL.nil ?_
  rcases ifT hp with ⟨c28, hp⟩ | ⟨c28, hp⟩
  ·
   refine FW.condT rfl c28 ?_
   refine FW.seq (FW.region ?_)
   refine FL.v (E.assign (v := Value.int .i64 0) rfl) ?_
   refine FL.nil ?_
   refine FW.ret ?_
   obtain rfl := hp
   exact ⟨.inr rfl, res1 rfl rfl ⟨rfl, S26.back⟩⟩
  ·
   refine FW.condF rfl c28 ?_
   refine FW.skip (FW.seq (FW.region ?_))
   refine FL.v (E.assign (v := Value.int .i64 (-1)) rfl) ?_
   refine FL.nil ?_
   refine FW.ret ?_
   obtain rfl := hp
   exact ⟨.inr rfl, res1 rfl rfl ⟨rfl, S26.back⟩⟩
 ·
  refine FW.condF rfl c27 ?_
  refine FW.skip (FW.seq (FW.seq (FW.region ?_)))
  refine FL.v (E.move (v := Value.bool (PF.cmp_isNaN_int a1)) rfl) ?_
  refine FL.nil ?_
  rcases ifT hp with ⟨c29, hp⟩ | ⟨c29, hp⟩
  ·
   refine FW.condT rfl c29 ?_
   refine FW.seq (FW.region ?_)
   refine FL.v (E.assign (v := Value.int .i64 1) rfl) ?_
   refine FL.nil ?_
   refine FW.ret ?_
   obtain rfl := hp
   exact ⟨.inr rfl, res1 rfl rfl ⟨rfl, S26.back⟩⟩
  ·
   refine FW.condF rfl c29 ?_
   refine FW.skip (FW.seq (FW.seq (FW.region ?_)))
   refine FL.v (E.move (v := Value.int .i64 a0) rfl) ?_
   refine FL.v (E.move (v := Value.int .i64 a1) rfl) ?_
   refine FL.v (E.lss rfl rfl) ?_
   refine FL.nil ?_
   rcases ifT hp with ⟨c30, hp⟩ | ⟨c30, hp⟩
   ·
    refine FW.condT rfl c30 ?_
    refine FW.seq (FW.region ?_)
    refine FL.v (E.assign (v := Value.int .i64 (-1)) rfl) ?_
    refine FL.nil ?_
    refine FW.ret ?_
    obtain rfl := hp
    exact ⟨.inr rfl, res1 rfl rfl ⟨rfl, S26.back⟩⟩
   ·
    refine FW.condF rfl c30 ?_
    refine FW.skip (FW.seq (FW.seq (FW.region ?_)))
    refine FL.v (E.move (v := Value.int .i64 a0) rfl) ?_
    refine FL.v (E.move (v := Value.int .i64 a1) rfl) ?_
    refine FL.v (E.gtr rfl rfl) ?_
    refine FL.nil ?_
    rcases ifT hp with ⟨c31, hp⟩ | ⟨c31, hp⟩
    ·
     refine FW.condT rfl c31 ?_
     refine FW.seq (FW.region ?_)
     refine FL.v (E.assign (v := Value.int .i64 1) rfl) ?_
     refine FL.nil ?_
     refine FW.ret ?_
     obtain rfl := hp
     exact ⟨.inr rfl, res1 rfl rfl ⟨rfl, S26.back⟩⟩
    ·
     refine FW.condF rfl c31 ?_
     refine FW.skip (FW.seq (FW.region ?_))
     refine FL.v (E.assign (v := Value.int .i64 0) rfl) ?_
     refine FL.nil ?_
     refine FW.ret ?_
     obtain rfl := hp
     exact ⟨.inr rfl, res1 rfl rfl ⟨rfl, S26.back⟩⟩

theorem w_cmp_Or_int {Ha : GH} {wa : World} (hs : Sl Ha wa) (v0 : Value) (a0 : List Int) (p0 : RSl Ha eI 1 v0 a0) {r : Int} (hp : (PF.cmp_Or_int a0) = some r) :
  Calls Tryz.prog 73 #[v0] wa (Sc Ha wa (Value.int .i64 r)) := by
 unfold PF.cmp_Or_int at hp
 have S0 := St.init hs
 refine calls_go (N := 18) (args := [v0]) Tryz.func73 rfl rfl rfl ?_
 refine FW.seq (FW.region ?_)
 refine FL.v (E.assign (v := Value.int .i64 0) rfl) ?_
 refine FL.nil (FW.seq (FW.region ?_))
 refine FL.v (E.assign (v := Value.int .i64 0) rfl) ?_
 refine FL.nil (FW.seq (FW.seq (FW.region ?_)))
 refine FL.v (E.move (v := v0) rfl) ?_
 refine FL.v (E.lenP te50 rfl p0) ?_
 refine FL.v (E.move (v := Value.int .i64 0) rfl) ?_
 refine FL.nil ?_
 obtain ⟨q22, hq, hp⟩ := bndR hp
 refine FW.block ?_
 refine FW.mono (FW.forL (S := Unit) (X := Int) (fun (i22 : Nat) (s22 : Unit) f w => ∃ H : GH, St Ha wa H w [] ∧ Inc Ha H ∧ f 8 = Value.int .i64 ((i22 : Nat) : Int) ∧ f 3 = Value.int .i64 0 ∧ f 6 = v0 ∧ f 7 = Value.int .i64 (len a0)) (fun q e f w => match q with | .go s22 => e = Exit.exit 0 ∧ (∃ H : GH, St Ha wa H w [] ∧ Inc Ha H ∧ f 3 = Value.int .i64 0) | .rt x => ((e = Exit.ret) ∧ (fun e f w => (e = Exit.normal ∨ e = Exit.ret) ∧ ∀ a, Fr (δ := []) 18 a f → ∃ v, (results Tryz.f73 a.tmps).run Tryz.prog w = .ok v w ∧ (Sc Ha wa (Value.int .i64 x)) (.returned v) w) e f w)) hq ⟨_, S0, (Inc.rfl _), rfl, rfl, rfl, rfl⟩ ?_ ?_) ?_
 ·
  clear hp hq
  rintro i22 y21 s22 f43 w42 ⟨H39, S40, i41, k44, k45, k46, k47⟩ hx22 o55 hp
  refine FW.seq (FW.region ?_)
  refine FL.v (E.lssT k44 k47 (lss_len hx22)) ?_
  refine FL.nil (FW.seq ?_)
  refine FW.condT rfl rfl ?_
  refine FW.skip (FW.seq (FW.block (FW.seq (FW.region ?_))))
  obtain ⟨p48, cs49, pt50, l51, at52, rel53⟩ := p0.at (ix_nat hx22)
  obtain rfl := eI_open rel53
  refine FL.v (E.indexAddr te50 k46 k44 pt50) ?_
  refine FL.v (E.load rfl (run_load0 Tryz.isAgg3 ((at52.mono i41).now S40.sl) rfl)) ?_
  refine FL.v (E.assign (v := Value.int .i64 y21) rfl) ?_
  refine FL.nil (FW.seq (FW.region ?_))
  refine FL.v (E.move (v := Value.int .i64 y21) rfl) ?_
  refine FL.v (E.move k45) ?_
  refine FL.v (E.neq rfl rfl) ?_
  refine FL.nil ?_
  rcases ifB hp with ⟨c54, hp⟩ | ⟨c54, hp⟩
  ·
   refine FW.condT rfl c54 ?_
   refine FW.seq (FW.region ?_)
   refine FL.v (E.move (v := Value.int .i64 y21) rfl) ?_
   refine FL.v (E.assign (v := Value.int .i64 y21) rfl) ?_
   refine FL.nil ?_
   refine FW.ret ?_
   obtain rfl := Option.some.inj hp
   exact ⟨nofun, rfl, ⟨.inr rfl, res1 rfl rfl ⟨rfl, S40.back⟩⟩⟩
  ·
   refine FW.condF rfl c54 ?_
   refine FW.skip (FW.region ?_)
   refine FL.v (E.add k44 rfl) ?_
   refine FL.v (E.move (v := Value.int .i64 (wr (((i22 : Nat) : Int) + 1))) rfl) ?_
   refine FL.nil ?_
   obtain rfl := Option.some.inj hp
   exact ⟨rfl, ⟨_, S40, i41, (nat_succ rfl (lt_of_get hx22) (p0.mono i41).le), k45, k46, k47⟩⟩
 ·
  clear hp hq
  rintro s22 f66 w65 ⟨H62, S63, i64, k67, k68, k69, k70⟩
  refine FW.seq (FW.region ?_)
  refine FL.v (E.lss k67 k70) ?_
  refine FL.nil (FW.seq ?_)
  refine FW.condF rfl dlt_len ?_
  refine FW.exit ?_
  exact ⟨nofun, rfl, ⟨_, S63, i64, k68⟩⟩
 ·
  clear hq
  intro e f60 w59 hD
  rcases q22 with s22 | x22
  ·
   obtain ⟨rfl, hD⟩ := hD
   obtain ⟨H56, S57, i58, k61⟩ := hD
   replace hp := el_go hp
   refine FW.seq (FW.region ?_)
   refine FL.v (E.move k61) ?_
   refine FL.v (E.assign (v := Value.int .i64 0) rfl) ?_
   refine FL.nil ?_
   refine FW.ret ?_
   obtain rfl := Option.some.inj hp
   exact ⟨.inr rfl, res1 rfl rfl ⟨rfl, S57.back⟩⟩
  ·
   obtain ⟨he, hL⟩ := hD
   replace hp := el_rt hp
   obtain rfl := Option.some.inj hp
   subst he
   exact hL

theorem w_impl_compareLiterals {Ha : GH} {wa : World} (hs : Sl Ha wa) (a0 : Int) (a1 : Int) {r : Int} (hp : (PF.impl_compareLiterals a0 a1) = some r) :
  Calls Tryz.prog 114 #[Value.int .i64 a0, Value.int .i64 a1] wa (Sc Ha wa (Value.int .i64 r)) := by
 unfold PF.impl_compareLiterals at hp
 have S0 := St.init hs
 refine calls_go (N := 15) (args := [Value.int .i64 a0, Value.int .i64 a1]) Tryz.func114 rfl rfl rfl ?_
 refine FW.seq (FW.region ?_)
 refine FL.v (E.assign (v := Value.int .i64 0) rfl) ?_
 refine FL.nil (FW.seq (FW.region ?_))
 refine FL.v (E.move (v := Value.int .i64 a0) rfl) ?_
 refine FL.call rfl rfl rfl (E.call Tryz.call85 (A1 rfl)) (w_impl_abs S0.sl a0) ?_
 rintro e w21 ⟨rfl, r22⟩
 refine ⟨_, rfl, ?_⟩
 have S23 := S0.call r22
 refine FL.v (E.move (v := Value.int .i64 a1) rfl) ?_
 refine FL.call rfl rfl rfl (E.call Tryz.call85 (A1 rfl)) (w_impl_abs S23.sl a1) ?_
 rintro e w24 ⟨rfl, r25⟩
 refine ⟨_, rfl, ?_⟩
 have S26 := S23.call r25
 refine FL.call rfl rfl rfl (E.call Tryz.call75 (A2 rfl rfl)) (w_cmp_Compare_int S26.sl (PF.impl_abs a0) (PF.impl_abs a1)) ?_
 rintro e w27 ⟨rfl, r28⟩
 refine ⟨_, rfl, ?_⟩
 have S29 := S26.call r28
 refine FL.v (E.move (v := Value.int .i64 a1) rfl) ?_
 refine FL.v (E.move (v := Value.int .i64 a0) rfl) ?_
 refine FL.call rfl rfl rfl (E.call Tryz.call75 (A2 rfl rfl)) (w_cmp_Compare_int S29.sl a1 a0) ?_
 rintro e w30 ⟨rfl, r31⟩
 refine ⟨_, rfl, ?_⟩
 have S32 := S29.call r31
 obtain ⟨v33, w34, run35, S36, els37⟩ := S32.ints (P := Tryz.prog) te50 (up wa.heap.size Ha) 2 [(PF.cmp_Compare_int (PF.impl_abs a0) (PF.impl_abs a1)), (PF.cmp_Compare_int a1 a0)]
 refine FL.v (E.buildSlice (B2 rfl rfl) run35) ?_
 obtain ⟨H38, S39, i40, h41, nv42⟩ := S36.sealRowU (i := 0) (l' := []) rfl els37 (by decide) rfl
 obtain ⟨r43, hr44, hp⟩ := bnd hp
 refine FL.call rfl rfl rfl (E.call Tryz.call73 (A1 rfl)) (w_cmp_Or_int S39.sl v33 [(PF.cmp_Compare_int (PF.impl_abs a0) (PF.impl_abs a1)), (PF.cmp_Compare_int a1 a0)] (h41.mono upI) hr44) ?_
 rintro e w45 ⟨rfl, r46⟩
 refine ⟨_, rfl, ?_⟩
 have r46 := Run.lend i40 S36.sl r46
 have S47 := S36.call r46
 refine FL.v (E.assign (v := Value.int .i64 r43) rfl) ?_
 refine FL.nil ?_
 refine FW.ret ?_
 obtain rfl := Option.some.inj hp
 exact ⟨.inr rfl, res1 rfl rfl ⟨rfl, S47.back⟩⟩

@[reducible] def p_slices_Compact_int_int (H0 : GH) (w0 : World) (Ha : GH) (L : List MO) (r : (List Int)) : Ending → World → Prop :=
 fun e w' => ∃ H' : GH, ∃ v0r : Value, ∃ n0r : Nat, ∃ c0r : List Value, e = .returned (v0r) ∧ (St H0 w0 H' w' (.row 3 1 v0r n0r c0r :: L) ∧ Inc Ha H') ∧ Els (up w0.heap.size H') eI 1 c0r r
theorem w_slices_Compact_int_int {H0 Ha : GH} {w0 wa : World} {L : List MO} {v0 : Value} {n0 : Nat} {k0 : List Value} (S0 : St H0 w0 Ha wa (.row 3 1 v0 n0 k0 :: L)) (a0 : List Int) (p0 : Els (up w0.heap.size Ha) eI 1 k0 a0) {r : (List Int)} (hp : (PF.slices_Compact_int_int a0) = some r) :
  Calls Tryz.prog 115 #[v0] wa (p_slices_Compact_int_int H0 w0 Ha L r) := by
 cases hp
 refine (St.compactF (l := .row 3 1 v0 n0 k0 :: L) (i := 0) S0 rfl p0 (enc := Value.int .i64) (fun _ => rfl) (fun _ _ _ h => by cases eI_open h; rfl) (fun _ _ => rfl) 0 (fun w => compact_none Tryz.comp115 w) (fun blk off cap d w hH hs hc => AnyE.slices_Compact Tryz.comp115 (Value.int .i64) (fun _ => rfl) (EqlAt.intD _ _ _) (NeqAt.intD _ _ _) 0 (fun w => Tryz.zeroValue3 w) blk off cap d w hH hs hc)).mono ?_
 rintro e w' ⟨v', n', c', rfl, h1, h2⟩
 exact ⟨_, _, _, _, rfl, ⟨h1, Inc.rfl _⟩, h2⟩

@[reducible] def p_impl_clause (Ha : GH) (wa : World) (r : ((List Int) × Bool)) : Ending → World → Prop :=
 fun e w' => ∃ H' : GH, ∃ v0 : Value, ∃ n0 : Nat, ∃ c0 : List Value, e = .returned (Value.tuple #[v0, Value.bool r.2]) ∧ St Ha wa H' w' [.row 3 1 v0 n0 c0] ∧ Els (up wa.heap.size H') eI 1 c0 r.1
set_option maxHeartbeats 4000000 in
theorem w_impl_clause {Ha : GH} {wa : World} (hs : Sl Ha wa) (v0 : Value) (a0 : List Int) (p0 : RSl Ha eI 1 v0 a0) {r : ((List Int) × Bool)} (hp : (PF.impl_clause a0) = some r) :
  Calls Tryz.prog 102 #[v0] wa (p_impl_clause Ha wa r) := by
 unfold PF.impl_clause at hp
 have S0 := St.init hs
 refine calls_go (N := 30) (args := [v0]) Tryz.func102 rfl rfl rfl ?_
 refine FW.seq (FW.region ?_)
 refine FL.v (E.assign (v := Value.slice none 0 0) rfl) ?_
 refine FL.v (E.assign (v := Value.bool false) rfl) ?_
 refine FL.nil (FW.seq (FW.region ?_))
 refine FL.v (E.move (v := v0) rfl) ?_
 obtain ⟨r21, hr22, hp⟩ := bnd hp
 refine FL.call rfl rfl rfl (E.call Tryz.call112 (A1 rfl)) (w_slices_Clone_int_int S0.sl v0 a0 p0 hr22) ?_
 rintro e w24 ⟨H23, v27, n28, cs29, rfl, r26, els30⟩
 refine ⟨_, rfl, ?_⟩
 have els30 := els30.mono (up_le S0.size)
 have S25 := S0.join (l' := [.row 3 1 v27 n28 cs29]) r26 rfl
 refine FL.v (E.assign (v := v27) rfl) ?_
 refine FL.nil (FW.seq (FW.region ?_))
 refine FL.v (E.move (v := v27) rfl) ?_
 obtain ⟨r31, hr32, hp⟩ := bnd hp
 refine FL.call rfl rfl rfl (E.call Tryz.call113 (A2 rfl rfl)) (w_slices_SortFunc_int_int (L := []) S25 r21 els30 (Value.func (.func 114) #[] #[]) (fun x0 x1 => PF.impl_compareLiterals x0 x1) (fun H2 w2 hi2 hs2 x0 x1 r hr => ⟨114, #[], rfl, Tryz.call114, w_impl_compareLiterals hs2 x0 x1  hr⟩) hr32) ?_
 rintro e w34 ⟨H33, cs37, rfl, ⟨S35, i36⟩, els38⟩
 refine ⟨_, rfl, ?_⟩
 have S35 : St Ha wa H33 w34 [.row 3 1 v27 n28 cs37] := S35
 refine FL.nil (FW.seq (FW.region ?_))
 refine FL.v (E.move (v := v27) rfl) ?_
 obtain ⟨r39, hr40, hp⟩ := bnd hp
 refine FL.call rfl rfl rfl (E.call Tryz.call115 (A1 rfl)) (w_slices_Compact_int_int (L := []) S35 r31 els38 hr40) ?_
 rintro e w42 ⟨H41, v45, n46, cs47, rfl, ⟨S43, i44⟩, els48⟩
 refine ⟨_, rfl, ?_⟩
 have S43 : St Ha wa H41 w42 [.row 3 1 v45 n46 cs47] := S43
 refine FL.v (E.assign (v := v45) rfl) ?_
 refine FL.nil (FW.seq (FW.seq (FW.region ?_)))
 refine FL.v (E.assign (v := Value.int .i64 1) rfl) ?_
 refine FL.nil ?_
 obtain ⟨q49, hq, hp⟩ := bndR hp
 refine FW.block ?_
 refine FW.mono (FW.iter (S := Int) (X := ((List Int) × Bool)) (fun (s49 : Int) f w => ∃ H : GH, St Ha wa H w [.row 3 1 v45 n46 cs47] ∧ Inc H41 H ∧ f 4 = v45 ∧ f 5 = Value.int .i64 s49) (fun q e f w => match q with | .go s49 => e = Exit.exit 0 ∧ (∃ H : GH, St Ha wa H w [.row 3 1 v45 n46 cs47] ∧ Inc H41 H ∧ f 4 = v45) | .rt x => ((e = Exit.ret) ∧ (fun e f w => (e = Exit.normal ∨ e = Exit.ret) ∧ ∀ a, Fr (δ := []) 30 a f → ∃ v, (results Tryz.f102 a.tmps).run Tryz.prog w = .ok v w ∧ (p_impl_clause Ha wa x) (.returned v) w) e f w)) hq ⟨_, S43, (Inc.rfl _), rfl, rfl⟩ ?_) ?_
 ·
  clear hp hq
  rintro s49 f83 w82 ⟨H79, S80, i81, k84, k85⟩ o108 hp
  refine FW.seq (FW.seq (FW.region ?_))
  refine FL.v (E.move k85) ?_
  refine FL.v (E.move k84) ?_
  refine FL.v (E.lenO te50 rfl S80 (i := 0) rfl els48 (by decide)) ?_
  refine FL.v (E.lss rfl rfl) ?_
  refine FL.nil ?_
  rcases ifB hp with ⟨c86, hp⟩ | ⟨c86, hp⟩
  ·
   refine FW.condT rfl c86 ?_
   refine FW.skip (FW.seq (FW.block (FW.seq ?_)))
   refine FW.draw (fun w' => Run w82.heap.size H79 w82 H79 w') (by kernel_rfl) (by kernel_rfl) (run_drew S80.sl) ?_
   refine FD.val rfl rfl rfl (fun w' hw' => (E.move k84)) ?_
   refine FD.val rfl rfl rfl (fun w' hw' => (E.move k85)) ?_
   obtain ⟨x94, hx95, hp⟩ := bnd hp
   obtain ⟨p88, cs89, pt90, l91, at92, rel93⟩ := S80.row_at (i := 0) rfl els48 (by decide) hx95
   obtain rfl := eI_open rel93
   refine FD.val rfl rfl rfl (fun w' hw' => (E.indexAddr te50 rfl rfl pt90)) ?_
   refine FD.val rfl rfl rfl (fun w' hw' => (E.load rfl (run_load0 Tryz.isAgg3 (at92.cls hw') rfl))) ?_
   refine FD.val rfl rfl rfl (fun w' hw' => (E.move k84)) ?_
   refine FD.val rfl rfl rfl (fun w' hw' => (E.move k85)) ?_
   refine FD.val rfl rfl rfl (fun w' hw' => (E.sub rfl rfl)) ?_
   obtain ⟨x102, hx103, hp⟩ := bnd hp
   obtain ⟨p96, cs97, pt98, l99, at100, rel101⟩ := S80.row_at (i := 0) rfl els48 (by decide) hx103
   obtain rfl := eI_open rel101
   refine FD.val rfl rfl rfl (fun w' hw' => (E.indexAddr te50 rfl rfl pt98)) ?_
   refine FD.val rfl rfl rfl (fun w' hw' => (E.load rfl (run_load0 Tryz.isAgg3 (at100.cls hw') rfl))) ?_
   refine FD.val rfl rfl rfl (fun w' hw' => (E.neg rfl)) ?_
   refine FD.val rfl rfl rfl (fun w' hw' => (E.eql rfl rfl)) ?_
   refine FD.nil ?_
   intro w104 r106
   have S105 := S80.call r106
   rcases ifB hp with ⟨c107, hp⟩ | ⟨c107, hp⟩
   ·
    refine FW.condT rfl c107 ?_
    refine FW.seq (FW.region ?_)
    refine FL.v (E.assign (v := Value.slice none 0 0) rfl) ?_
    refine FL.v (E.assign (v := Value.bool false) rfl) ?_
    refine FL.nil ?_
    refine FW.ret ?_
    obtain rfl := Option.some.inj hp
    exact ⟨nofun, rfl, ⟨.inr rfl, res2 rfl rfl rfl ⟨_, _, _, _, rfl, ((S105.nil 3 1).sel [0] (by decide) rfl), Els.nil⟩⟩⟩
   ·
    refine FW.condF rfl c107 ?_
    refine FW.skip (FW.region ?_)
    refine FL.v (E.move k85) ?_
    refine FL.v (E.add rfl rfl) ?_
    refine FL.v (E.assign (v := Value.int .i64 (wr (s49 + 1))) rfl) ?_
    refine FL.nil ?_
    obtain rfl := Option.some.inj hp
    exact ⟨rfl, ⟨_, S105, i81, k84, rfl⟩⟩
  ·
   refine FW.condF rfl c86 ?_
   refine FW.exit ?_
   obtain rfl := Option.some.inj hp
   exact ⟨nofun, rfl, ⟨_, S80, i81, k84⟩⟩
 ·
  clear hq
  intro e f113 w112 hD
  rcases q49 with s49 | x49
  ·
   obtain ⟨rfl, hD⟩ := hD
   obtain ⟨H109, S110, i111, k114⟩ := hD
   replace hp := el_go hp
   refine FW.seq (FW.region ?_)
   refine FL.v (E.move k114) ?_
   refine FL.v (E.assign (v := v45) rfl) ?_
   refine FL.v (E.assign (v := Value.bool true) rfl) ?_
   refine FL.nil ?_
   refine FW.ret ?_
   obtain rfl := Option.some.inj hp
   exact ⟨.inr rfl, res2 rfl rfl rfl ⟨_, _, _, _, rfl, S110, (els48.mono (up_mono i111))⟩⟩
  ·
   obtain ⟨he, hL⟩ := hD
   replace hp := el_rt hp
   obtain rfl := Option.some.inj hp
   subst he
   exact hL

@[reducible] def p_impl_resolve (Ha : GH) (wa : World) (r : ((List Int) × Bool)) : Ending → World → Prop :=
 fun e w' => ∃ H' : GH, ∃ v0 : Value, ∃ n0 : Nat, ∃ c0 : List Value, e = .returned (Value.tuple #[v0, Value.bool r.2]) ∧ St Ha wa H' w' [.row 3 1 v0 n0 c0] ∧ Els (up wa.heap.size H') eI 1 c0 r.1
set_option maxHeartbeats 4000000 in
theorem w_impl_resolve {Ha : GH} {wa : World} (hs : Sl Ha wa) (v0 : Value) (a0 : List Int) (p0 : RSl Ha eI 1 v0 a0) (v1 : Value) (a1 : List Int) (p1 : RSl Ha eI 1 v1 a1) (a2 : Int) {r : ((List Int) × Bool)} (hp : (PF.impl_resolve a0 a1 a2) = some r) :
  Calls Tryz.prog 90 #[v0, v1, Value.int .i64 a2] wa (p_impl_resolve Ha wa r) := by
 unfold PF.impl_resolve at hp
 have S0 := St.init hs
 refine calls_go (N := 30) (args := [v0, v1, Value.int .i64 a2]) Tryz.func90 rfl rfl rfl ?_
 refine FW.seq (FW.region ?_)
 refine FL.v (E.assign (v := Value.slice none 0 0) rfl) ?_
 refine FL.v (E.assign (v := Value.bool false) rfl) ?_
 refine FL.nil (FW.seq (FW.seq (FW.region ?_)))
 refine FL.v (E.move (v := v0) rfl) ?_
 refine FL.v (E.move (v := Value.int .i64 a2) rfl) ?_
 obtain ⟨r21, hr22, hp⟩ := bnd hp
 refine FL.call rfl rfl rfl (E.call Tryz.call101 (A2 rfl rfl)) (w_slices_Contains_int_int S0.sl v0 a0 p0 a2 hr22) ?_
 rintro e w23 ⟨rfl, r24⟩
 refine ⟨_, rfl, ?_⟩
 have S25 := S0.call r24
 refine FL.v (E.not rfl) ?_
 refine FL.v (E.move (v := Value.bool (!r21)) rfl) ?_
 obtain ⟨t31, hqt31, hp⟩ := bnd hp
 refine FL.cut 6 (fun f w => ∃ H : GH, St Ha wa H w [] ∧ Inc Ha H ∧ f 0 = v0 ∧ f 1 = v1 ∧ f 2 = Value.int .i64 a2 ∧ f 18 = Value.bool t31) ?_ ?_
 ·
  clear hp; have hp := hqt31; clear hqt31
  rcases ifB hp with ⟨c37, hp⟩ | ⟨c37, hp⟩
  ·
   refine FL.skip (wF_no rfl rfl rfl c37) rfl ?_
   refine FL.skip (wF_no rfl rfl rfl c37) rfl ?_
   refine FL.skip (wF_no rfl rfl rfl c37) rfl ?_
   refine FL.skip (wF_no rfl rfl rfl c37) rfl ?_
   refine FL.skip (wF_no rfl rfl rfl c37) rfl ?_
   obtain rfl := Option.some.inj hp
   refine FL.v (E.pickT rfl c37 rfl) ?_
   exact FL.nil ⟨rfl, _, S25, (Inc.rfl _), rfl, rfl, rfl, rfl⟩
  ·
   refine FL.val (wF_yes rfl rfl rfl c37) rfl rfl (E.move (v := v1) rfl) ?_
   refine FL.val (wF_yes rfl rfl rfl c37) rfl rfl (E.move (v := Value.int .i64 a2) rfl) ?_
   refine FL.val (wF_yes rfl rfl rfl c37) rfl rfl (E.neg rfl) ?_
   obtain ⟨r38, hr39, hp⟩ := bnd hp
   refine FL.call (wF_yes rfl rfl rfl c37) rfl rfl (E.call Tryz.call101 (A2 rfl rfl)) (w_slices_Contains_int_int S25.sl v1 a1 p1 (wr (-a2)) hr39) ?_
   rintro e w40 ⟨rfl, r41⟩
   refine ⟨_, rfl, ?_⟩
   have S42 := S25.call r41
   refine FL.val (wF_yes rfl rfl rfl c37) rfl rfl (E.not rfl) ?_
   obtain rfl := Option.some.inj hp
   refine FL.v (E.pickF rfl c37 rfl) ?_
   exact FL.nil ⟨rfl, _, S42, (Inc.rfl _), rfl, rfl, rfl, rfl⟩
 rintro f36 w35 ⟨H32, S33, i34, k43, k44, k45, k46⟩
 refine FL.nil ?_
 rcases ifB hp with ⟨c47, hp⟩ | ⟨c47, hp⟩
 ·
  refine FW.condT k46 c47 ?_
  refine FW.seq (FW.region ?_)
  refine FL.v (E.assign (v := Value.slice none 0 0) rfl) ?_
  refine FL.v (E.assign (v := Value.bool false) rfl) ?_
  refine FL.nil ?_
  refine FW.ret ?_
  obtain rfl := Option.some.inj hp
  exact ⟨.inr rfl, res2 rfl rfl rfl ⟨_, _, _, _, rfl, (S33.nil 3 1), Els.nil⟩⟩
 ·
  refine FW.condF k46 c47 ?_
  refine FW.skip (FW.seq (FW.region ?_))
  refine FL.v (E.move k43) ?_
  refine FL.v (E.move k45) ?_
  obtain ⟨r48, hr49, hp⟩ := bnd hp
  refine FL.call rfl rfl rfl (E.call Tryz.call104 (A2 rfl rfl)) (w_impl_withoutVar S33.sl v0 a0 (p0.mono i34) a2 hr49) ?_
  rintro e w51 ⟨H50, v54, n55, cs56, rfl, r53, els57⟩
  refine ⟨_, rfl, ?_⟩
  have els57 := els57.mono (up_le S33.size)
  have S52 := S33.join (l' := [.row 3 1 v54 n55 cs56]) r53 rfl
  refine FL.v (E.move k44) ?_
  refine FL.v (E.move k45) ?_
  obtain ⟨r58, hr59, hp⟩ := bnd hp
  refine FL.call rfl rfl rfl (E.call Tryz.call104 (A2 rfl rfl)) (w_impl_withoutVar S52.sl v1 a1 (p1.mono (i34.tr r53.run.inc)) a2 hr59) ?_
  rintro e w61 ⟨H60, v64, n65, cs66, rfl, r63, els67⟩
  refine ⟨_, rfl, ?_⟩
  have els67 := els67.mono (up_le S52.size)
  have S62 := S52.join (l' := [.row 3 1 v64 n65 cs66, .row 3 1 v54 n55 cs56]) r63 rfl
  obtain ⟨H68, S69, i70, h71, nv72⟩ := S62.sealRowU (i := 1) (l' := [.row 3 1 v64 n65 cs66]) rfl (els57.mono (up_mono r63.run.inc)) (by decide) rfl
  obtain ⟨H73, S74, i75, h76, nv77⟩ := S69.sealRowU (i := 0) (l' := []) rfl (els67.mono (up_mono i70)) (by decide) rfl
  obtain ⟨v78, w79, run80, S81⟩ := S74.buildSlice (P := Tryz.prog) te23 [v54, v64] (parts := #[(0, v54), (1, v64)]) (cells := [v54, v64]) rfl (szs_cons (cells_size h71.cells) (szs_cons (cells_size h76.cells) szs_nil)) (fc_cons h71.cells (fc_cons h76.cells fc_nil)) (ones_cons h71.one (ones_cons h76.one ones_nil)) (Nat.le_of_ble_eq_true rfl)
  have els82 : Els (up wa.heap.size H73) (eL eI 1) 1 [v54, v64] [r48, r58] := (Els.snoc (H := (up wa.heap.size H73)) (E := (eL eI 1)) (k := 1) (c := [v64]) (x := r58) (Els.snoc (H := (up wa.heap.size H73)) (E := (eL eI 1)) (k := 1) (c := [v54]) (x := r48) Els.nil rfl ⟨_, rfl, (h71.mono (up_mono i75))⟩) rfl ⟨_, rfl, h76⟩)
  have nd83 : (bl [v54, v64]).Nodup := by exact nd_two (New.apart (h71.mono (up_mono (Inc.rfl _))) nv77)
  have nv84 : New H60 [v54, v64] := by exact (New.two nv72 (nv77.anti i70))
  refine FL.v (E.buildSlice (B2 rfl rfl) run80) ?_
  obtain ⟨H85, S86, i87, ns90, nv89⟩ := S81.sealRowN (i := 0) (l' := []) rfl els82 nd83 (by decide) rfl
  have h88 := ns90.rsl
  obtain ⟨r91, hr92, hp⟩ := bnd hp
  refine FL.call rfl rfl rfl (E.call Tryz.call103 (A1 rfl)) (w_slices_Concat_int_int S86.sl v78 [r48, r58] (h88.mono upI) hr92) ?_
  rintro e w94 ⟨H93, v99, n100, cs101, rfl, r96, els102⟩
  refine ⟨_, rfl, ?_⟩
  obtain ⟨H97, r96, hU98⟩ := St.lendX i87 S81.sl r96
  have els102 := els102.mono (hU98.tr (up_le S81.size))
  have S95 := S81.join (l' := [.row 3 1 v99 n100 cs101, .row 50 1 v78 2 [v54, v64]]) r96 rfl
  obtain ⟨H103, S104, i105, h106, nv107⟩ := S95.sealRowU (i := 0) (l' := [.row 50 1 v78 2 [v54, v64]]) rfl els102 (by decide) rfl
  obtain ⟨r108, hr109, hp⟩ := bnd hp
  refine FL.call rfl rfl rfl (E.call Tryz.call102 (A1 rfl)) (w_impl_clause S104.sl v99 r91 (h106.mono upI) hr109) ?_
  rintro e w111 ⟨H110, v116, n117, cs118, rfl, r113, els119⟩
  refine ⟨_, rfl, ?_⟩
  obtain ⟨H114, r113, hU115⟩ := St.lendX i105 S95.sl r113
  have els119 := els119.mono (hU115.tr (up_le S95.size))
  have S112 := S95.join (l' := [.row 3 1 v116 n117 cs118, .row 3 1 v99 n100 cs101, .row 50 1 v78 2 [v54, v64]]) r113 rfl
  refine FL.v (E.extract (i := 0) rfl rfl) ?_
  refine FL.v (E.extract (i := 1) rfl rfl) ?_
  refine FL.v (E.assign (v := v116) rfl) ?_
  refine FL.v (E.assign (v := Value.bool r108.2) rfl) ?_
  refine FL.nil ?_
  refine FW.ret ?_
  obtain rfl := Option.some.inj hp
  exact ⟨.inr rfl, res2 rfl rfl rfl ⟨_, _, _, _, rfl, (S112.sel [0] (by decide) rfl), els119⟩⟩

set_option maxHeartbeats 4000000 in
theorem w_impl_correct {Ha : GH} {wa : World} (hs : Sl Ha wa) (a0 : Cnf) (v0_1 : Value) (p0_1 : RSl Ha (eL eI 1) 1 v0_1 a0.clauses) (v1 : Value) (a1 : List ResStep) (p1 : RSl Ha eResStep 4 v1 a1) (a2 : Int) {r : Bool} (hp : (PF.impl_correct a0 a1 a2) = some r) :
  Calls Tryz.prog 69 #[Value.agg #[Value.int .i64 a0.vars, v0_1], v1, Value.int .i64 a2] wa (Sc Ha wa (Value.bool r)) := by
 unfold PF.impl_correct at hp
 have S0 := St.init hs
 refine calls_go (N := 105) (args := [Value.agg #[Value.int .i64 a0.vars, v0_1], v1, Value.int .i64 a2]) Tryz.func69 rfl rfl rfl ?_
 refine FW.seq (FW.region ?_)
 obtain ⟨b21, w22, run23, S24⟩ := S0.box (P := Tryz.prog) 34 [Value.int .i64 a0.vars, v0_1] (v := Value.agg #[Value.int .i64 a0.vars, v0_1]) rfl (ones_cons rfl (ones_cons p0_1.one ones_nil))
 refine FL.v (E.box rfl run23) ?_
 obtain ⟨H25, S26, i27, at28⟩ := S24.sealBox (i := 0) (l' := []) rfl rfl
 refine FL.v (E.assign (v := Value.bool false) rfl) ?_
 refine FL.nil (FW.seq (FW.region ?_))
 refine FL.v (E.move (v := v1) rfl) ?_
 refine FL.v (E.move (v := Value.int .i64 a2) rfl) ?_
 obtain ⟨x35, hx36, hp⟩ := bnd hp
 obtain ⟨p29, cs30, pt31, l32, at33, rel34⟩ := p1.at hx36
 obtain ⟨v37, rfl, h38⟩ := eResStep_open rel34
 refine FL.v (E.indexAddr te36 rfl rfl pt31) ?_
 refine FL.v (E.load rfl (run_loadA Tryz.isAgg60 Tryz.sizeOf60 ((at33.mono i27).now S26.sl) rfl)) ?_
 obtain ⟨b39, w40, run41, S42⟩ := S26.alloc (P := Tryz.prog) 60 [Value.slice none 0 0, Value.int .i64 0, Value.int .i64 0, Value.int .i64 0] Tryz.zeroValue60 rfl (ones_cons rfl (ones_cons rfl (ones_cons rfl (ones_cons rfl ones_nil))))
 refine FL.v (E.alloc run41) ?_
 obtain ⟨w43, run44, S45⟩ := S42.store0 (P := Tryz.prog) (t := 60) (i := 0) (cs' := [v37, Value.int .i64 x35.left, Value.int .i64 x35.right, Value.int .i64 x35.pivot]) (l' := [.box b39 60 [v37, Value.int .i64 x35.left, Value.int .i64 x35.right, Value.int .i64 x35.pivot]]) (v := Value.agg #[v37, Value.int .i64 x35.left, Value.int .i64 x35.right, Value.int .i64 x35.pivot]) (c := [v37, Value.int .i64 x35.left, Value.int .i64 x35.right, Value.int .i64 x35.pivot]) rfl Tryz.sizeOf60 rfl rfl (ones_cons h38.one (ones_cons rfl (ones_cons rfl (ones_cons rfl ones_nil)))) (Nat.le_of_ble_eq_true rfl) rfl rfl
 refine FL.act rfl rfl (E.store rfl rfl run44) ?_
 obtain ⟨H46, S47, i48, at49⟩ := S45.sealBox (i := 0) (l' := []) rfl rfl
 refine FL.nil (FW.seq (FW.seq (FW.region ?_)))
 refine FL.v (E.fieldAddr tf34_0 rfl) ?_
 refine FL.v (E.load rfl (run_load1 Tryz.isAgg3 ((at28.mono i48).now S47.sl) rfl)) ?_
 refine FL.v (E.fieldAddr tf60_0 rfl) ?_
 refine FL.v (E.load rfl (run_load1 Tryz.isAgg50 (at49.now S47.sl) rfl)) ?_
 obtain ⟨r50, hr51, hp⟩ := bnd hp
 refine FL.call rfl rfl rfl (E.call Tryz.call67 (A2 rfl rfl)) (w_impl_IsClause S47.sl a0.vars v37 x35.clause (h38.mono (i27.tr i48)) hr51) ?_
 rintro e w52 ⟨rfl, r53⟩
 refine ⟨_, rfl, ?_⟩
 have S54 := S47.call r53
 refine FL.v (E.not rfl) ?_
 refine FL.nil ?_
 rcases ifB hp with ⟨c55, hp⟩ | ⟨c55, hp⟩
 ·
  refine FW.condT rfl c55 ?_
  refine FW.seq (FW.region ?_)
  refine FL.v (E.assign (v := Value.bool false) rfl) ?_
  refine FL.nil ?_
  refine FW.ret ?_
  obtain rfl := Option.some.inj hp
  exact ⟨.inr rfl, res1 rfl rfl ⟨rfl, S54.back⟩⟩
 ·
  refine FW.condF rfl c55 ?_
  refine FW.skip (FW.seq (FW.seq (FW.region ?_)))
  refine FL.v (E.fieldAddr tf60_1 rfl) ?_
  refine FL.v (E.load rfl (run_load1 Tryz.isAgg3 (at49.now S54.sl) rfl)) ?_
  refine FL.v (E.eql rfl rfl) ?_
  refine FL.nil ?_
  rcases ifB hp with ⟨c56, hp⟩ | ⟨c56, hp⟩
  ·
   refine FW.condT rfl c56 ?_
   refine FW.seq ?_
   refine FW.draw (fun w' => Run w52.heap.size H46 w52 H46 w') (by kernel_rfl) (by kernel_rfl) (run_drew S54.sl) ?_
   refine FD.val rfl rfl rfl (fun w' hw' => (E.fieldAddr tf60_3 rfl)) ?_
   refine FD.val rfl rfl rfl (fun w' hw' => (E.load rfl (run_load1 Tryz.isAgg3 (at49.now (S54.call hw').sl) rfl))) ?_
   refine FD.val rfl rfl rfl (fun w' hw' => (E.eql rfl rfl)) ?_
   refine FD.val rfl rfl rfl (fun w' hw' => (E.move (v := Value.bool (x35.pivot == 0)) rfl)) ?_
   refine FD.cut 8 (fun f => f 3 = Value.pointer (some ⟨b21, 0, none⟩) ∧ f 7 = Value.pointer (some ⟨b39, 0, none⟩) ∧ f 36 = Value.bool (bif (x35.pivot == 0) then (PF.impl_within x35.right 0 (wr ((len a0.clauses) - 1))) else false)) ?_ ?_
   ·
    rcases bcase (x35.pivot == 0) with c64 | c64
    ·
     refine FD.val (wF_yes rfl rfl rfl c64) rfl rfl (fun w' hw' => (E.fieldAddr tf60_2 rfl)) ?_
     refine FD.val (wF_yes rfl rfl rfl c64) rfl rfl (fun w' hw' => (E.load rfl (run_load1 Tryz.isAgg3 (at49.now (S54.call hw').sl) rfl))) ?_
     refine FD.val (wF_yes rfl rfl rfl c64) rfl rfl (fun w' hw' => (E.fieldAddr tf34_1 rfl)) ?_
     refine FD.val (wF_yes rfl rfl rfl c64) rfl rfl (fun w' hw' => (E.load rfl (run_load1 Tryz.isAgg23 ((at28.mono i48).now (S54.call hw').sl) rfl))) ?_
     refine FD.val (wF_yes rfl rfl rfl c64) rfl rfl (fun w' hw' => (E.lenP te23 rfl p0_1)) ?_
     refine FD.val (wF_yes rfl rfl rfl c64) rfl rfl (fun w' hw' => (E.sub rfl rfl)) ?_
     refine FD.call (wF_yes rfl rfl rfl c64) rfl rfl (fun w' hw' => (E.call Tryz.call72 (A3 rfl rfl rfl))) (fun w' hw' => Calls.cls hw' (w_impl_within (S54.call hw').sl x35.right 0 (wr ((len a0.clauses) - 1)))) ?_
     refine FD.val rfl rfl rfl (fun w' hw' => (E.pickT rfl c64 rfl)) ?_
     exact FD.nil ⟨rfl, rfl, (congrArg Value.bool (bifT c64).symm)⟩
    ·
     refine FD.skip (wF_no rfl rfl rfl c64) rfl ?_
     refine FD.skip (wF_no rfl rfl rfl c64) rfl ?_
     refine FD.skip (wF_no rfl rfl rfl c64) rfl ?_
     refine FD.skip (wF_no rfl rfl rfl c64) rfl ?_
     refine FD.skip (wF_no rfl rfl rfl c64) rfl ?_
     refine FD.skip (wF_no rfl rfl rfl c64) rfl ?_
     refine FD.skip (wF_no rfl rfl rfl c64) rfl ?_
     refine FD.val rfl rfl rfl (fun w' hw' => (E.pickF rfl c64 rfl)) ?_
     exact FD.nil ⟨rfl, rfl, (congrArg Value.bool (bifF c64).symm)⟩
   rintro f63 ⟨k65, k66, k67⟩
   refine FD.val rfl rfl rfl (fun w' hw' => (E.move k67)) ?_
   obtain ⟨t80, hqt80, hp⟩ := bnd hp
   refine FD.cut 10 (fun f => f 47 = Value.bool t80) ?_ ?_
   ·
    clear hp; have hp := hqt80; clear hqt80
    rcases ifB hp with ⟨c86, hp⟩ | ⟨c86, hp⟩
    ·
     refine FD.val (wF_yes rfl rfl rfl c86) rfl rfl (fun w' hw' => (E.fieldAddr tf34_1 k65)) ?_
     refine FD.val (wF_yes rfl rfl rfl c86) rfl rfl (fun w' hw' => (E.load rfl (run_load1 Tryz.isAgg23 ((at28.mono i48).now (S54.call hw').sl) rfl))) ?_
     refine FD.val (wF_yes rfl rfl rfl c86) rfl rfl (fun w' hw' => (E.fieldAddr tf60_2 k66)) ?_
     refine FD.val (wF_yes rfl rfl rfl c86) rfl rfl (fun w' hw' => (E.load rfl (run_load1 Tryz.isAgg3 (at49.now (S54.call hw').sl) rfl))) ?_
     obtain ⟨x93, hx94, hp⟩ := bnd hp
     obtain ⟨p87, cs88, pt89, l90, at91, rel92⟩ := p0_1.at hx94
     obtain ⟨v95, rfl, h96⟩ := eL_open rel92
     refine FD.val (wF_yes rfl rfl rfl c86) rfl rfl (fun w' hw' => (E.indexAddr te23 rfl rfl pt89)) ?_
     refine FD.val (wF_yes rfl rfl rfl c86) rfl rfl (fun w' hw' => (E.load rfl (run_load0 Tryz.isAgg50 ((at91.mono (i27.tr i48)).now (S54.call hw').sl) rfl))) ?_
     refine FD.val (wF_yes rfl rfl rfl c86) rfl rfl (fun w' hw' => (E.fieldAddr tf60_0 k66)) ?_
     refine FD.val (wF_yes rfl rfl rfl c86) rfl rfl (fun w' hw' => (E.load rfl (run_load1 Tryz.isAgg50 (at49.now (S54.call hw').sl) rfl))) ?_
     obtain ⟨r97, hr98, hp⟩ := bnd hp
     refine FD.call (wF_yes rfl rfl rfl c86) rfl rfl (fun w' hw' => (E.call Tryz.call86 (A2 rfl rfl))) (fun w' hw' => Calls.cls hw' (w_slices_Equal_int_int (S54.call hw').sl v95 x93 (h96.mono (i27.tr i48)) v37 x35.clause (h38.mono (i27.tr i48)) hr98)) ?_
     obtain rfl := Option.some.inj hp
     refine FD.val rfl rfl rfl (fun w' hw' => (E.pickT rfl c86 rfl)) ?_
     exact FD.nil rfl
    ·
     refine FD.skip (wF_no rfl rfl rfl c86) rfl ?_
     refine FD.skip (wF_no rfl rfl rfl c86) rfl ?_
     refine FD.skip (wF_no rfl rfl rfl c86) rfl ?_
     refine FD.skip (wF_no rfl rfl rfl c86) rfl ?_
     refine FD.skip (wF_no rfl rfl rfl c86) rfl ?_
     refine FD.skip (wF_no rfl rfl rfl c86) rfl ?_
     refine FD.skip (wF_no rfl rfl rfl c86) rfl ?_
     refine FD.skip (wF_no rfl rfl rfl c86) rfl ?_
     refine FD.skip (wF_no rfl rfl rfl c86) rfl ?_
     obtain rfl := Option.some.inj hp
     refine FD.val rfl rfl rfl (fun w' hw' => (E.pickF rfl c86 rfl)) ?_
     exact FD.nil rfl
   intro f85 k99
   refine FD.val rfl rfl rfl (fun w' hw' => (E.assign k99)) ?_
   refine FD.nil ?_
   intro w100 r102
   have S101 := S54.call r102
   refine FW.ret ?_
   obtain rfl := Option.some.inj hp
   exact ⟨.inr rfl, res1 rfl rfl ⟨rfl, S101.back⟩⟩
  ·
   refine FW.condF rfl c56 ?_
   refine FW.skip (FW.seq (FW.region ?_))
   refine FL.v (E.load rfl (run_loadA Tryz.isAgg34 Tryz.sizeOf34 ((at28.mono i48).now S54.sl) rfl)) ?_
   refine FL.v (E.move (v := v1) rfl) ?_
   refine FL.v (E.move (v := Value.int .i64 a2) rfl) ?_
   refine FL.v (E.fieldAddr tf60_1 rfl) ?_
   refine FL.v (E.load rfl (run_load1 Tryz.isAgg3 (at49.now S54.sl) rfl)) ?_
   obtain ⟨r103, hr104, hp⟩ := bnd hp
   refine FL.call rfl rfl rfl (E.call Tryz.call87 (A4 rfl rfl rfl rfl)) (w_impl_earlier S54.sl a0 v0_1 (p0_1.mono (i27.tr i48)) v1 a1 (p1.mono (i27.tr i48)) a2 x35.left hr104) ?_
   rintro e w106 ⟨H105, v109, rfl, r108, h110⟩
   refine ⟨_, rfl, ?_⟩
   have S107 := S54.call r108
   refine FL.v (E.move (v := Value.tuple #[v109, Value.bool r103.2]) rfl) ?_
   refine FL.v (E.extract (i := 0) rfl rfl) ?_
   refine FL.v (E.extract (i := 1) rfl rfl) ?_
   refine FL.v (E.assign (v := v109) rfl) ?_
   refine FL.v (E.assign (v := Value.bool r103.2) rfl) ?_
   refine FL.nil (FW.seq (FW.seq (FW.region ?_)))
   refine FL.v (E.move (v := Value.bool r103.2) rfl) ?_
   refine FL.v (E.not rfl) ?_
   refine FL.nil ?_
   rcases ifB hp with ⟨c111, hp⟩ | ⟨c111, hp⟩
   ·
    refine FW.condT rfl c111 ?_
    refine FW.seq (FW.region ?_)
    refine FL.v (E.assign (v := Value.bool false) rfl) ?_
    refine FL.nil ?_
    refine FW.ret ?_
    obtain rfl := Option.some.inj hp
    exact ⟨.inr rfl, res1 rfl rfl ⟨rfl, S107.back⟩⟩
   ·
    refine FW.condF rfl c111 ?_
    refine FW.skip (FW.seq (FW.seq (FW.region ?_)))
    refine FL.v (E.fieldAddr tf60_2 rfl) ?_
    refine FL.v (E.load rfl (run_load1 Tryz.isAgg3 ((at49.mono r108.inc).now S107.sl) rfl)) ?_
    refine FL.v (E.eql rfl rfl) ?_
    refine FL.nil ?_
    rcases ifB hp with ⟨c112, hp⟩ | ⟨c112, hp⟩
    ·
     refine FW.condT rfl c112 ?_
     refine FW.seq (FW.region ?_)
     refine FL.v (E.fieldAddr tf60_3 rfl) ?_
     refine FL.v (E.load rfl (run_load1 Tryz.isAgg3 ((at49.mono r108.inc).now S107.sl) rfl)) ?_
     refine FL.v (E.eql rfl rfl) ?_
     refine FL.v (E.move (v := Value.bool (x35.pivot == 0)) rfl) ?_
     obtain ⟨t118, hqt118, hp⟩ := bnd hp
     refine FL.cut 5 (fun f w => ∃ H : GH, St Ha wa H w [] ∧ Inc H105 H ∧ f 70 = Value.bool t118) ?_ ?_
     ·
      clear hp; have hp := hqt118; clear hqt118
      rcases ifB hp with ⟨c124, hp⟩ | ⟨c124, hp⟩
      ·
       refine FL.val (wF_yes rfl rfl rfl c124) rfl rfl (E.move (v := v109) rfl) ?_
       refine FL.val (wF_yes rfl rfl rfl c124) rfl rfl (E.fieldAddr tf60_0 rfl) ?_
       refine FL.val (wF_yes rfl rfl rfl c124) rfl rfl (E.load rfl (run_load1 Tryz.isAgg50 ((at49.mono r108.inc).now S107.sl) rfl)) ?_
       obtain ⟨r125, hr126, hp⟩ := bnd hp
       refine FL.call (wF_yes rfl rfl rfl c124) rfl rfl (E.call Tryz.call88 (A2 rfl rfl)) (w_impl_part S107.sl v109 r103.1 h110 v37 x35.clause (h38.mono ((i27.tr i48).tr r108.inc)) hr126) ?_
       rintro e w127 ⟨rfl, r128⟩
       refine ⟨_, rfl, ?_⟩
       have S129 := S107.call r128
       obtain rfl := Option.some.inj hp
       refine FL.v (E.pickT rfl c124 rfl) ?_
       exact FL.nil ⟨rfl, _, S129, (Inc.rfl _), rfl⟩
      ·
       refine FL.skip (wF_no rfl rfl rfl c124) rfl ?_
       refine FL.skip (wF_no rfl rfl rfl c124) rfl ?_
       refine FL.skip (wF_no rfl rfl rfl c124) rfl ?_
       refine FL.skip (wF_no rfl rfl rfl c124) rfl ?_
       obtain rfl := Option.some.inj hp
       refine FL.v (E.pickF rfl c124 rfl) ?_
       exact FL.nil ⟨rfl, _, S107, (Inc.rfl _), rfl⟩
     rintro f123 w122 ⟨H119, S120, i121, k130⟩
     refine FL.v (E.assign k130) ?_
     refine FL.nil ?_
     refine FW.ret ?_
     obtain rfl := Option.some.inj hp
     exact ⟨.inr rfl, res1 rfl rfl ⟨rfl, S120.back⟩⟩
    ·
     refine FW.condF rfl c112 ?_
     refine FW.skip (FW.seq (FW.region ?_))
     refine FL.v (E.load rfl (run_loadA Tryz.isAgg34 Tryz.sizeOf34 ((at28.mono (i48.tr r108.inc)).now S107.sl) rfl)) ?_
     refine FL.v (E.move (v := v1) rfl) ?_
     refine FL.v (E.move (v := Value.int .i64 a2) rfl) ?_
     refine FL.v (E.fieldAddr tf60_2 rfl) ?_
     refine FL.v (E.load rfl (run_load1 Tryz.isAgg3 ((at49.mono r108.inc).now S107.sl) rfl)) ?_
     obtain ⟨r131, hr132, hp⟩ := bnd hp
     refine FL.call rfl rfl rfl (E.call Tryz.call87 (A4 rfl rfl rfl rfl)) (w_impl_earlier S107.sl a0 v0_1 (p0_1.mono ((i27.tr i48).tr r108.inc)) v1 a1 (p1.mono ((i27.tr i48).tr r108.inc)) a2 x35.right hr132) ?_
     rintro e w134 ⟨H133, v137, rfl, r136, h138⟩
     refine ⟨_, rfl, ?_⟩
     have S135 := S107.call r136
     refine FL.v (E.move (v := Value.tuple #[v137, Value.bool r131.2]) rfl) ?_
     refine FL.v (E.extract (i := 0) rfl rfl) ?_
     refine FL.v (E.extract (i := 1) rfl rfl) ?_
     refine FL.v (E.assign (v := v137) rfl) ?_
     refine FL.v (E.assign (v := Value.bool r131.2) rfl) ?_
     refine FL.nil (FW.seq (FW.seq (FW.region ?_)))
     refine FL.v (E.move (v := Value.bool r131.2) rfl) ?_
     refine FL.v (E.not rfl) ?_
     refine FL.v (E.move (v := Value.bool (!r131.2)) rfl) ?_
     refine FL.cut 7 (fun f w => ∃ H : GH, St Ha wa H w [] ∧ Inc H133 H ∧ f 7 = Value.pointer (some ⟨b39, 0, none⟩) ∧ f 8 = v109 ∧ f 10 = v137 ∧ f 89 = Value.bool (bif (!r131.2) then true else (!(PF.impl_isVar a0.vars x35.pivot)))) ?_ ?_
     ·
      rcases bcase (!r131.2) with c148 | c148
      ·
       refine FL.skip (wF_no rfl rfl rfl c148) rfl ?_
       refine FL.skip (wF_no rfl rfl rfl c148) rfl ?_
       refine FL.skip (wF_no rfl rfl rfl c148) rfl ?_
       refine FL.skip (wF_no rfl rfl rfl c148) rfl ?_
       refine FL.skip (wF_no rfl rfl rfl c148) rfl ?_
       refine FL.skip (wF_no rfl rfl rfl c148) rfl ?_
       refine FL.v (E.pickT rfl c148 rfl) ?_
       exact FL.nil ⟨rfl, _, S135, (Inc.rfl _), rfl, rfl, rfl, (congrArg Value.bool (bifT c148).symm)⟩
      ·
       refine FL.val (wF_yes rfl rfl rfl c148) rfl rfl (E.fieldAddr tf34_0 rfl) ?_
       refine FL.val (wF_yes rfl rfl rfl c148) rfl rfl (E.load rfl (run_load1 Tryz.isAgg3 ((at28.mono ((i48.tr r108.inc).tr r136.inc)).now S135.sl) rfl)) ?_
       refine FL.val (wF_yes rfl rfl rfl c148) rfl rfl (E.fieldAddr tf60_3 rfl) ?_
       refine FL.val (wF_yes rfl rfl rfl c148) rfl rfl (E.load rfl (run_load1 Tryz.isAgg3 ((at49.mono (r108.inc.tr r136.inc)).now S135.sl) rfl)) ?_
       refine FL.call (wF_yes rfl rfl rfl c148) rfl rfl (E.call Tryz.call89 (A2 rfl rfl)) (w_impl_isVar S135.sl a0.vars x35.pivot) ?_
       rintro e w149 ⟨rfl, r150⟩
       refine ⟨_, rfl, ?_⟩
       have S151 := S135.call r150
       refine FL.val (wF_yes rfl rfl rfl c148) rfl rfl (E.not rfl) ?_
       refine FL.v (E.pickF rfl c148 rfl) ?_
       exact FL.nil ⟨rfl, _, S151, (Inc.rfl _), rfl, rfl, rfl, (congrArg Value.bool (bifF c148).symm)⟩
     rintro f147 w146 ⟨H143, S144, i145, k152, k153, k154, k155⟩
     refine FL.nil ?_
     rcases ifB hp with ⟨c156, hp⟩ | ⟨c156, hp⟩
     ·
      refine FW.condT k155 c156 ?_
      refine FW.seq (FW.region ?_)
      refine FL.v (E.assign (v := Value.bool false) rfl) ?_
      refine FL.nil ?_
      refine FW.ret ?_
      obtain rfl := Option.some.inj hp
      exact ⟨.inr rfl, res1 rfl rfl ⟨rfl, S144.back⟩⟩
     ·
      refine FW.condF k155 c156 ?_
      refine FW.skip (FW.seq (FW.region ?_))
      refine FL.v (E.move k153) ?_
      refine FL.v (E.move k154) ?_
      refine FL.v (E.fieldAddr tf60_3 k152) ?_
      refine FL.v (E.load rfl (run_load1 Tryz.isAgg3 ((at49.mono ((r108.inc.tr r136.inc).tr i145)).now S144.sl) rfl)) ?_
      obtain ⟨r157, hr158, hp⟩ := bnd hp
      refine FL.call rfl rfl rfl (E.call Tryz.call90 (A3 rfl rfl rfl)) (w_impl_resolve S144.sl v109 r103.1 (h110.mono (r136.inc.tr i145)) v137 r131.1 (h138.mono i145) x35.pivot hr158) ?_
      rintro e w160 ⟨H159, v163, n164, cs165, rfl, r162, els166⟩
      refine ⟨_, rfl, ?_⟩
      have els166 := els166.mono (up_le S144.size)
      have S161 := S144.join (l' := [.row 3 1 v163 n164 cs165]) r162 rfl
      refine FL.v (E.move (v := Value.tuple #[v163, Value.bool r157.2]) rfl) ?_
      refine FL.v (E.extract (i := 0) rfl rfl) ?_
      refine FL.v (E.extract (i := 1) rfl rfl) ?_
      refine FL.v (E.assign (v := v163) rfl) ?_
      refine FL.v (E.assign (v := Value.bool r157.2) rfl) ?_
      refine FL.nil (FW.seq (FW.region ?_))
      refine FL.v (E.move (v := Value.bool r157.2) rfl) ?_
      refine FL.v (E.move (v := Value.bool r157.2) rfl) ?_
      obtain ⟨t177, hqt177, hp⟩ := bnd hp
      refine FL.cut 5 (fun f w => ∃ H : GH, St Ha wa H w [.row 3 1 v163 n164 cs165] ∧ Inc H159 H ∧ f 104 = Value.bool t177) ?_ ?_
      ·
       clear hp; have hp := hqt177; clear hqt177
       rcases ifB hp with ⟨c183, hp⟩ | ⟨c183, hp⟩
       ·
        refine FL.val (wF_yes rfl rfl rfl c183) rfl rfl (E.move (v := v163) rfl) ?_
        refine FL.val (wF_yes rfl rfl rfl c183) rfl rfl (E.fieldAddr tf60_0 k152) ?_
        refine FL.val (wF_yes rfl rfl rfl c183) rfl rfl (E.load rfl (run_load1 Tryz.isAgg50 ((at49.mono (((r108.inc.tr r136.inc).tr i145).tr r162.run.inc)).now S161.sl) rfl)) ?_
        obtain ⟨H184, S185, i186, h187, nv188⟩ := S161.sealRowU (i := 0) (l' := []) rfl els166 (by decide) rfl
        obtain ⟨r189, hr190, hp⟩ := bnd hp
        refine FL.call (wF_yes rfl rfl rfl c183) rfl rfl (E.call Tryz.call86 (A2 rfl rfl)) (w_slices_Equal_int_int S185.sl v163 r157.1 (h187.mono upI) v37 x35.clause (h38.mono ((((((i27.tr i48).tr r108.inc).tr r136.inc).tr i145).tr r162.run.inc).tr i186)) hr190) ?_
        rintro e w191 ⟨rfl, r192⟩
        refine ⟨_, rfl, ?_⟩
        have r192 := Run.lend i186 S161.sl r192
        have S193 := S161.call r192
        obtain rfl := Option.some.inj hp
        refine FL.v (E.pickT rfl c183 rfl) ?_
        exact FL.nil ⟨rfl, _, S193, (Inc.rfl _), rfl⟩
       ·
        refine FL.skip (wF_no rfl rfl rfl c183) rfl ?_
        refine FL.skip (wF_no rfl rfl rfl c183) rfl ?_
        refine FL.skip (wF_no rfl rfl rfl c183) rfl ?_
        refine FL.skip (wF_no rfl rfl rfl c183) rfl ?_
        obtain rfl := Option.some.inj hp
        refine FL.v (E.pickF rfl c183 rfl) ?_
        exact FL.nil ⟨rfl, _, S161, (Inc.rfl _), rfl⟩
      rintro f182 w181 ⟨H178, S179, i180, k194⟩
      refine FL.v (E.assign k194) ?_
      refine FL.nil ?_
      refine FW.ret ?_
      obtain rfl := Option.some.inj hp
      exact ⟨.inr rfl, res1 rfl rfl ⟨rfl, S179.back⟩⟩

theorem w_impl_firstWrong {Ha : GH} {wa : World} (hs : Sl Ha wa) (a0 : Cnf) (v0_1 : Value) (p0_1 : RSl Ha (eL eI 1) 1 v0_1 a0.clauses) (v1 : Value) (a1 : List ResStep) (p1 : RSl Ha eResStep 4 v1 a1) {r : Int} (hp : (PF.impl_firstWrong a0 a1) = some r) :
  Calls Tryz.prog 57 #[Value.agg #[Value.int .i64 a0.vars, v0_1], v1] wa (Sc Ha wa (Value.int .i64 r)) := by
 unfold PF.impl_firstWrong at hp
 have S0 := St.init hs
 refine calls_go (N := 18) (args := [Value.agg #[Value.int .i64 a0.vars, v0_1], v1]) Tryz.func57 rfl rfl rfl ?_
 refine FW.seq (FW.region ?_)
 obtain ⟨b21, w22, run23, S24⟩ := S0.box (P := Tryz.prog) 34 [Value.int .i64 a0.vars, v0_1] (v := Value.agg #[Value.int .i64 a0.vars, v0_1]) rfl (ones_cons rfl (ones_cons p0_1.one ones_nil))
 refine FL.v (E.box rfl run23) ?_
 obtain ⟨H25, S26, i27, at28⟩ := S24.sealBox (i := 0) (l' := []) rfl rfl
 refine FL.v (E.assign (v := Value.int .i64 0) rfl) ?_
 refine FL.nil (FW.seq (FW.seq (FW.region ?_)))
 refine FL.v (E.move (v := v1) rfl) ?_
 refine FL.v (E.lenP te36 rfl p1) ?_
 refine FL.v (E.move (v := Value.int .i64 0) rfl) ?_
 refine FL.nil ?_
 obtain ⟨q30, hq, hp⟩ := bndR hp
 refine FW.block ?_
 refine FW.mono (FW.forL (S := Unit) (X := Int) (fun (i30 : Nat) (s30 : Unit) f w => ∃ H : GH, St Ha wa H w [] ∧ Inc H25 H ∧ f 8 = Value.int .i64 ((i30 : Nat) : Int) ∧ f 1 = v1 ∧ f 2 = Value.pointer (some ⟨b21, 0, none⟩) ∧ f 7 = Value.int .i64 (len a1)) (fun q e f w => match q with | .go s30 => e = Exit.exit 0 ∧ (∃ H : GH, St Ha wa H w [] ∧ Inc H25 H) | .rt x => ((e = Exit.ret) ∧ (fun e f w => (e = Exit.normal ∨ e = Exit.ret) ∧ ∀ a, Fr (δ := []) 18 a f → ∃ v, (results Tryz.f57 a.tmps).run Tryz.prog w = .ok v w ∧ (Sc Ha wa (Value.int .i64 x)) (.returned v) w) e f w)) hq ⟨_, S26, (Inc.rfl _), rfl, rfl, rfl, rfl⟩ ?_ ?_) ?_
 ·
  clear hp hq
  rintro i30 y29 s30 f50 w49 ⟨H46, S47, i48, k51, k52, k53, k54⟩ hx30 o61 hp
  refine FW.seq (FW.region ?_)
  refine FL.v (E.lssT k51 k54 (lss_len hx30)) ?_
  refine FL.nil (FW.seq ?_)
  refine FW.condT rfl rfl ?_
  refine FW.skip (FW.seq (FW.block (FW.seq (FW.region ?_))))
  refine FL.v (E.move k51) ?_
  refine FL.v (E.assign (v := Value.int .i64 ((i30 : Nat) : Int)) rfl) ?_
  refine FL.nil (FW.seq (FW.region ?_))
  refine FL.v (E.load k53 (run_loadA Tryz.isAgg34 Tryz.sizeOf34 ((at28.mono i48).now S47.sl) rfl)) ?_
  refine FL.v (E.move k52) ?_
  refine FL.v (E.move (v := Value.int .i64 ((i30 : Nat) : Int)) rfl) ?_
  obtain ⟨r55, hr56, hp⟩ := bnd hp
  refine FL.call rfl rfl rfl (E.call Tryz.call69 (A3 rfl rfl rfl)) (w_impl_correct S47.sl a0 v0_1 (p0_1.mono (i27.tr i48)) v1 a1 (p1.mono (i27.tr i48)) ((i30 : Nat) : Int) hr56) ?_
  rintro e w57 ⟨rfl, r58⟩
  refine ⟨_, rfl, ?_⟩
  have S59 := S47.call r58
  refine FL.v (E.not rfl) ?_
  refine FL.nil ?_
  rcases ifB hp with ⟨c60, hp⟩ | ⟨c60, hp⟩
  ·
   refine FW.condT rfl c60 ?_
   refine FW.seq (FW.region ?_)
   refine FL.v (E.move (v := Value.int .i64 ((i30 : Nat) : Int)) rfl) ?_
   refine FL.v (E.assign (v := Value.int .i64 ((i30 : Nat) : Int)) rfl) ?_
   refine FL.nil ?_
   refine FW.ret ?_
   obtain rfl := Option.some.inj hp
   exact ⟨nofun, rfl, ⟨.inr rfl, res1 rfl rfl ⟨rfl, S59.back⟩⟩⟩
  ·
   refine FW.condF rfl c60 ?_
   refine FW.skip (FW.region ?_)
   refine FL.v (E.add k51 rfl) ?_
   refine FL.v (E.move (v := Value.int .i64 (wr (((i30 : Nat) : Int) + 1))) rfl) ?_
   refine FL.nil ?_
   obtain rfl := Option.some.inj hp
   exact ⟨rfl, ⟨_, S59, i48, (nat_succ rfl (lt_of_get hx30) (p1.mono (i27.tr i48)).le), k52, k53, k54⟩⟩
 ·
  clear hp hq
  rintro s30 f71 w70 ⟨H67, S68, i69, k72, k73, k74, k75⟩
  refine FW.seq (FW.region ?_)
  refine FL.v (E.lss k72 k75) ?_
  refine FL.nil (FW.seq ?_)
  refine FW.condF rfl dlt_len ?_
  refine FW.exit ?_
  exact ⟨nofun, rfl, ⟨_, S68, i69⟩⟩
 ·
  clear hq
  intro e f66 w65 hD
  rcases q30 with s30 | x30
  ·
   obtain ⟨rfl, hD⟩ := hD
   obtain ⟨H62, S63, i64⟩ := hD
   replace hp := el_go hp
   refine FW.seq (FW.region ?_)
   refine FL.v (E.assign (v := Value.int .i64 (-1)) rfl) ?_
   refine FL.nil ?_
   refine FW.ret ?_
   obtain rfl := Option.some.inj hp
   exact ⟨.inr rfl, res1 rfl rfl ⟨rfl, S63.back⟩⟩
  ·
   obtain ⟨he, hL⟩ := hD
   replace hp := el_rt hp
   obtain rfl := Option.some.inj hp
   subst he
   exact hL

theorem w_impl_IsDerivation {Ha : GH} {wa : World} (hs : Sl Ha wa) (a0 : Cnf) (v0_1 : Value) (p0_1 : RSl Ha (eL eI 1) 1 v0_1 a0.clauses) (v1 : Value) (a1 : List ResStep) (p1 : RSl Ha eResStep 4 v1 a1) {r : Bool} (hp : (PF.impl_IsDerivation a0 a1) = some r) :
  Calls Tryz.prog 47 #[Value.agg #[Value.int .i64 a0.vars, v0_1], v1] wa (Sc Ha wa (Value.bool r)) := by
 unfold PF.impl_IsDerivation at hp
 have S0 := St.init hs
 refine calls_go (N := 18) (args := [Value.agg #[Value.int .i64 a0.vars, v0_1], v1]) Tryz.func47 rfl rfl rfl ?_
 refine FW.seq (FW.region ?_)
 obtain ⟨b21, w22, run23, S24⟩ := S0.box (P := Tryz.prog) 34 [Value.int .i64 a0.vars, v0_1] (v := Value.agg #[Value.int .i64 a0.vars, v0_1]) rfl (ones_cons rfl (ones_cons p0_1.one ones_nil))
 refine FL.v (E.box rfl run23) ?_
 obtain ⟨H25, S26, i27, at28⟩ := S24.sealBox (i := 0) (l' := []) rfl rfl
 refine FL.v (E.assign (v := Value.bool false) rfl) ?_
 refine FL.nil (FW.seq (FW.region ?_))
 refine FL.v (E.load rfl (run_loadA Tryz.isAgg34 Tryz.sizeOf34 (at28.now S26.sl) rfl)) ?_
 obtain ⟨r29, hr30, hp⟩ := bnd hp
 refine FL.call rfl rfl rfl (E.call Tryz.call56 (A1 rfl)) (w_impl_IsCnf S26.sl a0 v0_1 (p0_1.mono i27) hr30) ?_
 rintro e w31 ⟨rfl, r32⟩
 refine ⟨_, rfl, ?_⟩
 have S33 := S26.call r32
 refine FL.v (E.move (v := Value.bool r29) rfl) ?_
 refine FL.cut 4 (fun f w => ∃ H : GH, St Ha wa H w [] ∧ Inc H25 H ∧ f 1 = v1 ∧ f 2 = Value.pointer (some ⟨b21, 0, none⟩) ∧ f 11 = Value.bool (bif r29 then (decide ((len a1) ≤ 200)) else false)) ?_ ?_
 ·
  rcases bcase r29 with c40 | c40
  ·
   refine FL.val (wF_yes rfl rfl rfl c40) rfl rfl (E.move (v := v1) rfl) ?_
   refine FL.val (wF_yes rfl rfl rfl c40) rfl rfl (E.lenP te36 rfl p1) ?_
   refine FL.val (wF_yes rfl rfl rfl c40) rfl rfl (E.leq rfl rfl) ?_
   refine FL.v (E.pickT rfl c40 rfl) ?_
   exact FL.nil ⟨rfl, _, S33, (Inc.rfl _), rfl, rfl, (congrArg Value.bool (bifT c40).symm)⟩
  ·
   refine FL.skip (wF_no rfl rfl rfl c40) rfl ?_
   refine FL.skip (wF_no rfl rfl rfl c40) rfl ?_
   refine FL.skip (wF_no rfl rfl rfl c40) rfl ?_
   refine FL.v (E.pickF rfl c40 rfl) ?_
   exact FL.nil ⟨rfl, _, S33, (Inc.rfl _), rfl, rfl, (congrArg Value.bool (bifF c40).symm)⟩
 rintro f39 w38 ⟨H35, S36, i37, k41, k42, k43⟩
 refine FL.v (E.move k43) ?_
 obtain ⟨t49, hqt49, hp⟩ := bnd hp
 refine FL.cut 5 (fun f w => ∃ H : GH, St Ha wa H w [] ∧ Inc H35 H ∧ f 17 = Value.bool t49) ?_ ?_
 ·
  clear hp; have hp := hqt49; clear hqt49
  rcases ifB hp with ⟨c55, hp⟩ | ⟨c55, hp⟩
  ·
   refine FL.val (wF_yes rfl rfl rfl c55) rfl rfl (E.load k42 (run_loadA Tryz.isAgg34 Tryz.sizeOf34 ((at28.mono i37).now S36.sl) rfl)) ?_
   refine FL.val (wF_yes rfl rfl rfl c55) rfl rfl (E.move k41) ?_
   obtain ⟨r56, hr57, hp⟩ := bnd hp
   refine FL.call (wF_yes rfl rfl rfl c55) rfl rfl (E.call Tryz.call57 (A2 rfl rfl)) (w_impl_firstWrong S36.sl a0 v0_1 (p0_1.mono (i27.tr i37)) v1 a1 (p1.mono (i27.tr i37)) hr57) ?_
   rintro e w58 ⟨rfl, r59⟩
   refine ⟨_, rfl, ?_⟩
   have S60 := S36.call r59
   refine FL.val (wF_yes rfl rfl rfl c55) rfl rfl (E.lss rfl rfl) ?_
   obtain rfl := Option.some.inj hp
   refine FL.v (E.pickT rfl c55 rfl) ?_
   exact FL.nil ⟨rfl, _, S60, (Inc.rfl _), rfl⟩
  ·
   refine FL.skip (wF_no rfl rfl rfl c55) rfl ?_
   refine FL.skip (wF_no rfl rfl rfl c55) rfl ?_
   refine FL.skip (wF_no rfl rfl rfl c55) rfl ?_
   refine FL.skip (wF_no rfl rfl rfl c55) rfl ?_
   obtain rfl := Option.some.inj hp
   refine FL.v (E.pickF rfl c55 rfl) ?_
   exact FL.nil ⟨rfl, _, S36, (Inc.rfl _), rfl⟩
 rintro f54 w53 ⟨H50, S51, i52, k61⟩
 refine FL.v (E.assign k61) ?_
 refine FL.nil ?_
 refine FW.ret ?_
 obtain rfl := Option.some.inj hp
 exact ⟨.inr rfl, res1 rfl rfl ⟨rfl, S51.back⟩⟩

theorem w_impl_isProof {Ha : GH} {wa : World} (hs : Sl Ha wa) (a0 : Cnf) (v0_1 : Value) (p0_1 : RSl Ha (eL eI 1) 1 v0_1 a0.clauses) (v1 : Value) (a1 : List ResStep) (p1 : RSl Ha eResStep 4 v1 a1) {r : Bool} (hp : (PF.impl_isProof a0 a1) = some r) :
  Calls Tryz.prog 46 #[Value.agg #[Value.int .i64 a0.vars, v0_1], v1] wa (Sc Ha wa (Value.bool r)) := by
 unfold PF.impl_isProof at hp
 have S0 := St.init hs
 refine calls_go (N := 13) (args := [Value.agg #[Value.int .i64 a0.vars, v0_1], v1]) Tryz.func46 rfl rfl rfl ?_
 refine FW.seq (FW.region ?_)
 obtain ⟨b21, w22, run23, S24⟩ := S0.box (P := Tryz.prog) 34 [Value.int .i64 a0.vars, v0_1] (v := Value.agg #[Value.int .i64 a0.vars, v0_1]) rfl (ones_cons rfl (ones_cons p0_1.one ones_nil))
 refine FL.v (E.box rfl run23) ?_
 obtain ⟨H25, S26, i27, at28⟩ := S24.sealBox (i := 0) (l' := []) rfl rfl
 refine FL.v (E.assign (v := Value.bool false) rfl) ?_
 refine FL.nil (FW.seq (FW.region ?_))
 refine FL.v (E.load rfl (run_loadA Tryz.isAgg34 Tryz.sizeOf34 (at28.now S26.sl) rfl)) ?_
 refine FL.v (E.move (v := v1) rfl) ?_
 obtain ⟨r29, hr30, hp⟩ := bnd hp
 refine FL.call rfl rfl rfl (E.call Tryz.call47 (A2 rfl rfl)) (w_impl_IsDerivation S26.sl a0 v0_1 (p0_1.mono i27) v1 a1 (p1.mono i27) hr30) ?_
 rintro e w31 ⟨rfl, r32⟩
 refine ⟨_, rfl, ?_⟩
 have S33 := S26.call r32
 refine FL.v (E.move (v := Value.bool r29) rfl) ?_
 refine FL.cut 4 (fun f w => ∃ H : GH, St Ha wa H w [] ∧ Inc H25 H ∧ f 12 = Value.bool (bif r29 then (decide (0 < (len a1))) else false)) ?_ ?_
 ·
  rcases bcase r29 with c40 | c40
  ·
   refine FL.val (wF_yes rfl rfl rfl c40) rfl rfl (E.move (v := v1) rfl) ?_
   refine FL.val (wF_yes rfl rfl rfl c40) rfl rfl (E.lenP te36 rfl p1) ?_
   refine FL.val (wF_yes rfl rfl rfl c40) rfl rfl (E.gtr rfl rfl) ?_
   refine FL.v (E.pickT rfl c40 rfl) ?_
   exact FL.nil ⟨rfl, _, S33, (Inc.rfl _), (congrArg Value.bool (bifT c40).symm)⟩
  ·
   refine FL.skip (wF_no rfl rfl rfl c40) rfl ?_
   refine FL.skip (wF_no rfl rfl rfl c40) rfl ?_
   refine FL.skip (wF_no rfl rfl rfl c40) rfl ?_
   refine FL.v (E.pickF rfl c40 rfl) ?_
   exact FL.nil ⟨rfl, _, S33, (Inc.rfl _), (congrArg Value.bool (bifF c40).symm)⟩
 rintro f39 w38 ⟨H35, S36, i37, k41⟩
 refine FL.v (E.assign k41) ?_
 refine FL.nil ?_
 refine FW.ret ?_
 obtain rfl := Option.some.inj hp
 exact ⟨.inr rfl, res1 rfl rfl ⟨rfl, S36.back⟩⟩

set_option maxHeartbeats 4000000 in
theorem w_impl_WidthOfProof {Ha : GH} {wa : World} (hs : Sl Ha wa) (a0 : Cnf) (v0_1 : Value) (p0_1 : RSl Ha (eL eI 1) 1 v0_1 a0.clauses) (v1 : Value) (a1 : List ResStep) (p1 : RSl Ha eResStep 4 v1 a1) {r : (Int × Bool)} (hp : (PF.impl_WidthOfProof a0 a1) = some r) :
  Calls Tryz.prog 29 #[Value.agg #[Value.int .i64 a0.vars, v0_1], v1] wa (Sc Ha wa (Value.tuple #[Value.int .i64 r.1, Value.bool r.2])) := by
 unfold PF.impl_WidthOfProof at hp
 have S0 := St.init hs
 refine calls_go (N := 26) (args := [Value.agg #[Value.int .i64 a0.vars, v0_1], v1]) Tryz.func29 rfl rfl rfl ?_
 refine FW.seq (FW.region ?_)
 obtain ⟨b21, w22, run23, S24⟩ := S0.box (P := Tryz.prog) 34 [Value.int .i64 a0.vars, v0_1] (v := Value.agg #[Value.int .i64 a0.vars, v0_1]) rfl (ones_cons rfl (ones_cons p0_1.one ones_nil))
 refine FL.v (E.box rfl run23) ?_
 obtain ⟨H25, S26, i27, at28⟩ := S24.sealBox (i := 0) (l' := []) rfl rfl
 refine FL.v (E.assign (v := Value.int .i64 0) rfl) ?_
 refine FL.v (E.assign (v := Value.bool false) rfl) ?_
 refine FL.nil (FW.seq (FW.seq (FW.region ?_)))
 refine FL.v (E.load rfl (run_loadA Tryz.isAgg34 Tryz.sizeOf34 (at28.now S26.sl) rfl)) ?_
 refine FL.v (E.move (v := v1) rfl) ?_
 obtain ⟨r29, hr30, hp⟩ := bnd hp
 refine FL.call rfl rfl rfl (E.call Tryz.call46 (A2 rfl rfl)) (w_impl_isProof S26.sl a0 v0_1 (p0_1.mono i27) v1 a1 (p1.mono i27) hr30) ?_
 rintro e w31 ⟨rfl, r32⟩
 refine ⟨_, rfl, ?_⟩
 have S33 := S26.call r32
 refine FL.v (E.not rfl) ?_
 refine FL.nil ?_
 rcases ifB hp with ⟨c34, hp⟩ | ⟨c34, hp⟩
 ·
  refine FW.condT rfl c34 ?_
  refine FW.seq (FW.region ?_)
  refine FL.v (E.assign (v := Value.int .i64 0) rfl) ?_
  refine FL.v (E.assign (v := Value.bool false) rfl) ?_
  refine FL.nil ?_
  refine FW.ret ?_
  obtain rfl := Option.some.inj hp
  exact ⟨.inr rfl, res2 rfl rfl rfl ⟨rfl, S33.back⟩⟩
 ·
  refine FW.condF rfl c34 ?_
  refine FW.skip (FW.seq (FW.region ?_))
  refine FL.v (E.assign (v := Value.int .i64 0) rfl) ?_
  refine FL.nil (FW.seq (FW.seq (FW.region ?_)))
  refine FL.v (E.move (v := v1) rfl) ?_
  refine FL.v (E.lenP te36 rfl p1) ?_
  refine FL.v (E.move (v := Value.int .i64 0) rfl) ?_
  refine FL.nil ?_
  obtain ⟨q36, hq, hp⟩ := bndR hp
  refine FW.block ?_
  refine FW.mono (FW.forL (S := Int) (X := Empty) (fun (i36 : Nat) (s36 : Int) f w => ∃ H : GH, St Ha wa H w [] ∧ Inc H25 H ∧ f 15 = Value.int .i64 ((i36 : Nat) : Int) ∧ f 6 = Value.int .i64 s36 ∧ f 13 = v1 ∧ f 14 = Value.int .i64 (len a1)) (fun (q : Rs Int Empty) e f w => match q with | .go s36 => e = Exit.exit 0 ∧ (∃ H : GH, St Ha wa H w [] ∧ Inc H25 H ∧ f 6 = Value.int .i64 s36) | .rt x => x.elim) hq ⟨_, S33, (Inc.rfl _), rfl, rfl, rfl, rfl⟩ ?_ ?_) ?_
  ·
   clear hp hq
   rintro i36 y35 s36 f69 w68 ⟨H65, S66, i67, k70, k71, k72, k73⟩ hx36 o93 hp
   refine FW.seq (FW.region ?_)
   refine FL.v (E.lssT k70 k73 (lss_len hx36)) ?_
   refine FL.nil (FW.seq ?_)
   refine FW.condT rfl rfl ?_
   refine FW.skip (FW.seq (FW.block (FW.seq (FW.region ?_))))
   obtain ⟨p74, cs75, pt76, l77, at78, rel79⟩ := p1.at (ix_nat hx36)
   obtain ⟨v80, rfl, h81⟩ := eResStep_open rel79
   refine FL.v (E.indexAddr te36 k72 k70 pt76) ?_
   refine FL.v (E.load rfl (run_loadA Tryz.isAgg60 Tryz.sizeOf60 ((at78.mono (i27.tr i67)).now S66.sl) rfl)) ?_
   obtain ⟨b82, w83, run84, S85⟩ := S66.alloc (P := Tryz.prog) 60 [Value.slice none 0 0, Value.int .i64 0, Value.int .i64 0, Value.int .i64 0] Tryz.zeroValue60 rfl (ones_cons rfl (ones_cons rfl (ones_cons rfl (ones_cons rfl ones_nil))))
   refine FL.v (E.alloc run84) ?_
   obtain ⟨w86, run87, S88⟩ := S85.store0 (P := Tryz.prog) (t := 60) (i := 0) (cs' := [v80, Value.int .i64 y35.left, Value.int .i64 y35.right, Value.int .i64 y35.pivot]) (l' := [.box b82 60 [v80, Value.int .i64 y35.left, Value.int .i64 y35.right, Value.int .i64 y35.pivot]]) (v := Value.agg #[v80, Value.int .i64 y35.left, Value.int .i64 y35.right, Value.int .i64 y35.pivot]) (c := [v80, Value.int .i64 y35.left, Value.int .i64 y35.right, Value.int .i64 y35.pivot]) rfl Tryz.sizeOf60 rfl rfl (ones_cons h81.one (ones_cons rfl (ones_cons rfl (ones_cons rfl ones_nil)))) (Nat.le_of_ble_eq_true rfl) rfl rfl
   refine FL.act rfl rfl (E.store rfl rfl run87) ?_
   obtain ⟨H89, S90, i91, at92⟩ := S88.sealBox (i := 0) (l' := []) rfl rfl
   refine FL.nil (FW.region ?_)
   refine FL.v (E.move k71) ?_
   refine FL.v (E.fieldAddr tf60_0 rfl) ?_
   refine FL.v (E.load rfl (run_load1 Tryz.isAgg50 (at92.now S90.sl) rfl)) ?_
   refine FL.v (E.lenP te50 rfl h81) ?_
   refine FL.v (E.max2 rfl rfl) ?_
   refine FL.v (E.assign (v := Value.int .i64 (mx s36 (len y35.clause))) rfl) ?_
   refine FL.nil (FW.region ?_)
   refine FL.v (E.add k70 rfl) ?_
   refine FL.v (E.move (v := Value.int .i64 (wr (((i36 : Nat) : Int) + 1))) rfl) ?_
   refine FL.nil ?_
   obtain rfl := Option.some.inj hp
   exact ⟨rfl, ⟨_, S90, (i67.tr i91), (nat_succ rfl (lt_of_get hx36) (p1.mono ((i27.tr i67).tr i91)).le), rfl, k72, k73⟩⟩
  ·
   clear hp hq
   rintro s36 f104 w103 ⟨H100, S101, i102, k105, k106, k107, k108⟩
   refine FW.seq (FW.region ?_)
   refine FL.v (E.lss k105 k108) ?_
   refine FL.nil (FW.seq ?_)
   refine FW.condF rfl dlt_len ?_
   refine FW.exit ?_
   exact ⟨nofun, rfl, ⟨_, S101, i102, k106⟩⟩
  ·
   clear hq
   intro e f98 w97 hD
   rcases q36 with s36 | x36
   ·
    obtain ⟨rfl, hD⟩ := hD
    obtain ⟨H94, S95, i96, k99⟩ := hD
    replace hp := el_go hp
    refine FW.seq (FW.region ?_)
    refine FL.v (E.move k99) ?_
    refine FL.v (E.assign (v := Value.int .i64 s36) rfl) ?_
    refine FL.v (E.assign (v := Value.bool true) rfl) ?_
    refine FL.nil ?_
    refine FW.ret ?_
    obtain rfl := Option.some.inj hp
    exact ⟨.inr rfl, res2 rfl rfl rfl ⟨rfl, S95.back⟩⟩
   ·
    exact x36.elim

@[reducible] def p_impl_last_impl_ResStep (Ha : GH) (wa : World) (r : ResStep) : Ending → World → Prop :=
 fun e w' => ∃ H' : GH, ∃ v0_0 : Value, e = .returned (Value.agg #[v0_0, Value.int .i64 r.left, Value.int .i64 r.right, Value.int .i64 r.pivot]) ∧ Run wa.heap.size Ha wa H' w' ∧ RSl H' eI 1 v0_0 r.clause
theorem w_impl_last_impl_ResStep {Ha : GH} {wa : World} (hs : Sl Ha wa) (v0 : Value) (a0 : List ResStep) (p0 : RSl Ha eResStep 4 v0 a0) {r : ResStep} (hp : (PF.impl_last_impl_ResStep a0) = some r) :
  Calls Tryz.prog 48 #[v0] wa (p_impl_last_impl_ResStep Ha wa r) := by
 unfold PF.impl_last_impl_ResStep at hp
 have S0 := St.init hs
 refine calls_go (N := 9) (args := [v0]) Tryz.func48 rfl rfl rfl ?_
 refine FW.seq (FW.region ?_)
 obtain ⟨b21, w22, run23, S24⟩ := S0.alloc (P := Tryz.prog) 60 [Value.slice none 0 0, Value.int .i64 0, Value.int .i64 0, Value.int .i64 0] Tryz.zeroValue60 rfl (ones_cons rfl (ones_cons rfl (ones_cons rfl (ones_cons rfl ones_nil))))
 refine FL.v (E.alloc run23) ?_
 refine FL.nil (FW.seq (FW.region ?_))
 refine FL.v (E.move (v := v0) rfl) ?_
 refine FL.v (E.move (v := v0) rfl) ?_
 refine FL.v (E.lenP te36 rfl p0) ?_
 refine FL.v (E.sub rfl rfl) ?_
 obtain ⟨x31, hx32, hp⟩ := bnd hp
 obtain ⟨p25, cs26, pt27, l28, at29, rel30⟩ := p0.at hx32
 obtain ⟨v33, rfl, h34⟩ := eResStep_open rel30
 refine FL.v (E.indexAddr te36 rfl rfl pt27) ?_
 refine FL.v (E.load rfl (run_loadA Tryz.isAgg60 Tryz.sizeOf60 (at29.now S24.sl) rfl)) ?_
 obtain ⟨w35, run36, S37⟩ := S24.store0 (P := Tryz.prog) (t := 60) (i := 0) (cs' := [v33, Value.int .i64 x31.left, Value.int .i64 x31.right, Value.int .i64 x31.pivot]) (l' := [.box b21 60 [v33, Value.int .i64 x31.left, Value.int .i64 x31.right, Value.int .i64 x31.pivot]]) (v := Value.agg #[v33, Value.int .i64 x31.left, Value.int .i64 x31.right, Value.int .i64 x31.pivot]) (c := [v33, Value.int .i64 x31.left, Value.int .i64 x31.right, Value.int .i64 x31.pivot]) rfl Tryz.sizeOf60 rfl rfl (ones_cons h34.one (ones_cons rfl (ones_cons rfl (ones_cons rfl ones_nil)))) (Nat.le_of_ble_eq_true rfl) rfl rfl
 refine FL.act rfl rfl (E.store rfl rfl run36) ?_
 obtain ⟨H38, S39, i40, at41⟩ := S37.sealBox (i := 0) (l' := []) rfl rfl
 refine FL.nil ?_
 refine FW.ret ?_
 obtain rfl := Option.some.inj hp
 exact ⟨.inr rfl, resC rfl rfl (loadVar_A Tryz.isAgg60 Tryz.sizeOf60 (at41.now S39.sl) rfl) ⟨_, _, rfl, S39.run, (h34.mono i40)⟩⟩

theorem w_impl_IsRefutation {Ha : GH} {wa : World} (hs : Sl Ha wa) (a0 : Cnf) (v0_1 : Value) (p0_1 : RSl Ha (eL eI 1) 1 v0_1 a0.clauses) (v1 : Value) (a1 : List ResStep) (p1 : RSl Ha eResStep 4 v1 a1) {r : Bool} (hp : (PF.impl_IsRefutation a0 a1) = some r) :
  Calls Tryz.prog 30 #[Value.agg #[Value.int .i64 a0.vars, v0_1], v1] wa (Sc Ha wa (Value.bool r)) := by
 unfold PF.impl_IsRefutation at hp
 have S0 := St.init hs
 refine calls_go (N := 20) (args := [Value.agg #[Value.int .i64 a0.vars, v0_1], v1]) Tryz.func30 rfl rfl rfl ?_
 refine FW.seq (FW.region ?_)
 obtain ⟨b21, w22, run23, S24⟩ := S0.box (P := Tryz.prog) 34 [Value.int .i64 a0.vars, v0_1] (v := Value.agg #[Value.int .i64 a0.vars, v0_1]) rfl (ones_cons rfl (ones_cons p0_1.one ones_nil))
 refine FL.v (E.box rfl run23) ?_
 obtain ⟨H25, S26, i27, at28⟩ := S24.sealBox (i := 0) (l' := []) rfl rfl
 refine FL.v (E.assign (v := Value.bool false) rfl) ?_
 refine FL.nil (FW.seq (FW.region ?_))
 refine FL.v (E.load rfl (run_loadA Tryz.isAgg34 Tryz.sizeOf34 (at28.now S26.sl) rfl)) ?_
 refine FL.v (E.move (v := v1) rfl) ?_
 obtain ⟨r29, hr30, hp⟩ := bnd hp
 refine FL.call rfl rfl rfl (E.call Tryz.call47 (A2 rfl rfl)) (w_impl_IsDerivation S26.sl a0 v0_1 (p0_1.mono i27) v1 a1 (p1.mono i27) hr30) ?_
 rintro e w31 ⟨rfl, r32⟩
 refine ⟨_, rfl, ?_⟩
 have S33 := S26.call r32
 refine FL.v (E.move (v := Value.bool r29) rfl) ?_
 refine FL.cut 4 (fun f w => ∃ H : GH, St Ha wa H w [] ∧ Inc H25 H ∧ f 1 = v1 ∧ f 12 = Value.bool (bif r29 then (decide (0 < (len a1))) else false)) ?_ ?_
 ·
  rcases bcase r29 with c40 | c40
  ·
   refine FL.val (wF_yes rfl rfl rfl c40) rfl rfl (E.move (v := v1) rfl) ?_
   refine FL.val (wF_yes rfl rfl rfl c40) rfl rfl (E.lenP te36 rfl p1) ?_
   refine FL.val (wF_yes rfl rfl rfl c40) rfl rfl (E.gtr rfl rfl) ?_
   refine FL.v (E.pickT rfl c40 rfl) ?_
   exact FL.nil ⟨rfl, _, S33, (Inc.rfl _), rfl, (congrArg Value.bool (bifT c40).symm)⟩
  ·
   refine FL.skip (wF_no rfl rfl rfl c40) rfl ?_
   refine FL.skip (wF_no rfl rfl rfl c40) rfl ?_
   refine FL.skip (wF_no rfl rfl rfl c40) rfl ?_
   refine FL.v (E.pickF rfl c40 rfl) ?_
   exact FL.nil ⟨rfl, _, S33, (Inc.rfl _), rfl, (congrArg Value.bool (bifF c40).symm)⟩
 rintro f39 w38 ⟨H35, S36, i37, k41, k42⟩
 refine FL.v (E.move k42) ?_
 obtain ⟨t51, hqt51, hp⟩ := bnd hp
 refine FL.cut 6 (fun f w => ∃ H : GH, St Ha wa H w [] ∧ Inc H35 H ∧ f 19 = Value.bool t51) ?_ ?_
 ·
  clear hp; have hp := hqt51; clear hqt51
  rcases ifB hp with ⟨c57, hp⟩ | ⟨c57, hp⟩
  ·
   refine FL.val (wF_yes rfl rfl rfl c57) rfl rfl (E.move k41) ?_
   obtain ⟨r58, hr59, hp⟩ := bnd hp
   refine FL.call (wF_yes rfl rfl rfl c57) rfl rfl (E.call Tryz.call48 (A1 rfl)) (w_impl_last_impl_ResStep S36.sl v1 a1 (p1.mono (i27.tr i37)) hr59) ?_
   rintro e w61 ⟨H60, v64, rfl, r63, h65⟩
   refine ⟨_, rfl, ?_⟩
   have S62 := S36.call r63
   refine FL.val (wF_yes rfl rfl rfl c57) rfl rfl (E.field (fd60_0 rfl) rfl) ?_
   refine FL.val (wF_yes rfl rfl rfl c57) rfl rfl (E.lenP te50 rfl h65) ?_
   refine FL.val (wF_yes rfl rfl rfl c57) rfl rfl (E.eql rfl rfl) ?_
   obtain rfl := Option.some.inj hp
   refine FL.v (E.pickT rfl c57 rfl) ?_
   exact FL.nil ⟨rfl, _, S62, r63.inc, rfl⟩
  ·
   refine FL.skip (wF_no rfl rfl rfl c57) rfl ?_
   refine FL.skip (wF_no rfl rfl rfl c57) rfl ?_
   refine FL.skip (wF_no rfl rfl rfl c57) rfl ?_
   refine FL.skip (wF_no rfl rfl rfl c57) rfl ?_
   refine FL.skip (wF_no rfl rfl rfl c57) rfl ?_
   obtain rfl := Option.some.inj hp
   refine FL.v (E.pickF rfl c57 rfl) ?_
   exact FL.nil ⟨rfl, _, S36, (Inc.rfl _), rfl⟩
 rintro f56 w55 ⟨H52, S53, i54, k66⟩
 refine FL.v (E.assign k66) ?_
 refine FL.nil ?_
 refine FW.ret ?_
 obtain rfl := Option.some.inj hp
 exact ⟨.inr rfl, res1 rfl rfl ⟨rfl, S53.back⟩⟩

set_option maxHeartbeats 4000000 in
theorem w_impl_nameOk {Ha : GH} {wa : World} (hs : Sl Ha wa) (a0 : ByteArray) {r : Bool} (hp : (PF.impl_nameOk a0) = some r) :
  Calls Tryz.prog 70 #[Value.string a0] wa (Sc Ha wa (Value.bool r)) := by
 unfold PF.impl_nameOk at hp
 have S0 := St.init hs
 refine calls_go (N := 31) (args := [Value.string a0]) Tryz.func70 rfl rfl rfl ?_
 refine FW.seq (FW.region ?_)
 refine FL.v (E.assign (v := Value.bool false) rfl) ?_
 refine FL.nil (FW.seq (FW.seq (FW.region ?_)))
 refine FL.v (E.move (v := Value.string a0) rfl) ?_
 refine FL.v (E.lenS Tryz.runUnderlying9 rfl) ?_
 refine FL.v (E.move (v := Value.int .i64 0) rfl) ?_
 refine FL.nil ?_
 obtain ⟨m21, hchk22, hp⟩ := bnd hp
 obtain ⟨q22, hq, hp⟩ := bndR hp
 refine FW.block ?_
 refine FW.mono (FW.forR (S := Unit) (X := Bool) (fun (i22 : Nat) (s22 : Unit) f w => ∃ H : GH, St Ha wa H w [] ∧ Inc Ha H ∧ f 7 = Value.int .i64 ((i22 : Nat) : Int) ∧ f 0 = Value.string a0 ∧ f 6 = Value.int .i64 (a0.size : Int)) (fun q e f w => match q with | .go s22 => e = Exit.exit 0 ∧ (∃ H : GH, St Ha wa H w [] ∧ Inc Ha H ∧ f 0 = Value.string a0) | .rt x => ((e = Exit.ret) ∧ (fun e f w => (e = Exit.normal ∨ e = Exit.ret) ∧ ∀ a, Fr (δ := []) 31 a f → ∃ v, (results Tryz.f70 a.tmps).run Tryz.prog w = .ok v w ∧ (Sc Ha wa (Value.bool x)) (.returned v) w) e f w)) hq ⟨_, S0, (Inc.rfl _), rfl, rfl, rfl⟩ ?_ ?_) ?_
 ·
  clear hp hq
  rintro i22 s22 f85 w84 ⟨H81, S82, i83, k86, k87, k88⟩ hi22 hj22 o139 hp
  refine FW.seq (FW.region ?_)
  refine FL.v (E.lssT k86 k88 (lss_chk hj22 hchk22)) ?_
  refine FL.nil (FW.seq ?_)
  refine FW.condT rfl rfl ?_
  refine FW.skip (FW.seq (FW.block (FW.seq (FW.region ?_))))
  refine FL.v (E.move k86) ?_
  refine FL.v (E.assign (v := Value.int .i64 ((i22 : Nat) : Int)) rfl) ?_
  refine FL.nil (FW.seq (FW.region ?_))
  refine FL.v (E.move k87) ?_
  refine FL.v (E.move (v := Value.int .i64 ((i22 : Nat) : Int)) rfl) ?_
  obtain ⟨z89, h90, hp⟩ := bnd hp
  refine FL.v (E.ixS Tryz.runUnderlying9 rfl rfl h90) ?_
  refine FL.v (E.assign (v := Value.int .u8 z89) rfl) ?_
  refine FL.nil (FW.seq (FW.region ?_))
  refine FL.v (E.move (v := Value.int .u8 z89) rfl) ?_
  refine FL.v (E.lss rfl rfl) ?_
  refine FL.v (E.move (v := Value.bool (decide (z89 < 97))) rfl) ?_
  refine FL.cut 3 (fun f w => ∃ H : GH, St Ha wa H w [] ∧ Inc H81 H ∧ f 0 = Value.string a0 ∧ f 4 = Value.int .u8 z89 ∧ f 6 = Value.int .i64 (a0.size : Int) ∧ f 7 = Value.int .i64 ((i22 : Nat) : Int) ∧ f 18 = Value.bool (bif (decide (z89 < 97)) then true else (decide (122 < z89)))) ?_ ?_
  ·
   rcases bcase (decide (z89 < 97)) with c97 | c97
   ·
    refine FL.skip (wF_no rfl rfl rfl c97) rfl ?_
    refine FL.skip (wF_no rfl rfl rfl c97) rfl ?_
    refine FL.v (E.pickT rfl c97 rfl) ?_
    exact FL.nil ⟨rfl, _, S82, (Inc.rfl _), k87, rfl, k88, k86, (congrArg Value.bool (bifT c97).symm)⟩
   ·
    refine FL.val (wF_yes rfl rfl rfl c97) rfl rfl (E.move (v := Value.int .u8 z89) rfl) ?_
    refine FL.val (wF_yes rfl rfl rfl c97) rfl rfl (E.gtr rfl rfl) ?_
    refine FL.v (E.pickF rfl c97 rfl) ?_
    exact FL.nil ⟨rfl, _, S82, (Inc.rfl _), k87, rfl, k88, k86, (congrArg Value.bool (bifF c97).symm)⟩
  rintro f96 w95 ⟨H92, S93, i94, k98, k99, k100, k101, k102⟩
  refine FL.v (E.move k102) ?_
  refine FL.cut 7 (fun f w => ∃ H : GH, St Ha wa H w [] ∧ Inc H92 H ∧ f 0 = Value.string a0 ∧ f 6 = Value.int .i64 (a0.size : Int) ∧ f 7 = Value.int .i64 ((i22 : Nat) : Int) ∧ f 26 = Value.bool (bif (bif (decide (z89 < 97)) then true else (decide (122 < z89))) then (bif (decide (z89 < 48)) then true else (decide (57 < z89))) else false)) ?_ ?_
  ·
   rcases bcase (bif (decide (z89 < 97)) then true else (decide (122 < z89))) with c121 | c121
   ·
    refine FL.val (wF_yes rfl rfl rfl c121) rfl rfl (E.move k99) ?_
    refine FL.val (wF_yes rfl rfl rfl c121) rfl rfl (E.lss rfl rfl) ?_
    refine FL.val (wF_yes rfl rfl rfl c121) rfl rfl (E.move (v := Value.bool (decide (z89 < 48))) rfl) ?_
    refine FL.cut 3 (fun f w => ∃ H : GH, St Ha wa H w [] ∧ Inc H92 H ∧ f 0 = Value.string a0 ∧ f 6 = Value.int .i64 (a0.size : Int) ∧ f 7 = Value.int .i64 ((i22 : Nat) : Int) ∧ f 19 = Value.bool (bif (decide (z89 < 97)) then true else (decide (122 < z89))) ∧ f 25 = Value.bool (bif (decide (z89 < 48)) then true else (decide (57 < z89)))) ?_ ?_
    ·
     rcases bcase (decide (z89 < 48)) with c128 | c128
     ·
      refine FL.skip (wF_no rfl rfl rfl c128) rfl ?_
      refine FL.skip (wF_no rfl rfl rfl c128) rfl ?_
      refine FL.val (wF_yes rfl rfl rfl c121) rfl rfl (E.pickT rfl c128 rfl) ?_
      exact FL.nil ⟨rfl, _, S93, (Inc.rfl _), k98, k100, k101, rfl, (congrArg Value.bool (bifT c128).symm)⟩
     ·
      refine FL.val (wF_yes rfl rfl rfl c128) rfl rfl (E.move k99) ?_
      refine FL.val (wF_yes rfl rfl rfl c128) rfl rfl (E.gtr rfl rfl) ?_
      refine FL.val (wF_yes rfl rfl rfl c121) rfl rfl (E.pickF rfl c128 rfl) ?_
      exact FL.nil ⟨rfl, _, S93, (Inc.rfl _), k98, k100, k101, rfl, (congrArg Value.bool (bifF c128).symm)⟩
    rintro f127 w126 ⟨H123, S124, i125, k129, k130, k131, k132, k133⟩
    refine FL.v (E.pickT k132 c121 k133) ?_
    exact FL.nil ⟨rfl, _, S124, i125, k129, k130, k131, (congrArg Value.bool (bifT c121).symm)⟩
   ·
    refine FL.skip (wF_no rfl rfl rfl c121) rfl ?_
    refine FL.skip (wF_no rfl rfl rfl c121) rfl ?_
    refine FL.skip (wF_no rfl rfl rfl c121) rfl ?_
    refine FL.skip (wF_undef rfl rfl rfl) rfl ?_
    refine FL.skip (wF_undef rfl rfl rfl) rfl ?_
    refine FL.skip (wF_no rfl rfl rfl c121) rfl ?_
    refine FL.v (E.pickF rfl c121 rfl) ?_
    exact FL.nil ⟨rfl, _, S93, (Inc.rfl _), k98, k100, k101, (congrArg Value.bool (bifF c121).symm)⟩
  rintro f120 w119 ⟨H116, S117, i118, k134, k135, k136, k137⟩
  refine FL.nil ?_
  rcases ifB hp with ⟨c138, hp⟩ | ⟨c138, hp⟩
  ·
   refine FW.condT k137 c138 ?_
   refine FW.seq (FW.region ?_)
   refine FL.v (E.assign (v := Value.bool false) rfl) ?_
   refine FL.nil ?_
   refine FW.ret ?_
   obtain rfl := Option.some.inj hp
   exact ⟨nofun, rfl, ⟨.inr rfl, res1 rfl rfl ⟨rfl, S117.back⟩⟩⟩
  ·
   refine FW.condF k137 c138 ?_
   refine FW.skip (FW.region ?_)
   refine FL.v (E.add k136 rfl) ?_
   refine FL.v (E.move (v := Value.int .i64 (wr (((i22 : Nat) : Int) + 1))) rfl) ?_
   refine FL.nil ?_
   obtain rfl := Option.some.inj hp
   exact ⟨rfl, ⟨_, S117, ((i83.tr i94).tr i118), (nat_succ rfl hj22 (chk_le hchk22)), k134, k135⟩⟩
 ·
  clear hp hq
  rintro s22 f153 w152 ⟨H149, S150, i151, k154, k155, k156⟩
  refine FW.seq (FW.region ?_)
  refine FL.v (E.lss k154 k156) ?_
  refine FL.nil (FW.seq ?_)
  refine FW.condF rfl (dlt_maxchk hchk22) ?_
  refine FW.exit ?_
  exact ⟨nofun, rfl, ⟨_, S150, i151, k155⟩⟩
 ·
  clear hq
  intro e f144 w143 hD
  rcases q22 with s22 | x22
  ·
   obtain ⟨rfl, hD⟩ := hD
   obtain ⟨H140, S141, i142, k145⟩ := hD
   replace hp := el_go hp
   refine FW.seq (FW.region ?_)
   refine FL.v (E.move k145) ?_
   refine FL.v (E.lenS Tryz.runUnderlying9 rfl) ?_
   refine FL.call rfl rfl rfl (E.call Tryz.call72 (A3 rfl rfl rfl)) (w_impl_within S141.sl (a0.size : Int) 1 12) ?_
   rintro e w146 ⟨rfl, r147⟩
   refine ⟨_, rfl, ?_⟩
   have S148 := S141.call r147
   refine FL.v (E.assign (v := Value.bool (PF.impl_within (a0.size : Int) 1 12)) rfl) ?_
   refine FL.nil ?_
   refine FW.ret ?_
   obtain rfl := Option.some.inj hp
   exact ⟨.inr rfl, res1 rfl rfl ⟨rfl, S148.back⟩⟩
  ·
   obtain ⟨he, hL⟩ := hD
   replace hp := el_rt hp
   obtain rfl := Option.some.inj hp
   subst he
   exact hL

theorem w_impl_systemOk {Ha : GH} {wa : World} (hs : Sl Ha wa) (a0 : Int) :
  Calls Tryz.prog 71 #[Value.int .i64 a0] wa (Sc Ha wa (Value.bool (PF.impl_systemOk a0))) := by
 obtain ⟨r, hp⟩ : ∃ r, (PF.impl_systemOk a0) = r := ⟨_, rfl⟩
 rw [hp]
 unfold PF.impl_systemOk at hp
 have S0 := St.init hs
 refine calls_go (N := 5) (args := [Value.int .i64 a0]) Tryz.func71 rfl rfl rfl ?_
 refine FW.seq (FW.region ?_)
 refine FL.v (E.assign (v := Value.bool false) rfl) ?_
 refine FL.nil (FW.seq (FW.region ?_))
 refine FL.v (E.move (v := Value.int .i64 a0) rfl) ?_
 refine FL.call rfl rfl rfl (E.call Tryz.call72 (A3 rfl rfl rfl)) (w_impl_within S0.sl a0 1 4) ?_
 rintro e w21 ⟨rfl, r22⟩
 refine ⟨_, rfl, ?_⟩
 have S23 := S0.call r22
 refine FL.v (E.assign (v := Value.bool (PF.impl_within a0 1 4)) rfl) ?_
 refine FL.nil ?_
 refine FW.ret ?_
 obtain rfl := hp
 exact ⟨.inr rfl, res1 rfl rfl ⟨rfl, S23.back⟩⟩

theorem w_strings_Compare {Ha : GH} {wa : World} (hs : Sl Ha wa) (a0 a1 : ByteArray) : Calls Tryz.prog 74 #[Value.string a0, Value.string a1] wa (Sc Ha wa (Value.int .i64 (PF.strings_Compare a0 a1))) := by
 refine (Go.Proofs.Any.strings_Compare Tryz.comp74 a0 a1 wa).mono ?_
 rintro e w' ⟨rfl, rfl⟩
 exact ⟨rfl, Run.refl _ hs⟩

theorem w_impl_compareRecords {Ha : GH} {wa : World} (hs : Sl Ha wa) (a0 : Record) (a1 : Record) {r : Int} (hp : (PF.impl_compareRecords a0 a1) = some r) :
  Calls Tryz.prog 61 #[Value.agg #[Value.string a0.name, Value.int .i64 a0.system, Value.int .i64 a0.size, Value.int .i64 a0.extra], Value.agg #[Value.string a1.name, Value.int .i64 a1.system, Value.int .i64 a1.size, Value.int .i64 a1.extra]] wa (Sc Ha wa (Value.int .i64 r)) := by
 unfold PF.impl_compareRecords at hp
 have S0 := St.init hs
 refine calls_go (N := 17) (args := [Value.agg #[Value.string a0.name, Value.int .i64 a0.system, Value.int .i64 a0.size, Value.int .i64 a0.extra], Value.agg #[Value.string a1.name, Value.int .i64 a1.system, Value.int .i64 a1.size, Value.int .i64 a1.extra]]) Tryz.func61 rfl rfl rfl ?_
 refine FW.seq (FW.region ?_)
 obtain ⟨b21, w22, run23, S24⟩ := S0.box (P := Tryz.prog) 57 [Value.string a0.name, Value.int .i64 a0.system, Value.int .i64 a0.size, Value.int .i64 a0.extra] (v := Value.agg #[Value.string a0.name, Value.int .i64 a0.system, Value.int .i64 a0.size, Value.int .i64 a0.extra]) rfl (ones_cons rfl (ones_cons rfl (ones_cons rfl (ones_cons rfl ones_nil))))
 refine FL.v (E.box rfl run23) ?_
 obtain ⟨H25, S26, i27, at28⟩ := S24.sealBox (i := 0) (l' := []) rfl rfl
 obtain ⟨b29, w30, run31, S32⟩ := S26.box (P := Tryz.prog) 57 [Value.string a1.name, Value.int .i64 a1.system, Value.int .i64 a1.size, Value.int .i64 a1.extra] (v := Value.agg #[Value.string a1.name, Value.int .i64 a1.system, Value.int .i64 a1.size, Value.int .i64 a1.extra]) rfl (ones_cons rfl (ones_cons rfl (ones_cons rfl (ones_cons rfl ones_nil))))
 refine FL.v (E.box rfl run31) ?_
 obtain ⟨H33, S34, i35, at36⟩ := S32.sealBox (i := 0) (l' := []) rfl rfl
 refine FL.v (E.assign (v := Value.int .i64 0) rfl) ?_
 refine FL.nil (FW.seq ?_)
 obtain ⟨r58, hr59, hp⟩ := bnd hp
 refine FW.drawB (Sl H33) (fun f w => ∃ H : GH, St Ha wa H w [] ∧ Inc H33 H ∧ f 4 = Value.int .i64 r58) (by kernel_rfl) S34.sl ?_ ?_
 ·
  intro w37 r38
  have S39 := S34.call r38
  refine FB.t (i := 0) (bs 13 1) rfl (SP.nil S39.sl) rfl (fun w' hw' => (E.fieldAddr tf57_0 rfl)) ?_
  refine FB.t (i := 1) (bs 13 3) rfl (SP.nil S39.sl) rfl (fun w' hw' => (E.load rfl (run_load1 Tryz.isAgg9 ((at28.mono i35).now hw') rfl))) ?_
  refine FB.t (i := 2) (bs 13 7) rfl (SP.nil S39.sl) rfl (fun w' hw' => (E.fieldAddr tf57_0 rfl)) ?_
  refine FB.t (i := 3) (bs 13 15) rfl (SP.nil S39.sl) rfl (fun w' hw' => (E.load rfl (run_load1 Tryz.isAgg9 (at36.now hw') rfl))) ?_
  refine FB.t (i := 5) (bs 13 47) rfl (SP.nil S39.sl) rfl (fun w' hw' => (E.fieldAddr tf57_1 rfl)) ?_
  refine FB.t (i := 6) (bs 13 111) rfl (SP.nil S39.sl) rfl (fun w' hw' => (E.load rfl (run_load1 Tryz.isAgg3 ((at28.mono i35).now hw') rfl))) ?_
  refine FB.t (i := 7) (bs 13 239) rfl (SP.nil S39.sl) rfl (fun w' hw' => (E.fieldAddr tf57_1 rfl)) ?_
  refine FB.t (i := 8) (bs 13 495) rfl (SP.nil S39.sl) rfl (fun w' hw' => (E.load rfl (run_load1 Tryz.isAgg3 (at36.now hw') rfl))) ?_
  refine FB.all1 (i := 4) (by kernel_rfl) ?_
  ·
   refine FC.call (l' := (bs 13 511)) rfl (by kernel_rfl) rfl rfl rfl (E.call Tryz.call74 (A2 rfl rfl)) (w_strings_Compare S39.sl a0.name a1.name) ?_
   rintro e w40 ⟨rfl, r41⟩
   refine ⟨_, rfl, ?_⟩
   have S42 := S39.call r41
   refine ⟨(SP.nil S42.sl), ?_⟩
   refine FB.all1 (i := 9) (by kernel_rfl) ?_
   ·
    refine FC.call (l' := (bs 13 1023)) rfl (by kernel_rfl) rfl rfl rfl (E.call Tryz.call75 (A2 rfl rfl)) (w_cmp_Compare_int S42.sl a0.system a1.system) ?_
    rintro e w43 ⟨rfl, r44⟩
    refine ⟨_, rfl, ?_⟩
    have S45 := S42.call r44
    refine ⟨(SP.nil S45.sl), ?_⟩
    refine FB.all1 (i := 10) (by kernel_rfl) ?_
    ·
     obtain ⟨v46, w47, run48, S49, els51⟩ := S45.ints (P := Tryz.prog) te50 (up wa.heap.size H33) 2 [(PF.strings_Compare a0.name a1.name), (PF.cmp_Compare_int a0.system a1.system)]
     refine FC.val (l' := (bs 13 2047)) rfl (by kernel_rfl) rfl rfl rfl (E.buildSlice (B2 rfl rfl) run48) ?_
     refine ⟨(SP.nil S49.sl), ?_⟩
     refine FB.all1 (i := 11) (by kernel_rfl) ?_
     ·
      obtain ⟨H52, S53, i54, h55, nv56⟩ := S49.sealRowU (i := 0) (l' := []) rfl els51 (by decide) rfl
      refine FC.call (l' := (bs 13 4095)) rfl (by kernel_rfl) rfl rfl rfl (E.call Tryz.call73 (A1 rfl)) (w_cmp_Or_int S53.sl v46 [(PF.strings_Compare a0.name a1.name), (PF.cmp_Compare_int a0.system a1.system)] (h55.mono upI) hr59) ?_
      rintro e w60 ⟨rfl, r61⟩
      refine ⟨_, rfl, ?_⟩
      have r61 := Run.lend i54 S49.sl r61
      have S62 := S49.call r61
      refine ⟨(SP.nil S62.sl), ?_⟩
      refine FB.t (i := 12) (bs 13 8191) rfl (SP.nil S62.sl) rfl (fun w' hw' => (E.assign (v := Value.int .i64 r58) rfl)) ?_
      exact FB.done (by kernel_rfl) ⟨_, (S62.sel [] (by decide) rfl), (Inc.rfl _), rfl⟩
 ·
  rintro f67 w66 ⟨H63, S64, i65, k68⟩
  refine FW.ret ?_
  obtain rfl := Option.some.inj hp
  exact ⟨.inr rfl, res1 rfl k68 ⟨rfl, S64.back⟩⟩

set_option maxHeartbeats 4000000 in
theorem w_impl_IsBook {Ha : GH} {wa : World} (hs : Sl Ha wa) (v0 : Value) (a0 : List Record) (p0 : RSl Ha eRecord 4 v0 a0) {r : Bool} (hp : (PF.impl_IsBook a0) = some r) :
  Calls Tryz.prog 58 #[v0] wa (Sc Ha wa (Value.bool r)) := by
 unfold PF.impl_IsBook at hp
 have S0 := St.init hs
 refine calls_go (N := 50) (args := [v0]) Tryz.func58 rfl rfl rfl ?_
 refine FW.seq (FW.region ?_)
 refine FL.v (E.assign (v := Value.bool false) rfl) ?_
 refine FL.nil (FW.seq (FW.seq (FW.region ?_)))
 refine FL.v (E.move (v := v0) rfl) ?_
 refine FL.v (E.lenP te30 rfl p0) ?_
 refine FL.v (E.move (v := Value.int .i64 0) rfl) ?_
 refine FL.nil ?_
 obtain ⟨q22, hq, hp⟩ := bndR hp
 refine FW.block ?_
 refine FW.mono (FW.forL (S := Unit) (X := Bool) (fun (i22 : Nat) (s22 : Unit) f w => ∃ H : GH, St Ha wa H w [] ∧ Inc Ha H ∧ f 7 = Value.int .i64 ((i22 : Nat) : Int) ∧ f 0 = v0 ∧ f 5 = v0 ∧ f 6 = Value.int .i64 (len a0)) (fun q e f w => match q with | .go s22 => e = Exit.exit 0 ∧ (∃ H : GH, St Ha wa H w [] ∧ Inc Ha H ∧ f 0 = v0) | .rt x => ((e = Exit.ret) ∧ (fun e f w => (e = Exit.normal ∨ e = Exit.ret) ∧ ∀ a, Fr (δ := []) 50 a f → ∃ v, (results Tryz.f58 a.tmps).run Tryz.prog w = .ok v w ∧ (Sc Ha wa (Value.bool x)) (.returned v) w) e f w)) hq ⟨_, S0, (Inc.rfl _), rfl, rfl, rfl, rfl⟩ ?_ ?_) ?_
 ·
  clear hp hq
  rintro i22 y21 s22 f156 w155 ⟨H152, S153, i154, k157, k158, k159, k160⟩ hx22 o281 hp
  refine FW.seq (FW.region ?_)
  refine FL.v (E.lssT k157 k160 (lss_len hx22)) ?_
  refine FL.nil (FW.seq ?_)
  refine FW.condT rfl rfl ?_
  refine FW.skip (FW.seq (FW.block (FW.seq (FW.region ?_))))
  refine FL.v (E.move k157) ?_
  obtain ⟨p161, cs162, pt163, l164, at165, rel166⟩ := p0.at (ix_nat hx22)
  obtain rfl := eRecord_open rel166
  refine FL.v (E.indexAddr te30 k159 k157 pt163) ?_
  refine FL.v (E.load rfl (run_loadA Tryz.isAgg57 Tryz.sizeOf57 ((at165.mono i154).now S153.sl) rfl)) ?_
  obtain ⟨b167, w168, run169, S170⟩ := S153.alloc (P := Tryz.prog) 57 [Value.string ByteArray.empty, Value.int .i64 0, Value.int .i64 0, Value.int .i64 0] Tryz.zeroValue57 rfl (ones_cons rfl (ones_cons rfl (ones_cons rfl (ones_cons rfl ones_nil))))
  refine FL.v (E.alloc run169) ?_
  refine FL.v (E.assign (v := Value.int .i64 ((i22 : Nat) : Int)) rfl) ?_
  obtain ⟨w171, run172, S173⟩ := S170.store0 (P := Tryz.prog) (t := 57) (i := 0) (cs' := [Value.string y21.name, Value.int .i64 y21.system, Value.int .i64 y21.size, Value.int .i64 y21.extra]) (l' := [.box b167 57 [Value.string y21.name, Value.int .i64 y21.system, Value.int .i64 y21.size, Value.int .i64 y21.extra]]) (v := Value.agg #[Value.string y21.name, Value.int .i64 y21.system, Value.int .i64 y21.size, Value.int .i64 y21.extra]) (c := [Value.string y21.name, Value.int .i64 y21.system, Value.int .i64 y21.size, Value.int .i64 y21.extra]) rfl Tryz.sizeOf57 rfl rfl (ones_cons rfl (ones_cons rfl (ones_cons rfl (ones_cons rfl ones_nil)))) (Nat.le_of_ble_eq_true rfl) rfl rfl
  refine FL.act rfl rfl (E.store rfl rfl run172) ?_
  obtain ⟨H174, S175, i176, at177⟩ := S173.sealBox (i := 0) (l' := []) rfl rfl
  refine FL.nil (FW.seq (FW.seq (FW.region ?_)))
  refine FL.v (E.fieldAddr tf57_0 rfl) ?_
  refine FL.v (E.load rfl (run_load1 Tryz.isAgg9 (at177.now S175.sl) rfl)) ?_
  obtain ⟨r178, hr179, hp⟩ := bnd hp
  refine FL.call rfl rfl rfl (E.call Tryz.call70 (A1 rfl)) (w_impl_nameOk S175.sl y21.name hr179) ?_
  rintro e w180 ⟨rfl, r181⟩
  refine ⟨_, rfl, ?_⟩
  have S182 := S175.call r181
  refine FL.v (E.not rfl) ?_
  refine FL.v (E.move (v := Value.bool (!r178)) rfl) ?_
  refine FL.cut 5 (fun f w => ∃ H : GH, St Ha wa H w [] ∧ Inc H174 H ∧ f 0 = v0 ∧ f 3 = Value.int .i64 ((i22 : Nat) : Int) ∧ f 4 = Value.pointer (some ⟨b167, 0, none⟩) ∧ f 5 = v0 ∧ f 6 = Value.int .i64 (len a0) ∧ f 7 = Value.int .i64 ((i22 : Nat) : Int) ∧ f 21 = Value.bool (bif (!r178) then true else (!(PF.impl_systemOk y21.system)))) ?_ ?_
  ·
   rcases bcase (!r178) with c192 | c192
   ·
    refine FL.skip (wF_no rfl rfl rfl c192) rfl ?_
    refine FL.skip (wF_no rfl rfl rfl c192) rfl ?_
    refine FL.skip (wF_no rfl rfl rfl c192) rfl ?_
    refine FL.skip (wF_no rfl rfl rfl c192) rfl ?_
    refine FL.v (E.pickT rfl c192 rfl) ?_
    exact FL.nil ⟨rfl, _, S182, (Inc.rfl _), k158, rfl, rfl, k159, k160, k157, (congrArg Value.bool (bifT c192).symm)⟩
   ·
    refine FL.val (wF_yes rfl rfl rfl c192) rfl rfl (E.fieldAddr tf57_1 rfl) ?_
    refine FL.val (wF_yes rfl rfl rfl c192) rfl rfl (E.load rfl (run_load1 Tryz.isAgg3 (at177.now S182.sl) rfl)) ?_
    refine FL.call (wF_yes rfl rfl rfl c192) rfl rfl (E.call Tryz.call71 (A1 rfl)) (w_impl_systemOk S182.sl y21.system) ?_
    rintro e w193 ⟨rfl, r194⟩
    refine ⟨_, rfl, ?_⟩
    have S195 := S182.call r194
    refine FL.val (wF_yes rfl rfl rfl c192) rfl rfl (E.not rfl) ?_
    refine FL.v (E.pickF rfl c192 rfl) ?_
    exact FL.nil ⟨rfl, _, S195, (Inc.rfl _), k158, rfl, rfl, k159, k160, k157, (congrArg Value.bool (bifF c192).symm)⟩
  rintro f191 w190 ⟨H187, S188, i189, k196, k197, k198, k199, k200, k201, k202⟩
  refine FL.v (E.move k202) ?_
  refine FL.cut 5 (fun f w => ∃ H : GH, St Ha wa H w [] ∧ Inc H187 H ∧ f 0 = v0 ∧ f 3 = Value.int .i64 ((i22 : Nat) : Int) ∧ f 4 = Value.pointer (some ⟨b167, 0, none⟩) ∧ f 5 = v0 ∧ f 6 = Value.int .i64 (len a0) ∧ f 7 = Value.int .i64 ((i22 : Nat) : Int) ∧ f 27 = Value.bool (bif (bif (!r178) then true else (!(PF.impl_systemOk y21.system))) then true else (!(PF.impl_within y21.size 1 9999)))) ?_ ?_
  ·
   rcases bcase (bif (!r178) then true else (!(PF.impl_systemOk y21.system))) with c212 | c212
   ·
    refine FL.skip (wF_no rfl rfl rfl c212) rfl ?_
    refine FL.skip (wF_no rfl rfl rfl c212) rfl ?_
    refine FL.skip (wF_no rfl rfl rfl c212) rfl ?_
    refine FL.skip (wF_no rfl rfl rfl c212) rfl ?_
    refine FL.v (E.pickT rfl c212 rfl) ?_
    exact FL.nil ⟨rfl, _, S188, (Inc.rfl _), k196, k197, k198, k199, k200, k201, (congrArg Value.bool (bifT c212).symm)⟩
   ·
    refine FL.val (wF_yes rfl rfl rfl c212) rfl rfl (E.fieldAddr tf57_2 k198) ?_
    refine FL.val (wF_yes rfl rfl rfl c212) rfl rfl (E.load rfl (run_load1 Tryz.isAgg3 ((at177.mono i189).now S188.sl) rfl)) ?_
    refine FL.call (wF_yes rfl rfl rfl c212) rfl rfl (E.call Tryz.call72 (A3 rfl rfl rfl)) (w_impl_within S188.sl y21.size 1 9999) ?_
    rintro e w213 ⟨rfl, r214⟩
    refine ⟨_, rfl, ?_⟩
    have S215 := S188.call r214
    refine FL.val (wF_yes rfl rfl rfl c212) rfl rfl (E.not rfl) ?_
    refine FL.v (E.pickF rfl c212 rfl) ?_
    exact FL.nil ⟨rfl, _, S215, (Inc.rfl _), k196, k197, k198, k199, k200, k201, (congrArg Value.bool (bifF c212).symm)⟩
  rintro f211 w210 ⟨H207, S208, i209, k216, k217, k218, k219, k220, k221, k222⟩
  refine FL.v (E.move k222) ?_
  refine FL.cut 5 (fun f w => ∃ H : GH, St Ha wa H w [] ∧ Inc H207 H ∧ f 0 = v0 ∧ f 3 = Value.int .i64 ((i22 : Nat) : Int) ∧ f 4 = Value.pointer (some ⟨b167, 0, none⟩) ∧ f 5 = v0 ∧ f 6 = Value.int .i64 (len a0) ∧ f 7 = Value.int .i64 ((i22 : Nat) : Int) ∧ f 33 = Value.bool (bif (bif (bif (!r178) then true else (!(PF.impl_systemOk y21.system))) then true else (!(PF.impl_within y21.size 1 9999))) then true else (!(PF.impl_within y21.extra 0 9999)))) ?_ ?_
  ·
   rcases bcase (bif (bif (!r178) then true else (!(PF.impl_systemOk y21.system))) then true else (!(PF.impl_within y21.size 1 9999))) with c232 | c232
   ·
    refine FL.skip (wF_no rfl rfl rfl c232) rfl ?_
    refine FL.skip (wF_no rfl rfl rfl c232) rfl ?_
    refine FL.skip (wF_no rfl rfl rfl c232) rfl ?_
    refine FL.skip (wF_no rfl rfl rfl c232) rfl ?_
    refine FL.v (E.pickT rfl c232 rfl) ?_
    exact FL.nil ⟨rfl, _, S208, (Inc.rfl _), k216, k217, k218, k219, k220, k221, (congrArg Value.bool (bifT c232).symm)⟩
   ·
    refine FL.val (wF_yes rfl rfl rfl c232) rfl rfl (E.fieldAddr tf57_3 k218) ?_
    refine FL.val (wF_yes rfl rfl rfl c232) rfl rfl (E.load rfl (run_load1 Tryz.isAgg3 ((at177.mono (i189.tr i209)).now S208.sl) rfl)) ?_
    refine FL.call (wF_yes rfl rfl rfl c232) rfl rfl (E.call Tryz.call72 (A3 rfl rfl rfl)) (w_impl_within S208.sl y21.extra 0 9999) ?_
    rintro e w233 ⟨rfl, r234⟩
    refine ⟨_, rfl, ?_⟩
    have S235 := S208.call r234
    refine FL.val (wF_yes rfl rfl rfl c232) rfl rfl (E.not rfl) ?_
    refine FL.v (E.pickF rfl c232 rfl) ?_
    exact FL.nil ⟨rfl, _, S235, (Inc.rfl _), k216, k217, k218, k219, k220, k221, (congrArg Value.bool (bifF c232).symm)⟩
  rintro f231 w230 ⟨H227, S228, i229, k236, k237, k238, k239, k240, k241, k242⟩
  refine FL.nil ?_
  rcases ifB hp with ⟨c243, hp⟩ | ⟨c243, hp⟩
  ·
   refine FW.condT k242 c243 ?_
   refine FW.seq (FW.region ?_)
   refine FL.v (E.assign (v := Value.bool false) rfl) ?_
   refine FL.nil ?_
   refine FW.ret ?_
   obtain rfl := Option.some.inj hp
   exact ⟨nofun, rfl, ⟨.inr rfl, res1 rfl rfl ⟨rfl, S228.back⟩⟩⟩
  ·
   refine FW.condF k242 c243 ?_
   refine FW.skip (FW.seq ?_)
   refine FW.draw (fun w' => Run w230.heap.size H227 w230 H227 w') (by kernel_rfl) (by kernel_rfl) (run_drew S228.sl) ?_
   refine FD.val rfl rfl rfl (fun w' hw' => (E.move k237)) ?_
   refine FD.val rfl rfl rfl (fun w' hw' => (E.gtr rfl rfl)) ?_
   refine FD.val rfl rfl rfl (fun w' hw' => (E.move (v := Value.bool (decide (0 < ((i22 : Nat) : Int)))) rfl)) ?_
   obtain ⟨t255, hqt255, hp⟩ := bnd hp
   refine FD.cut 9 (fun f => f 0 = v0 ∧ f 5 = v0 ∧ f 6 = Value.int .i64 (len a0) ∧ f 7 = Value.int .i64 ((i22 : Nat) : Int) ∧ f 45 = Value.bool t255) ?_ ?_
   ·
    clear hp; have hp := hqt255; clear hqt255
    rcases ifB hp with ⟨c261, hp⟩ | ⟨c261, hp⟩
    ·
     refine FD.val (wF_yes rfl rfl rfl c261) rfl rfl (fun w' hw' => (E.move k236)) ?_
     refine FD.val (wF_yes rfl rfl rfl c261) rfl rfl (fun w' hw' => (E.move k237)) ?_
     refine FD.val (wF_yes rfl rfl rfl c261) rfl rfl (fun w' hw' => (E.sub rfl rfl)) ?_
     obtain ⟨x268, hx269, hp⟩ := bnd hp
     obtain ⟨p262, cs263, pt264, l265, at266, rel267⟩ := p0.at hx269
     obtain rfl := eRecord_open rel267
     refine FD.val (wF_yes rfl rfl rfl c261) rfl rfl (fun w' hw' => (E.indexAddr te30 rfl rfl pt264)) ?_
     refine FD.val (wF_yes rfl rfl rfl c261) rfl rfl (fun w' hw' => (E.load rfl (run_loadA Tryz.isAgg57 Tryz.sizeOf57 ((at266.mono ((((i154.tr i176).tr i189).tr i209).tr i229)).now (S228.call hw').sl) rfl))) ?_
     refine FD.val (wF_yes rfl rfl rfl c261) rfl rfl (fun w' hw' => (E.load k238 (run_loadA Tryz.isAgg57 Tryz.sizeOf57 ((at177.mono ((i189.tr i209).tr i229)).now (S228.call hw').sl) rfl))) ?_
     obtain ⟨r270, hr271, hp⟩ := bnd hp
     refine FD.call (wF_yes rfl rfl rfl c261) rfl rfl (fun w' hw' => (E.call Tryz.call61 (A2 rfl rfl))) (fun w' hw' => Calls.cls hw' (w_impl_compareRecords (S228.call hw').sl x268 y21 hr271)) ?_
     refine FD.val (wF_yes rfl rfl rfl c261) rfl rfl (fun w' hw' => (E.geq rfl rfl)) ?_
     obtain rfl := Option.some.inj hp
     refine FD.val rfl rfl rfl (fun w' hw' => (E.pickT rfl c261 rfl)) ?_
     exact FD.nil ⟨k236, k239, k240, k241, rfl⟩
    ·
     refine FD.skip (wF_no rfl rfl rfl c261) rfl ?_
     refine FD.skip (wF_no rfl rfl rfl c261) rfl ?_
     refine FD.skip (wF_no rfl rfl rfl c261) rfl ?_
     refine FD.skip (wF_no rfl rfl rfl c261) rfl ?_
     refine FD.skip (wF_no rfl rfl rfl c261) rfl ?_
     refine FD.skip (wF_no rfl rfl rfl c261) rfl ?_
     refine FD.skip (wF_no rfl rfl rfl c261) rfl ?_
     refine FD.skip (wF_no rfl rfl rfl c261) rfl ?_
     obtain rfl := Option.some.inj hp
     refine FD.val rfl rfl rfl (fun w' hw' => (E.pickF rfl c261 rfl)) ?_
     exact FD.nil ⟨k236, k239, k240, k241, rfl⟩
   rintro f260 ⟨k272, k273, k274, k275, k276⟩
   refine FD.nil ?_
   intro w277 r279
   have S278 := S228.call r279
   rcases ifB hp with ⟨c280, hp⟩ | ⟨c280, hp⟩
   ·
    refine FW.condT k276 c280 ?_
    refine FW.seq (FW.region ?_)
    refine FL.v (E.assign (v := Value.bool false) rfl) ?_
    refine FL.nil ?_
    refine FW.ret ?_
    obtain rfl := Option.some.inj hp
    exact ⟨nofun, rfl, ⟨.inr rfl, res1 rfl rfl ⟨rfl, S278.back⟩⟩⟩
   ·
    refine FW.condF k276 c280 ?_
    refine FW.skip (FW.region ?_)
    refine FL.v (E.add k275 rfl) ?_
    refine FL.v (E.move (v := Value.int .i64 (wr (((i22 : Nat) : Int) + 1))) rfl) ?_
    refine FL.nil ?_
    obtain rfl := Option.some.inj hp
    exact ⟨rfl, ⟨_, S278, ((((i154.tr i176).tr i189).tr i209).tr i229), (nat_succ rfl (lt_of_get hx22) (p0.mono ((((i154.tr i176).tr i189).tr i209).tr i229)).le), k272, k273, k274⟩⟩
 ·
  clear hp hq
  rintro s22 f292 w291 ⟨H288, S289, i290, k293, k294, k295, k296⟩
  refine FW.seq (FW.region ?_)
  refine FL.v (E.lss k293 k296) ?_
  refine FL.nil (FW.seq ?_)
  refine FW.condF rfl dlt_len ?_
  refine FW.exit ?_
  exact ⟨nofun, rfl, ⟨_, S289, i290, k294⟩⟩
 ·
  clear hq
  intro e f286 w285 hD
  rcases q22 with s22 | x22
  ·
   obtain ⟨rfl, hD⟩ := hD
   obtain ⟨H282, S283, i284, k287⟩ := hD
   replace hp := el_go hp
   refine FW.seq (FW.region ?_)
   refine FL.v (E.move k287) ?_
   refine FL.v (E.lenP te30 rfl p0) ?_
   refine FL.v (E.leq rfl rfl) ?_
   refine FL.v (E.assign (v := Value.bool (decide ((len a0) ≤ 24))) rfl) ?_
   refine FL.nil ?_
   refine FW.ret ?_
   obtain rfl := Option.some.inj hp
   exact ⟨.inr rfl, res1 rfl rfl ⟨rfl, S283.back⟩⟩
  ·
   obtain ⟨he, hL⟩ := hD
   replace hp := el_rt hp
   obtain rfl := Option.some.inj hp
   subst he
   exact hL

@[reducible] def p_slices_Clone_impl_Record_impl_Record (Ha : GH) (wa : World) (r : (List Record)) : Ending → World → Prop :=
 fun e w' => ∃ H' : GH, ∃ v0 : Value, ∃ n0 : Nat, ∃ c0 : List Value, e = .returned (v0) ∧ St Ha wa H' w' [.row 57 4 v0 n0 c0] ∧ Els (up wa.heap.size H') eRecord 4 c0 r
theorem w_slices_Clone_impl_Record_impl_Record {Ha : GH} {wa : World} (hs : Sl Ha wa) (v0 : Value) (a0 : List Record) (p0 : RSl Ha eRecord 4 v0 a0) {r : (List Record)} (hp : (PF.slices_Clone_impl_Record_impl_Record a0) = some r) :
  Calls Tryz.prog 59 #[v0] wa (p_slices_Clone_impl_Record_impl_Record Ha wa r) := by
 unfold PF.slices_Clone_impl_Record_impl_Record at hp
 have S0 := St.init hs
 refine calls_go (N := 8) (args := [v0]) Tryz.func59 rfl rfl rfl ?_
 refine FW.seq (FW.region ?_)
 refine FL.v (E.assign (v := Value.slice none 0 0) rfl) ?_
 refine FL.nil (FW.seq (FW.seq (FW.region ?_)))
 refine FL.v (E.move (v := v0) rfl) ?_
 obtain ⟨nb21, run22, hn23⟩ := RSl.nilTest te30 p0
 refine FL.v (run22 _ _ _ _ _ _ _ _ _ _ _ _ rfl rfl) ?_
 refine FL.nil ?_
 rcases bcase nb21 with c24 | c24
 ·
  refine FW.condT (b := nb21) rfl c24 ?_
  rw [hn23 c24, app_nil2] at hp
  refine FW.seq (FW.region ?_)
  refine FL.v (E.assign (v := Value.slice none 0 0) rfl) ?_
  refine FL.nil ?_
  refine FW.ret ?_
  obtain rfl := Option.some.inj hp
  exact ⟨.inr rfl, res1 rfl rfl ⟨_, _, _, _, rfl, (S0.nil 57 4), Els.nil⟩⟩
 ·
  refine FW.condF (b := nb21) rfl c24 ?_
  refine FW.skip (FW.seq (FW.region ?_))
  obtain ⟨v25, w26, run27, S28⟩ := S0.buildSlice (P := Tryz.prog) te30 [] (parts := #[]) (cells := []) rfl szs_nil fc_nil ones_nil (Nat.le_of_ble_eq_true rfl)
  have els29 : Els (up wa.heap.size Ha) eRecord 4 [] [] := Els.nil
  refine FL.v (E.buildSlice (B0) run27) ?_
  refine FL.v (E.move (v := v0) rfl) ?_
  obtain ⟨xs30, hz31, hp⟩ := bnd hp
  obtain ⟨v32, w35, n33, cs34, run36, S37, els38⟩ := S28.appendP (P := Tryz.prog) (Inc.rfl _) te30 (i := 0) rfl (els29.mono upI) p0 hz31
  have S37 : St Ha wa Ha w35 [.row 57 4 v32 n33 cs34] := S37
  have els38 : Els (up wa.heap.size Ha) eRecord 4 cs34 xs30 := els38.any (fun _ _ _ _ h => h)
  refine FL.v (E.append rfl rfl run36) ?_
  refine FL.v (E.assign (v := v32) rfl) ?_
  refine FL.nil ?_
  refine FW.ret ?_
  obtain rfl := Option.some.inj hp
  exact ⟨.inr rfl, res1 rfl rfl ⟨_, _, _, _, rfl, S37, els38⟩⟩

set_option maxHeartbeats 4000000 in
theorem w_slices_BinarySearchFunc_impl_Record_impl_Record_impl_Record {Ha : GH} {wa : World} (hs : Sl Ha wa) (v0 : Value) (a0 : List Record) (p0 : RSl Ha eRecord 4 v0 a0) (a1 : Record) (v2 : Value) (a2 : Record → Record → Option Int) (p2 : Fn_Record_Record_to_I Tryz.prog Ha v2 a2) {r : (Int × Bool)} (hp : (PF.slices_BinarySearchFunc_impl_Record_impl_Record_impl_Record a0 a1 a2) = some r) :
  Calls Tryz.prog 60 #[v0, Value.agg #[Value.string a1.name, Value.int .i64 a1.system, Value.int .i64 a1.size, Value.int .i64 a1.extra], v2] wa (Sc Ha wa (Value.tuple #[Value.int .i64 r.1, Value.bool r.2])) := by
 unfold PF.slices_BinarySearchFunc_impl_Record_impl_Record_impl_Record at hp
 have S0 := St.init hs
 refine calls_go (N := 49) (args := [v0, Value.agg #[Value.string a1.name, Value.int .i64 a1.system, Value.int .i64 a1.size, Value.int .i64 a1.extra], v2]) Tryz.func60 rfl rfl rfl ?_
 refine FW.seq (FW.region ?_)
 obtain ⟨b21, w22, run23, S24⟩ := S0.box (P := Tryz.prog) 57 [Value.string a1.name, Value.int .i64 a1.system, Value.int .i64 a1.size, Value.int .i64 a1.extra] (v := Value.agg #[Value.string a1.name, Value.int .i64 a1.system, Value.int .i64 a1.size, Value.int .i64 a1.extra]) rfl (ones_cons rfl (ones_cons rfl (ones_cons rfl (ones_cons rfl ones_nil))))
 refine FL.v (E.box rfl run23) ?_
 obtain ⟨H25, S26, i27, at28⟩ := S24.sealBox (i := 0) (l' := []) rfl rfl
 refine FL.v (E.assign (v := Value.int .i64 0) rfl) ?_
 refine FL.v (E.assign (v := Value.bool false) rfl) ?_
 refine FL.nil (FW.seq (FW.region ?_))
 refine FL.v (E.move (v := v0) rfl) ?_
 refine FL.v (E.lenP te30 rfl p0) ?_
 refine FL.v (E.assign (v := Value.int .i64 (len a0)) rfl) ?_
 refine FL.nil (FW.seq (FW.region ?_))
 refine FL.v (E.move (v := Value.int .i64 (len a0)) rfl) ?_
 refine FL.v (E.assign (v := Value.int .i64 0) rfl) ?_
 refine FL.v (E.assign (v := Value.int .i64 (len a0)) rfl) ?_
 refine FL.nil (FW.seq ?_)
 obtain ⟨q29, hq, hp⟩ := bndR hp
 refine FW.block ?_
 refine FW.mono (FW.iter (S := (Int × Int)) (X := Empty) (fun (s29 : (Int × Int)) f w => ∃ H : GH, St Ha wa H w [] ∧ Inc H25 H ∧ f 0 = v0 ∧ f 2 = v2 ∧ f 4 = Value.pointer (some ⟨b21, 0, none⟩) ∧ f 8 = Value.int .i64 (len a0) ∧ f 9 = Value.int .i64 s29.1 ∧ f 10 = Value.int .i64 s29.2) (fun (q : Rs (Int × Int) Empty) e f w => match q with | .go s29 => e = Exit.exit 0 ∧ (∃ H : GH, St Ha wa H w [] ∧ Inc H25 H ∧ f 0 = v0 ∧ f 2 = v2 ∧ f 4 = Value.pointer (some ⟨b21, 0, none⟩) ∧ f 8 = Value.int .i64 (len a0) ∧ f 9 = Value.int .i64 s29.1) | .rt x => x.elim) hq ⟨_, S26, (Inc.rfl _), rfl, rfl, rfl, rfl, rfl, rfl⟩ ?_) ?_
 ·
  clear hp hq
  rintro s29 f35 w34 ⟨H31, S32, i33, k36, k37, k38, k39, k40, k41⟩ o78 hp
  refine FW.seq (FW.seq (FW.region ?_))
  refine FL.v (E.move k40) ?_
  refine FL.v (E.move k41) ?_
  refine FL.v (E.lss rfl rfl) ?_
  refine FL.nil ?_
  rcases ifB hp with ⟨c42, hp⟩ | ⟨c42, hp⟩
  ·
   refine FW.condT rfl c42 ?_
   refine FW.skip (FW.block (FW.seq (FW.region ?_)))
   refine FL.v (E.move k40) ?_
   refine FL.v (E.move k41) ?_
   refine FL.v (E.add rfl rfl) ?_
   refine FL.v (E.conv Tryz.runUnderlying3 Tryz.runUnderlying99 rfl) ?_
   refine FL.v (E.shr rfl rfl (by decide)) ?_
   refine FL.v (E.conv Tryz.runUnderlying99 Tryz.runUnderlying3 rfl) ?_
   refine FL.v (E.assign (v := Value.int .i64 (wrk true 64 (shrK 64 (wrk false 64 (wr (s29.1 + s29.2))) 1))) rfl) ?_
   refine FL.nil (FW.seq ?_)
   obtain ⟨x52, hx53, hp⟩ := bnd hp
   obtain ⟨r54, hr55, hp⟩ := bnd hp
   refine FW.drawB (Sl H31) (fun f w => ∃ H : GH, St Ha wa H w [] ∧ Inc H31 H ∧ f 0 = v0 ∧ f 2 = v2 ∧ f 4 = Value.pointer (some ⟨b21, 0, none⟩) ∧ f 8 = Value.int .i64 (len a0) ∧ f 9 = Value.int .i64 s29.1 ∧ f 10 = Value.int .i64 s29.2 ∧ f 11 = Value.int .i64 (wrk true 64 (shrK 64 (wrk false 64 (wr (s29.1 + s29.2))) 1)) ∧ f 31 = Value.bool (decide (r54 < 0))) (by kernel_rfl) S32.sl ?_ ?_
   ·
    intro w43 r44
    have S45 := S32.call r44
    refine FB.t (i := 0) (bs 8 1) rfl (SP.nil S45.sl) rfl (fun w' hw' => (E.move k37)) ?_
    refine FB.t (i := 1) (bs 8 3) rfl (SP.nil S45.sl) rfl (fun w' hw' => (E.move k36)) ?_
    refine FB.t (i := 2) (bs 8 7) rfl (SP.nil S45.sl) rfl (fun w' hw' => (E.move (v := Value.int .i64 (wrk true 64 (shrK 64 (wrk false 64 (wr (s29.1 + s29.2))) 1))) rfl)) ?_
    obtain ⟨p46, cs47, pt48, l49, at50, rel51⟩ := p0.at hx53
    obtain rfl := eRecord_open rel51
    refine FB.t (i := 3) (bs 8 15) rfl (SP.nil S45.sl) rfl (fun w' hw' => (E.indexAddr te30 rfl rfl pt48)) ?_
    refine FB.t (i := 4) (bs 8 31) rfl (SP.nil S45.sl) rfl (fun w' hw' => (E.load rfl (run_loadA Tryz.isAgg57 Tryz.sizeOf57 ((at50.mono (i27.tr i33)).now hw') rfl))) ?_
    refine FB.t (i := 5) (bs 8 63) rfl (SP.nil S45.sl) rfl (fun w' hw' => (E.load k38 (run_loadA Tryz.isAgg57 Tryz.sizeOf57 ((at28.mono i33).now hw') rfl))) ?_
    refine FB.all1 (i := 6) (by kernel_rfl) ?_
    ·
     obtain ⟨fi59, cs60, hv61, he62, hc63⟩ := (p2.mono (i27.tr i33)) H31 w43 (Inc.rfl _) S45.sl x52 a1 r54 hr55
     refine FC.call (l' := (bs 8 127)) rfl (by kernel_rfl) rfl rfl rfl (E.callV he62 (Eq.trans rfl hv61) (appA (A2 rfl rfl) cs60)) hc63 ?_
     rintro e w56 ⟨rfl, r57⟩
     refine ⟨_, rfl, ?_⟩
     have S58 := S45.call r57
     refine ⟨(SP.nil S58.sl), ?_⟩
     refine FB.t (i := 7) (bs 8 255) rfl (SP.nil S58.sl) rfl (fun w' hw' => (E.lss rfl rfl)) ?_
     exact FB.done (by kernel_rfl) ⟨_, S58, (Inc.rfl _), k36, k37, k38, k39, k40, k41, rfl, rfl⟩
   ·
    rintro f68 w67 ⟨H64, S65, i66, k69, k70, k71, k72, k73, k74, k75, k76⟩
    rcases ifB hp with ⟨c77, hp⟩ | ⟨c77, hp⟩
    ·
     refine FW.condT k76 c77 ?_
     refine FW.region ?_
     refine FL.v (E.move k75) ?_
     refine FL.v (E.add rfl rfl) ?_
     refine FL.v (E.assign (v := Value.int .i64 (wr ((wrk true 64 (shrK 64 (wrk false 64 (wr (s29.1 + s29.2))) 1)) + 1))) rfl) ?_
     refine FL.nil ?_
     obtain rfl := Option.some.inj hp
     exact ⟨rfl, ⟨_, S65, (i33.tr i66), k69, k70, k71, k72, rfl, k74⟩⟩
    ·
     refine FW.condF k76 c77 ?_
     refine FW.region ?_
     refine FL.v (E.move k75) ?_
     refine FL.v (E.assign (v := Value.int .i64 (wrk true 64 (shrK 64 (wrk false 64 (wr (s29.1 + s29.2))) 1))) rfl) ?_
     refine FL.nil ?_
     obtain rfl := Option.some.inj hp
     exact ⟨rfl, ⟨_, S65, (i33.tr i66), k69, k70, k71, k72, k73, rfl⟩⟩
  ·
   refine FW.condF rfl c42 ?_
   refine FW.exit ?_
   obtain rfl := Option.some.inj hp
   exact ⟨nofun, rfl, ⟨_, S32, i33, k36, k37, k38, k39, k40⟩⟩
 ·
  clear hq
  intro e f83 w82 hD
  rcases q29 with s29 | x29
  ·
   obtain ⟨rfl, hD⟩ := hD
   obtain ⟨H79, S80, i81, k84, k85, k86, k87, k88⟩ := hD
   replace hp := el_go hp
   refine FW.seq ?_
   obtain ⟨t88_13, hqt88_13, hp⟩ := bnd hp
   refine FW.drawB (Sl H79) (fun f w => ∃ H : GH, St Ha wa H w [] ∧ Inc H79 H ∧ f 6 = Value.int .i64 s29.1 ∧ f 7 = Value.bool t88_13) (by kernel_rfl) S80.sl ?_ ?_
   ·
    intro w89 r90
    have S91 := S80.call r90
    refine FB.t (i := 0) (bs 16 1) rfl (SP.nil S91.sl) rfl (fun w' hw' => (E.move k88)) ?_
    refine FB.t (i := 1) (bs 16 3) rfl (SP.nil S91.sl) rfl (fun w' hw' => (E.move k88)) ?_
    refine FB.t (i := 2) (bs 16 7) rfl (SP.nil S91.sl) rfl (fun w' hw' => (E.move k87)) ?_
    refine FB.t (i := 3) (bs 16 15) rfl (SP.nil S91.sl) rfl (fun w' hw' => (E.lss rfl rfl)) ?_
    refine FB.t (i := 4) (bs 16 31) rfl (SP.nil S91.sl) rfl (fun w' hw' => (E.move (v := Value.bool (decide (s29.1 < (len a0)))) rfl)) ?_
    rcases ifB hqt88_13 with ⟨hc88_4, hqt88_13⟩ | ⟨hc88_4, hqt88_13⟩
    ·
     obtain ⟨x98, hx99, hqt88_13⟩ := bnd hqt88_13
     obtain ⟨r100, hr101, hqt88_13⟩ := bnd hqt88_13
     refine FB.t (i := 5) (bs 16 63) rfl (SP.nil S91.sl) (wF_yes rfl rfl rfl hc88_4) (fun w' hw' => (E.move k85)) ?_
     refine FB.t (i := 6) (bs 16 127) rfl (SP.nil S91.sl) (wF_yes rfl rfl rfl hc88_4) (fun w' hw' => (E.move k84)) ?_
     refine FB.t (i := 7) (bs 16 255) rfl (SP.nil S91.sl) (wF_yes rfl rfl rfl hc88_4) (fun w' hw' => (E.move k88)) ?_
     obtain ⟨p92, cs93, pt94, l95, at96, rel97⟩ := p0.at hx99
     obtain rfl := eRecord_open rel97
     refine FB.t (i := 8) (bs 16 511) rfl (SP.nil S91.sl) (wF_yes rfl rfl rfl hc88_4) (fun w' hw' => (E.indexAddr te30 rfl rfl pt94)) ?_
     refine FB.t (i := 9) (bs 16 1023) rfl (SP.nil S91.sl) (wF_yes rfl rfl rfl hc88_4) (fun w' hw' => (E.load rfl (run_loadA Tryz.isAgg57 Tryz.sizeOf57 ((at96.mono (i27.tr i81)).now hw') rfl))) ?_
     refine FB.t (i := 10) (bs 16 2047) rfl (SP.nil S91.sl) (wF_yes rfl rfl rfl hc88_4) (fun w' hw' => (E.load k86 (run_loadA Tryz.isAgg57 Tryz.sizeOf57 ((at28.mono i81).now hw') rfl))) ?_
     refine FB.all1 (i := 11) (by kernel_rfl) ?_
     ·
      obtain ⟨fi105, cs106, hv107, he108, hc109⟩ := (p2.mono (i27.tr i81)) H79 w89 (Inc.rfl _) S91.sl x98 a1 r100 hr101
      refine FC.call (l' := (bs 16 4095)) rfl (by kernel_rfl) (wF_yes rfl rfl rfl hc88_4) rfl rfl (E.callV he108 (Eq.trans rfl hv107) (appA (A2 rfl rfl) cs106)) hc109 ?_
      rintro e w102 ⟨rfl, r103⟩
      refine ⟨_, rfl, ?_⟩
      have S104 := S91.call r103
      refine ⟨(SP.nil S104.sl), ?_⟩
      refine FB.t (i := 12) (bs 16 8191) rfl (SP.nil S104.sl) (wF_yes rfl rfl rfl hc88_4) (fun w' hw' => (E.eql rfl rfl)) ?_
      refine FB.t (i := 13) (bs 16 16383) rfl (SP.nil S104.sl) rfl (fun w' hw' => (E.asB (E.pickT rfl hc88_4 rfl) (Option.some.inj hqt88_13))) ?_
      refine FB.t (i := 14) (bs 16 32767) rfl (SP.nil S104.sl) rfl (fun w' hw' => (E.assign (v := Value.int .i64 s29.1) rfl)) ?_
      refine FB.t (i := 15) (bs 16 65535) rfl (SP.nil S104.sl) rfl (fun w' hw' => (E.assign (v := Value.bool t88_13) rfl)) ?_
      exact FB.done (by kernel_rfl) ⟨_, S104, (Inc.rfl _), rfl, rfl⟩
    ·
     refine FB.skip (i := 5) (l' := (bs 16 63)) rfl (by kernel_rfl) (by kernel_rfl) (by kernel_rfl) (by kernel_rfl) (by kernel_rfl) (SP.nil S91.sl) (wF_no rfl rfl rfl hc88_4) rfl rfl ?_
     refine FB.skip (i := 6) (l' := (bs 16 127)) rfl (by kernel_rfl) (by kernel_rfl) (by kernel_rfl) (by kernel_rfl) (by kernel_rfl) (SP.nil S91.sl) (wF_no rfl rfl rfl hc88_4) rfl rfl ?_
     refine FB.skip (i := 7) (l' := (bs 16 255)) rfl (by kernel_rfl) (by kernel_rfl) (by kernel_rfl) (by kernel_rfl) (by kernel_rfl) (SP.nil S91.sl) (wF_no rfl rfl rfl hc88_4) rfl rfl ?_
     refine FB.skip (i := 8) (l' := (bs 16 511)) rfl (by kernel_rfl) (by kernel_rfl) (by kernel_rfl) (by kernel_rfl) (by kernel_rfl) (SP.nil S91.sl) (wF_no rfl rfl rfl hc88_4) rfl rfl ?_
     refine FB.skip (i := 9) (l' := (bs 16 1023)) rfl (by kernel_rfl) (by kernel_rfl) (by kernel_rfl) (by kernel_rfl) (by kernel_rfl) (SP.nil S91.sl) (wF_no rfl rfl rfl hc88_4) rfl rfl ?_
     refine FB.skip (i := 10) (l' := (bs 16 2047)) rfl (by kernel_rfl) (by kernel_rfl) (by kernel_rfl) (by kernel_rfl) (by kernel_rfl) (SP.nil S91.sl) (wF_no rfl rfl rfl hc88_4) rfl rfl ?_
     refine FB.skip (i := 11) (l' := (bs 16 4095)) rfl (by kernel_rfl) (by kernel_rfl) (by kernel_rfl) (by kernel_rfl) (by kernel_rfl) (SP.nil S91.sl) (wF_no rfl rfl rfl hc88_4) rfl rfl ?_
     refine FB.skip (i := 12) (l' := (bs 16 8191)) rfl (by kernel_rfl) (by kernel_rfl) (by kernel_rfl) (by kernel_rfl) (by kernel_rfl) (SP.nil S91.sl) (wF_no rfl rfl rfl hc88_4) rfl rfl ?_
     refine FB.t (i := 13) (bs 16 16383) rfl (SP.nil S91.sl) rfl (fun w' hw' => (E.asB (E.pickF rfl hc88_4 rfl) (Option.some.inj hqt88_13))) ?_
     refine FB.t (i := 14) (bs 16 32767) rfl (SP.nil S91.sl) rfl (fun w' hw' => (E.assign (v := Value.int .i64 s29.1) rfl)) ?_
     refine FB.t (i := 15) (bs 16 65535) rfl (SP.nil S91.sl) rfl (fun w' hw' => (E.assign (v := Value.bool t88_13) rfl)) ?_
     exact FB.done (by kernel_rfl) ⟨_, S91, (Inc.rfl _), rfl, rfl⟩
   ·
    rintro f114 w113 ⟨H110, S111, i112, k115, k116⟩
    refine FW.ret ?_
    obtain rfl := Option.some.inj hp
    exact ⟨.inr rfl, res2 rfl k115 k116 ⟨rfl, S111.back⟩⟩
  ·
   exact x29.elim

@[reducible] def p_slices_Insert_impl_Record_impl_Record (H0 : GH) (w0 : World) (Ha : GH) (L : List MO) (v2 : Value) (n2 : Nat) (r : ((List Record) × (List Record))) : Ending → World → Prop :=
 fun e w' => ∃ H' : GH, ∃ v0r : Value, ∃ n0r : Nat, ∃ c0r : List Value, ∃ c2k : List Value, e = .returned (v0r) ∧ (St H0 w0 H' w' (.row 57 4 v0r n0r c0r :: .row 57 4 v2 n2 c2k :: L) ∧ Inc Ha H') ∧ Els (up w0.heap.size H') eRecord 4 c0r r.1 ∧ Els (up w0.heap.size H') eRecord 4 c2k r.2
theorem w_slices_Insert_impl_Record_impl_Record {H0 Ha : GH} {w0 wa : World} {L : List MO} {v0 : Value} {n0 : Nat} {k0 : List Value} {v2 : Value} {n2 : Nat} {k2 : List Value} (S0 : St H0 w0 Ha wa (.row 57 4 v0 n0 k0 :: .row 57 4 v2 n2 k2 :: L)) (a0 : List Record) (p0 : Els (up w0.heap.size Ha) eRecord 4 k0 a0) (a1 : Int) (a2 : List Record) (p2 : Els (up w0.heap.size Ha) eRecord 4 k2 a2) {r : ((List Record) × (List Record))} (hp : (PF.slices_Insert_impl_Record_impl_Record a0 a1 a2) = some r) :
  Calls Tryz.prog 62 #[v0, Value.int .i64 a1, v2] wa (p_slices_Insert_impl_Record_impl_Record H0 w0 Ha L v2 n2 r) := by
 unfold PF.slices_Insert_impl_Record_impl_Record insL at hp
 split at hp
 ·
  rename_i hc
  obtain ⟨h0, hil, hm, hlim⟩ := hc
  cases hp
  obtain ⟨i, rfl⟩ := Int.eq_ofNat_of_zero_le h0
  rw [Int.toNat_natCast]
  have hn0 := S0.row_n (i := 0) rfl p0 (by decide)
  have hn2 : n2 = 1 := by have := S0.row_n (i := 1) rfl p2 (by decide); omega
  subst hn2 hn0
  have hle : i ≤ a0.length := by omega
  have hl := show lim = 4294967296 from rfl
  have hsp : ∃ a cap, v0 = .slice a a0.length cap ∧ a0.length ≤ cap ∧ (a = none → a0.length = 0) ∧ (∀ p, a = some p → ∃ g, p = ⟨g, 0, none⟩) := by
   obtain ⟨⟨_, q2⟩, _⟩ := S0.ok 0 _ rfl
   rcases q2 with ⟨rfl, h3⟩ | ⟨g, cap, cur, rfl, _, _, hle, _⟩
   ·
    exact ⟨none, 0, by rw [h3], by omega, fun _ => h3, nofun⟩
   ·
    exact ⟨_, cap, rfl, hle, nofun, fun p e => ⟨g, by cases e; rfl⟩⟩
  have hsp2 : ∃ g2 cap2, v2 = .slice (some ⟨g2, 0, none⟩) 1 cap2 := by
   obtain ⟨⟨_, q2⟩, _⟩ := S0.ok 1 _ rfl
   rcases q2 with ⟨rfl, h3⟩ | ⟨g, cap, cur, rfl, _, _, hle, _⟩
   ·
    cases h3
   ·
    exact ⟨g, cap, rfl⟩
  obtain ⟨a, cap, rfl, hcap, hnil, hsome⟩ := hsp
  obtain ⟨g2, cap2, rfl⟩ := hsp2
  have hone2 := (S0.ok 1 _ rfl).2
  have hs1 := fun w => run_slice_ab (w := w) te30 (a := a) (len := a0.length) (cap := cap) (p := (i : Int)) (q := (a0.length : Int)) (lo := some (.int .i64 (i : Int))) (hi := none) (by omega) (by omega) (by omega) (.inr ⟨_, rfl⟩) (.inl ⟨rfl, rfl⟩)
  refine calls_go (N := 95) (args := [.slice a a0.length cap, Value.int .i64 (i : Int), .slice (some ⟨g2, 0, none⟩) 1 cap2]) Tryz.func62 rfl rfl rfl ?_
  refine FW.seq (FW.region ?_)
  refine FL.v (E.assign (v := Value.slice none 0 0) rfl) ?_
  refine FL.nil (FW.seq (FW.region ?_))
  refine FL.v (E.move (v := .slice a a0.length cap) rfl) ?_
  refine FL.v (E.move (v := Value.int .i64 (i : Int)) rfl) ?_
  refine FL.v (E.slice te30 rfl rfl rfl rfl (hs1 _)) ?_
  refine FL.nil (FW.seq (FW.region ?_))
  refine FL.v (E.move (v := .slice (some ⟨g2, 0, none⟩) 1 cap2) rfl) ?_
  refine FL.v (E.len te30 (n := 1) rfl ⟨_, _, rfl⟩) ?_
  refine FL.v (E.assign (v := Value.int .i64 ((1 : Nat) : Int)) rfl) ?_
  refine FL.nil (FW.seq (FW.seq (FW.region ?_)))
  refine FL.v (E.move (v := Value.int .i64 ((1 : Nat) : Int)) rfl) ?_
  refine FL.v (E.eql rfl rfl) ?_
  refine FL.nil ?_
  refine FW.condF rfl rfl ?_
  refine FW.skip (FW.seq (FW.region ?_))
  refine FL.v (E.move (v := .slice a a0.length cap) rfl) ?_
  refine FL.v (E.len te30 (n := a0.length) rfl ⟨_, _, rfl⟩) ?_
  refine FL.v (E.assign (v := Value.int .i64 (a0.length : Int)) rfl) ?_
  refine FL.nil (FW.seq (FW.seq (FW.region ?_)))
  refine FL.v (E.move (v := Value.int .i64 (i : Int)) rfl) ?_
  refine FL.v (E.move (v := Value.int .i64 (a0.length : Int)) rfl) ?_
  refine FL.v (E.eql rfl rfl) ?_
  refine FL.nil ?_
  by_cases hend : i = a0.length
  ·
   subst hend
   refine FW.condT rfl (by simp) ?_
   refine FW.seq (FW.region ?_)
   refine FL.v (E.move (v := .slice a a0.length cap) rfl) ?_
   refine FL.v (E.move (v := .slice (some ⟨g2, 0, none⟩) 1 cap2) rfl) ?_
   obtain ⟨v', w1, hr, S1⟩ := S0.append (P := Tryz.prog) (l' := fun o => o ++ (.row 57 4 (.slice (some ⟨g2, 0, none⟩) 1 cap2) 1 k2 :: L)) te30 (i := 0) rfl (S0.row_src (i := 1) rfl) hone2 (by omega) (fun o => rfl)
   refine FL.v (E.append rfl rfl hr) ?_
   refine FL.v (E.assign (v := v') rfl) ?_
   refine FL.nil ?_
   refine FW.ret ?_
   have he : Els (up w0.heap.size Ha) eRecord 4 (k0 ++ k2) (a0.take a0.length ++ a2 ++ a0.drop a0.length) := by
    rw [List.take_length, List.drop_length, List.append_nil]; exact p0.app p2
   exact ⟨.inr rfl, res1 rfl rfl ⟨_, _, _, _, _, rfl, ⟨S1, Inc.rfl _⟩, he, p2⟩⟩
  ·
   have hlt : i < a0.length := by omega
   obtain ⟨g, rfl⟩ : ∃ g, a = some ⟨g, 0, none⟩ := by
    cases a with
    | none => have := hnil rfl; omega
    | some p => obtain ⟨g, rfl⟩ := hsome p rfl; exact ⟨g, rfl⟩
   obtain ⟨cur, hR⟩ := S0.rw (i := 0) rfl
   have het : Els (up w0.heap.size Ha) eRecord 4 (k0.take (i * 4) ++ k2 ++ k0.drop (i * 4)) (a0.take i ++ a2 ++ a0.drop i) := ((els_take p0 i hle).app p2).app (els_dropQ p0 i hle)
   refine FW.condF rfl (by simp; omega) ?_
   refine FW.skip (FW.seq (FW.seq (FW.region ?_)))
   refine FL.v (E.move (v := Value.int .i64 (a0.length : Int)) rfl) ?_
   refine FL.v (E.move (v := Value.int .i64 ((1 : Nat) : Int)) rfl) ?_
   refine FL.v (E.addW (c := ((a0.length + 1 : Nat) : Int)) rfl rfl (by rw [wr_of _ (by omega) (by omega)]; omega)) ?_
   refine FL.v (E.move (v := .slice (some ⟨g, 0, none⟩) a0.length cap) rfl) ?_
   refine FL.v (E.cap te30 rfl) ?_
   refine FL.v (E.gtr rfl rfl) ?_
   refine FL.nil ?_
   by_cases hroom : cap < a0.length + 1
   ·
    refine FW.condT rfl (by simp; omega) ?_
    refine FW.seq (FW.region ?_)
    refine FL.v (E.move (v := .slice (some ⟨g, 0, none⟩) a0.length cap) rfl) ?_
    refine FL.v (E.move (v := Value.int .i64 (i : Int)) rfl) ?_
    refine FL.v (E.slice te30 rfl rfl rfl rfl (run_part te30 (p := 0) (q := i) (Nat.zero_le _) (by omega) (by omega) (.inl ⟨rfl, rfl⟩) (.inr rfl) _)) ?_
    refine FL.v (E.move (v := Value.int .i64 (a0.length : Int)) rfl) ?_
    refine FL.v (E.move (v := Value.int .i64 ((1 : Nat) : Int)) rfl) ?_
    refine FL.v (E.addW (c := ((a0.length + 1 : Nat) : Int)) rfl rfl (by rw [wr_of _ (by omega) (by omega)]; omega)) ?_
    refine FL.v (E.move (v := Value.int .i64 (i : Int)) rfl) ?_
    refine FL.v (E.subW (c := ((a0.length + 1 - i : Nat) : Int)) rfl rfl (by rw [wr_of _ (by omega) (by omega)]; omega)) ?_
    obtain ⟨g', cap', w1, hr1, S1⟩ := S0.growZ te30 Tryz.underlying3 (i := 0) rfl hlt hroom hlim (by decide)
    have hr1' : ∀ ty, (Builtin.append_ #[30, 3] ty #[.slice (some ⟨g, 0 * 4, none⟩) (i - 0) (cap - 0), .int .i64 ((a0.length + 1 - i : Nat) : Int)]).run Tryz.prog wa = .ok (.slice (some ⟨g', 0, none⟩) (a0.length + 1) cap') w1 := by
     simpa using hr1
    refine FL.v (E.appendZ rfl rfl hr1') ?_
    refine FL.v (E.assign (v := .slice (some ⟨g', 0, none⟩) (a0.length + 1) cap') rfl) ?_
    refine FL.nil (FW.seq (FW.region ?_))
    obtain ⟨cur1, hR1⟩ := S1.rw (i := 0) rfl
    have hc1 := hR1.le
    refine FL.v (E.move (v := .slice (some ⟨g', 0, none⟩) (a0.length + 1) cap') rfl) ?_
    refine FL.v (E.move (v := Value.int .i64 (i : Int)) rfl) ?_
    refine FL.v (E.slice te30 rfl rfl rfl rfl (run_part te30 (p := i) (q := a0.length + 1) (by omega) (by omega) (by omega) (.inr rfl) (.inl ⟨rfl, rfl⟩) _)) ?_
    refine FL.v (E.move (v := .slice (some ⟨g2, 0, none⟩) 1 cap2) rfl) ?_
    obtain ⟨w2, hr2, S2⟩ := S1.copyIn te30 (i := 0) (p := i) (m := 1) rfl (S1.row_src (i := 2) rfl) hone2 (by decide) (by omega) (cap' - i)
    refine FL.v (E.copy rfl rfl hr2) ?_
    refine FL.nil (FW.seq ?_)
    refine FW.drawB (fun _ => True) (fun f w => (∃ cs, St H0 w0 Ha w (.row 57 4 (.slice (some ⟨g', 0, none⟩) (a0.length + 1) cap') (a0.length + 1) cs :: .row 57 4 (.slice (some ⟨g, 0, none⟩) a0.length cap) a0.length k0 :: .row 57 4 (.slice (some ⟨g2, 0, none⟩) 1 cap2) 1 k2 :: L) ∧ cs = k0.take (i * 4) ++ k2 ++ k0.drop (i * 4)) ∧ f 9 = .slice (some ⟨g', 0, none⟩) (a0.length + 1) cap') (by kernel_rfl) S2.sl ?_ ?_
    ·
     intro w3 r3
     have S3 := S2.call r3
     obtain ⟨cur3, hR3⟩ := S3.rw (i := 1) rfl
     obtain ⟨w4, hr4, S4⟩ := S3.copyIn te30 (i := 0) (p := i + 1) (m := a0.length - i) rfl (hR3.src (a := i) (by omega) (cap - i)) (fun c hc => (S0.ok 0 _ rfl).2 c (List.mem_of_mem_drop hc)) (by omega) (by omega) (cap' - (i + 1))
     refine FB.t (i := 0) (bs 9 1) rfl (SP.nil trivial) rfl (fun w' _ => E.move (v := .slice (some ⟨g', 0, none⟩) (a0.length + 1) cap') rfl) ?_
     refine FB.t (i := 1) (bs 9 3) rfl (SP.nil trivial) rfl (fun w' _ => E.move (v := Value.int .i64 (i : Int)) rfl) ?_
     refine FB.t (i := 2) (bs 9 7) rfl (SP.nil trivial) rfl (fun w' _ => E.move (v := Value.int .i64 ((1 : Nat) : Int)) rfl) ?_
     refine FB.t (i := 3) (bs 9 15) rfl (SP.nil trivial) rfl (fun w' _ => E.addW (c := ((i + 1 : Nat) : Int)) rfl rfl (by rw [wr_of _ (by omega) (by omega)]; omega)) ?_
     refine FB.t (i := 4) (bs 9 31) rfl (SP.nil trivial) rfl (fun w' _ => E.slice te30 rfl rfl rfl rfl (run_part te30 (p := i + 1) (q := a0.length + 1) (by omega) (by omega) (by omega) (.inr rfl) (.inl ⟨rfl, rfl⟩) _)) ?_
     refine FB.t (i := 5) (bs 9 63) rfl (SP.nil trivial) rfl (fun w' _ => E.move (v := .slice (some ⟨g, 0, none⟩) a0.length cap) rfl) ?_
     refine FB.t (i := 6) (bs 9 127) rfl (SP.nil trivial) rfl (fun w' _ => E.move (v := Value.int .i64 (i : Int)) rfl) ?_
     refine FB.t (i := 7) (bs 9 255) rfl (SP.nil trivial) rfl (fun w' _ => E.slice te30 rfl rfl rfl rfl (run_part te30 (p := i) (q := a0.length) (by omega) (by omega) (by omega) (.inr rfl) (.inl ⟨rfl, rfl⟩) _)) ?_
     refine FB.all1 (i := 8) (by kernel_rfl) ?_
     refine FC.val (l' := bs 9 511) rfl (by kernel_rfl) rfl rfl rfl (E.copy rfl rfl hr4) ⟨SP.nil trivial, FB.done (by kernel_rfl) ⟨⟨_, S4, ?_⟩, rfl⟩⟩
     have e1 : (k0.take (i * 4)).length = i * 4 := by rw [List.length_take, hR.ln]; have : i * 4 ≤ a0.length * 4 := Nat.mul_le_mul_right _ hle; omega
     have e2 : k2.length = 4 := by rw [p2.length, hm]
     have e3 : (k0.take (i * 4) ++ k2).length = (i + 1) * 4 := by rw [List.length_append, e1, e2]; omega
     generalize hX : k0.take (i * 4) ++ (madeCells _ ((a0.length + 1 - i) * 4)).toList = X
     have hXl : X.length = (a0.length + 1) * 4 := by rw [← hX, List.length_append, e1, Array.length_toList, size_madeCells]; omega
     have e4 : X.take (i * 4) = k0.take (i * 4) := by rw [← hX]; exact List.take_left' e1
     rw [e4]
     rw [List.take_left' e3]
     have e5 : (k0.take (i * 4) ++ k2 ++ X.drop ((i + 1) * 4)).length ≤ (i + 1 + (a0.length - i)) * 4 := by rw [List.length_append, e3, List.length_drop, hXl]; omega
     rw [List.drop_eq_nil_of_le e5]
     rw [List.append_nil]
    ·
     rintro f5 w5 ⟨⟨cs, S5, rfl⟩, k9⟩
     refine FW.seq (FW.region ?_)
     refine FL.v (E.move k9) ?_
     refine FL.v (E.assign (v := .slice (some ⟨g', 0, none⟩) (a0.length + 1) cap') rfl) ?_
     refine FL.nil ?_
     refine FW.ret ?_
     exact ⟨.inr rfl, res1 rfl rfl ⟨_, _, _, _, _, rfl, ⟨S5.selT (a := [.row 57 4 (.slice (some ⟨g', 0, none⟩) (a0.length + 1) cap') (a0.length + 1) _, .row 57 4 (.slice (some ⟨g, 0, none⟩) a0.length cap) a0.length k0, .row 57 4 (.slice (some ⟨g2, 0, none⟩) 1 cap2) 1 k2]) (l' := [.row 57 4 (.slice (some ⟨g', 0, none⟩) (a0.length + 1) cap') (a0.length + 1) _, .row 57 4 (.slice (some ⟨g2, 0, none⟩) 1 cap2) 1 k2]) [0, 2] (by decide) rfl, Inc.rfl _⟩, het, p2⟩⟩
   ·
    refine FW.condF rfl (by simp; omega) ?_
    refine FW.skip (FW.seq (FW.region ?_))
    refine FL.v (E.move (v := .slice (some ⟨g, 0, none⟩) a0.length cap) rfl) ?_
    refine FL.v (E.move (v := Value.int .i64 (a0.length : Int)) rfl) ?_
    refine FL.v (E.move (v := Value.int .i64 ((1 : Nat) : Int)) rfl) ?_
    refine FL.v (E.addW (c := ((a0.length + 1 : Nat) : Int)) rfl rfl (by rw [wr_of _ (by omega) (by omega)]; omega)) ?_
    refine FL.v (E.slice te30 rfl rfl rfl rfl (run_part te30 (p := 0) (q := a0.length + 1) (Nat.zero_le _) (by omega) (by omega) (.inl ⟨rfl, rfl⟩) (.inr rfl) _)) ?_
    refine FL.v (E.assign (v := .slice (some ⟨g, 0, none⟩) (a0.length + 1) cap) (by simp [upd_same, ev])) ?_
    refine FL.nil (FW.seq (FW.seq (FW.region ?_)))
    refine FL.v (E.move (v := .slice (some ⟨g2, 0, none⟩) 1 cap2) rfl) ?_
    refine FL.v (E.move (v := .slice (some ⟨g, 0, none⟩) (a0.length + 1) cap) rfl) ?_
    refine FL.v (E.move (v := Value.int .i64 (i : Int)) rfl) ?_
    refine FL.v (E.move (v := Value.int .i64 ((1 : Nat) : Int)) rfl) ?_
    refine FL.v (E.addW (c := ((i + 1 : Nat) : Int)) rfl rfl (by rw [wr_of _ (by omega) (by omega)]; omega)) ?_
    refine FL.v (E.slice te30 rfl rfl rfl rfl (run_part te30 (p := i + 1) (q := a0.length + 1) (by omega) (by omega) (by omega) (.inr rfl) (.inl ⟨rfl, rfl⟩) _)) ?_
    have hov : (callFunc 76 #[.slice (some ⟨g2, 0, none⟩) 1 cap2, .slice (some ⟨g, (i + 1) * 4, none⟩) (a0.length + 1 - (i + 1)) (cap - (i + 1))]).run Tryz.prog wa = .ok (.value (.bool false)) wa := by
     rw [run_callFunc_extern Tryz.func76 (by kernel_rfl) (by kernel_rfl) (by kernel_rfl) (e := Extern.SlicesOverlaps.overlaps #[30, 30] #[4]) (by kernel_rfl),
      S0.apart (i := 0) (j := 1) rfl rfl (by decide) Tryz.underlying30 Tryz.sizeOf57 (by decide) (by omega)]
     rfl
    refine FL.v (E.callE (A2 rfl rfl) hov) ?_
    refine FL.v (E.not rfl) ?_
    refine FL.nil ?_
    refine FW.condT rfl rfl ?_
    refine FW.seq ?_
    refine FW.drawB (fun _ => True) (fun f w => St H0 w0 Ha w (.row 57 4 (.slice (some ⟨g, 0, none⟩) (a0.length + 1) cap) (a0.length + 1) (k0.take ((i + 1) * 4) ++ k0.drop (i * 4)) :: .row 57 4 (.slice (some ⟨g2, 0, none⟩) 1 cap2) 1 k2 :: L) ∧ f 0 = .slice (some ⟨g, 0, none⟩) (a0.length + 1) cap ∧ f 1 = Value.int .i64 (i : Int) ∧ f 2 = .slice (some ⟨g2, 0, none⟩) 1 cap2) (by kernel_rfl) S0.sl ?_ ?_
    ·
     intro w3 r3
     have S3 := S0.call r3
     obtain ⟨w4, hr4, S4⟩ := S3.shift te30 (i := 0) rfl hlt (by omega) (cap - (i + 1)) (cap - i)
     refine FB.t (i := 0) (bs 9 1) rfl (SP.nil trivial) rfl (fun w' _ => E.move (v := .slice (some ⟨g, 0, none⟩) (a0.length + 1) cap) rfl) ?_
     refine FB.t (i := 1) (bs 9 3) rfl (SP.nil trivial) rfl (fun w' _ => E.move (v := Value.int .i64 (i : Int)) rfl) ?_
     refine FB.t (i := 2) (bs 9 7) rfl (SP.nil trivial) rfl (fun w' _ => E.move (v := Value.int .i64 ((1 : Nat) : Int)) rfl) ?_
     refine FB.t (i := 3) (bs 9 15) rfl (SP.nil trivial) rfl (fun w' _ => E.addW (c := ((i + 1 : Nat) : Int)) rfl rfl (by rw [wr_of _ (by omega) (by omega)]; omega)) ?_
     refine FB.t (i := 4) (bs 9 31) rfl (SP.nil trivial) rfl (fun w' _ => E.slice te30 rfl rfl rfl rfl (run_part te30 (p := i + 1) (q := a0.length + 1) (by omega) (by omega) (by omega) (.inr rfl) (.inl ⟨rfl, rfl⟩) _)) ?_
     refine FB.t (i := 5) (bs 9 63) rfl (SP.nil trivial) rfl (fun w' _ => E.move (v := .slice (some ⟨g, 0, none⟩) (a0.length + 1) cap) rfl) ?_
     refine FB.t (i := 6) (bs 9 127) rfl (SP.nil trivial) rfl (fun w' _ => E.move (v := Value.int .i64 (i : Int)) rfl) ?_
     refine FB.t (i := 7) (bs 9 255) rfl (SP.nil trivial) rfl (fun w' _ => E.slice te30 rfl rfl rfl rfl (run_part te30 (p := i) (q := a0.length + 1) (by omega) (by omega) (by omega) (.inr rfl) (.inl ⟨rfl, rfl⟩) _)) ?_
     refine FB.all1 (i := 8) (by kernel_rfl) ?_
     exact FC.val (l' := bs 9 511) rfl (by kernel_rfl) rfl rfl rfl (E.copy rfl rfl hr4) ⟨SP.nil trivial, FB.done (by kernel_rfl) ⟨S4, rfl, rfl, rfl⟩⟩
    ·
     rintro f5 w5 ⟨S5, k0', k1', k2'⟩
     refine FW.seq (FW.region ?_)
     obtain ⟨w6, hr6, S6⟩ := S5.copyIn te30 (i := 0) (p := i) (m := 1) rfl (S5.row_src (i := 1) rfl) hone2 (by decide) (by omega) (cap - i)
     refine FL.v (E.move k0') ?_
     refine FL.v (E.move k1') ?_
     refine FL.v (E.slice te30 rfl rfl rfl rfl (run_part te30 (p := i) (q := a0.length + 1) (by omega) (by omega) (by omega) (.inr rfl) (.inl ⟨rfl, rfl⟩) _)) ?_
     refine FL.v (E.move k2') ?_
     refine FL.v (E.copy rfl rfl hr6) ?_
     refine FL.nil (FW.seq (FW.region ?_))
     refine FL.v (E.move (v := .slice (some ⟨g, 0, none⟩) (a0.length + 1) cap) k0') ?_
     refine FL.v (E.assign (v := .slice (some ⟨g, 0, none⟩) (a0.length + 1) cap) rfl) ?_
     refine FL.nil ?_
     refine FW.ret ?_
     have q1 : (i + 1) * 4 ≤ a0.length * 4 := Nat.mul_le_mul_right _ hlt
     have e1 : (k0.take ((i + 1) * 4)).length = (i + 1) * 4 := by rw [List.length_take, hR.ln]; omega
     have het2 : Els (up w0.heap.size Ha) eRecord 4 ((k0.take ((i + 1) * 4) ++ k0.drop (i * 4)).take (i * 4) ++ k2 ++ (k0.take ((i + 1) * 4) ++ k0.drop (i * 4)).drop ((i + 1) * 4)) (a0.take i ++ a2 ++ a0.drop i) := by
      rw [List.drop_left' e1, List.take_append_of_le_length (by rw [e1]; omega), List.take_take, Nat.min_eq_left (by omega)]
      exact het
     exact ⟨.inr rfl, res1 rfl rfl ⟨_, _, _, _, _, rfl, ⟨S6, Inc.rfl _⟩, het2, p2⟩⟩
 ·
  cases hp

@[reducible] def p_impl_enter (ea : Addr) (Ha : GH) (wa : World) (r : ((List Record) × Bool)) : Ending → World → Prop :=
 fun e w' => ∃ H' : GH, ∃ v0 : Value, ∃ n0 : Nat, ∃ c0 : List Value, e = .returned (Value.tuple #[v0, errV 152 ea r.2]) ∧ St Ha wa H' w' [.row 57 4 v0 n0 c0] ∧ Els (up wa.heap.size H') eRecord 4 c0 r.1
set_option maxHeartbeats 4000000 in
theorem w_impl_enter {Ha : GH} {wa : World} (hs : Sl Ha wa) (v0 : Value) (a0 : List Record) (p0 : RSl Ha eRecord 4 v0 a0) (a1 : Record) {ea : Addr} (hT : TabE 0 152 ea Ha) {r : ((List Record) × Bool)} (hp : (PF.impl_enter a0 a1) = some r) :
  Calls Tryz.prog 49 #[v0, Value.agg #[Value.string a1.name, Value.int .i64 a1.system, Value.int .i64 a1.size, Value.int .i64 a1.extra]] wa (p_impl_enter ea Ha wa r) := by
 unfold PF.impl_enter at hp
 have S0 := St.init hs
 refine calls_go (N := 73) (args := [v0, Value.agg #[Value.string a1.name, Value.int .i64 a1.system, Value.int .i64 a1.size, Value.int .i64 a1.extra]]) Tryz.func49 rfl rfl rfl ?_
 refine FW.seq (FW.region ?_)
 obtain ⟨b21, w22, run23, S24⟩ := S0.box (P := Tryz.prog) 57 [Value.string a1.name, Value.int .i64 a1.system, Value.int .i64 a1.size, Value.int .i64 a1.extra] (v := Value.agg #[Value.string a1.name, Value.int .i64 a1.system, Value.int .i64 a1.size, Value.int .i64 a1.extra]) rfl (ones_cons rfl (ones_cons rfl (ones_cons rfl (ones_cons rfl ones_nil))))
 refine FL.v (E.box rfl run23) ?_
 obtain ⟨H25, S26, i27, at28⟩ := S24.sealBox (i := 0) (l' := []) rfl rfl
 refine FL.v (E.assign (v := Value.slice none 0 0) rfl) ?_
 refine FL.v (E.assign (v := errV 152 ea false) rfl) ?_
 refine FL.nil (FW.seq (FW.seq (FW.region ?_)))
 refine FL.v (E.move (v := v0) rfl) ?_
 obtain ⟨r29, hr30, hp⟩ := bnd hp
 refine FL.call rfl rfl rfl (E.call Tryz.call58 (A1 rfl)) (w_impl_IsBook S26.sl v0 a0 (p0.mono i27) hr30) ?_
 rintro e w31 ⟨rfl, r32⟩
 refine ⟨_, rfl, ?_⟩
 have S33 := S26.call r32
 refine FL.v (E.not rfl) ?_
 refine FL.nil ?_
 rcases ifB hp with ⟨c34, hp⟩ | ⟨c34, hp⟩
 ·
  refine FW.condT rfl c34 ?_
  refine FW.seq ?_
  refine FW.draw (fun w' => Run w31.heap.size H25 w31 H25 w') (by kernel_rfl) (by kernel_rfl) (run_drew S33.sl) ?_
  refine FD.val rfl rfl rfl (fun w' hw' => (E.load rfl (run_load0 Tryz.isAgg78 ((hT.mono i27).now (S33.call hw').sl) rfl))) ?_
  refine FD.val rfl rfl rfl (fun w' hw' => (E.assign (v := Value.slice none 0 0) rfl)) ?_
  refine FD.val rfl rfl rfl (fun w' hw' => (E.assign (v := errV 152 ea true) rfl)) ?_
  refine FD.nil ?_
  intro w36 r38
  have S37 := S33.call r38
  refine FW.ret ?_
  obtain rfl := Option.some.inj hp
  exact ⟨.inr rfl, res2 rfl rfl rfl ⟨_, _, _, _, rfl, (S37.nil 57 4), Els.nil⟩⟩
 ·
  refine FW.condF rfl c34 ?_
  refine FW.skip (FW.seq (FW.region ?_))
  refine FL.v (E.move (v := v0) rfl) ?_
  obtain ⟨r39, hr40, hp⟩ := bnd hp
  refine FL.call rfl rfl rfl (E.call Tryz.call59 (A1 rfl)) (w_slices_Clone_impl_Record_impl_Record S33.sl v0 a0 (p0.mono i27) hr40) ?_
  rintro e w42 ⟨H41, v45, n46, cs47, rfl, r44, els48⟩
  refine ⟨_, rfl, ?_⟩
  have els48 := els48.mono (up_le S33.size)
  have S43 := S33.join (l' := [.row 57 4 v45 n46 cs47]) r44 rfl
  refine FL.v (E.assign (v := v45) rfl) ?_
  refine FL.nil (FW.seq (FW.region ?_))
  refine FL.v (E.move (v := v45) rfl) ?_
  refine FL.v (E.load rfl (run_loadA Tryz.isAgg57 Tryz.sizeOf57 ((at28.mono r44.run.inc).now S43.sl) rfl)) ?_
  obtain ⟨H49, S50, i51, h52, nv53⟩ := S43.sealRowU (i := 0) (l' := []) rfl els48 (by decide) rfl
  obtain ⟨r54, hr55, hp⟩ := bnd hp
  refine FL.call rfl rfl rfl (E.call Tryz.call60 (A3 rfl rfl rfl)) (w_slices_BinarySearchFunc_impl_Record_impl_Record_impl_Record S50.sl v45 r39 (h52.mono upI) a1 (Value.func (.func 61) #[] #[]) (fun x0 x1 => PF.impl_compareRecords x0 x1) (fun H2 w2 hi2 hs2 x0 x1 r hr => ⟨61, #[], rfl, Tryz.call61, w_impl_compareRecords hs2 x0 x1  hr⟩) hr55) ?_
  rintro e w56 ⟨rfl, r57⟩
  refine ⟨_, rfl, ?_⟩
  have r57 := Run.lend i51 S43.sl r57
  have S58 := S43.call r57
  refine FL.v (E.move (v := Value.tuple #[Value.int .i64 r54.1, Value.bool r54.2]) rfl) ?_
  refine FL.v (E.extract (i := 0) rfl rfl) ?_
  refine FL.v (E.extract (i := 1) rfl rfl) ?_
  refine FL.v (E.assign (v := Value.int .i64 r54.1) rfl) ?_
  refine FL.v (E.assign (v := Value.bool r54.2) rfl) ?_
  refine FL.nil (FW.seq ?_)
  obtain ⟨q191, hq, hp⟩ := bndR hp
  refine FW.joinE (S := (List Record)) (X := Empty) (q := q191) (fun s190 f w => ∃ H : GH, ∃ v193 : Value, ∃ n194 : Nat, ∃ cs195 : List Value, St Ha wa H w [.row 57 4 v193 n194 cs195] ∧ Inc H41 H ∧ Els (up wa.heap.size H) eRecord 4 cs195 s190 ∧ f 3 = Value.pointer (some ⟨b21, 0, none⟩) ∧ f 6 = v193) (fun (_ : Empty) _ _ _ => False) ?_ ?_ ?_
  ·
   clear hp; have hp := hq; clear hq
   refine FW.block (FW.seq (FW.region ?_))
   refine FL.v (E.move (v := Value.bool r54.2) rfl) ?_
   refine FL.v (E.not rfl) ?_
   refine FL.v (E.assign (v := Value.bool (!r54.2)) rfl) ?_
   refine FL.nil ?_
   rcases ifB hp with ⟨c197, hp⟩ | ⟨c197, hp⟩
   ·
    refine FW.condT rfl c197 ?_
    refine FW.region ?_
    refine FL.v (E.move (v := v45) rfl) ?_
    refine FL.v (E.move (v := Value.int .i64 r54.1) rfl) ?_
    refine FL.v (E.load rfl (run_loadA Tryz.isAgg57 Tryz.sizeOf57 ((at28.mono r44.run.inc).now S58.sl) rfl)) ?_
    obtain ⟨v198, w199, run200, S201⟩ := S58.buildSlice (P := Tryz.prog) te30 [Value.agg #[Value.string a1.name, Value.int .i64 a1.system, Value.int .i64 a1.size, Value.int .i64 a1.extra]] (parts := #[(0, Value.agg #[Value.string a1.name, Value.int .i64 a1.system, Value.int .i64 a1.size, Value.int .i64 a1.extra])]) (cells := [Value.string a1.name, Value.int .i64 a1.system, Value.int .i64 a1.size, Value.int .i64 a1.extra]) rfl (szs_cons rfl szs_nil) (fc_cons rfl fc_nil) (ones_cons rfl (ones_cons rfl (ones_cons rfl (ones_cons rfl ones_nil)))) (Nat.le_of_ble_eq_true rfl)
    have els202 : Els (up wa.heap.size H41) eRecord 4 [Value.string a1.name, Value.int .i64 a1.system, Value.int .i64 a1.size, Value.int .i64 a1.extra] [a1] := (Els.snoc (H := (up wa.heap.size H41)) (E := eRecord) (k := 4) (c := [Value.string a1.name, Value.int .i64 a1.system, Value.int .i64 a1.size, Value.int .i64 a1.extra]) (x := a1) Els.nil rfl rfl)
    refine FL.v (E.buildSlice (B1 rfl) run200) ?_
    obtain ⟨r203, hr204, hp⟩ := bnd hp
    have S205 : St Ha wa H41 w199 [.row 57 4 v45 n46 cs47, .row 57 4 v198 1 [Value.string a1.name, Value.int .i64 a1.system, Value.int .i64 a1.size, Value.int .i64 a1.extra]] := S201.front 1 rfl rfl
    refine FL.call rfl rfl rfl (E.call Tryz.call62 (A3 rfl rfl rfl)) (w_slices_Insert_impl_Record_impl_Record (L := []) S205 r39 els48 r54.1 [a1] els202 hr204) ?_
    rintro e w207 ⟨H206, v210, n211, cs212, cs214, rfl, ⟨S208, i209⟩, els213, els215⟩
    refine ⟨_, rfl, ?_⟩
    have S208 : St Ha wa H206 w207 [.row 57 4 v210 n211 cs212, .row 57 4 v198 1 cs214] := S208
    refine FL.v (E.assign (v := v210) rfl) ?_
    refine FL.nil ?_
    obtain rfl := Option.some.inj hp
    exact ⟨rfl, ⟨_, _, _, _, (S208.sel [0] (by decide) rfl), i209, els213, rfl, rfl⟩⟩
   ·
    refine FW.condF rfl c197 ?_
    refine FW.seq ?_
    refine FW.draw (fun w' => Run w56.heap.size H41 w56 H41 w') (by kernel_rfl) (by kernel_rfl) (run_drew S58.sl) ?_
    refine FD.val rfl rfl rfl (fun w' hw' => (E.move (v := v45) rfl)) ?_
    refine FD.val rfl rfl rfl (fun w' hw' => (E.move (v := Value.int .i64 r54.1) rfl)) ?_
    obtain ⟨x223, hx224, hp⟩ := bnd hp
    obtain ⟨p217, cs218, pt219, l220, at221, rel222⟩ := S58.row_at (i := 0) rfl els48 (by decide) hx224
    obtain rfl := eRecord_open rel222
    refine FD.val rfl rfl rfl (fun w' hw' => (E.indexAddr te30 rfl rfl pt219)) ?_
    refine FD.val rfl rfl rfl (fun w' hw' => (E.fieldAddr tf57_2 rfl)) ?_
    refine FD.val rfl rfl rfl (fun w' hw' => (E.load rfl (run_load1 Tryz.isAgg3 (at221.cls hw') rfl))) ?_
    refine FD.val rfl rfl rfl (fun w' hw' => (E.fieldAddr tf57_2 rfl)) ?_
    refine FD.val rfl rfl rfl (fun w' hw' => (E.load rfl (run_load1 Tryz.isAgg3 ((at28.mono r44.run.inc).now (S58.call hw').sl) rfl))) ?_
    refine FD.val rfl rfl rfl (fun w' hw' => (E.gtr rfl rfl)) ?_
    refine FD.val rfl rfl rfl (fun w' hw' => (E.move (v := Value.bool (decide (a1.size < x223.size))) rfl)) ?_
    obtain ⟨t261, hqt261, hp⟩ := bnd hp
    refine FD.cut 19 (fun f => f 3 = Value.pointer (some ⟨b21, 0, none⟩) ∧ f 6 = v45 ∧ f 7 = Value.int .i64 r54.1 ∧ f 57 = Value.bool t261) ?_ ?_
    ·
     clear hp; have hp := hqt261; clear hqt261
     rcases ifB hp with ⟨c267, hp⟩ | ⟨c267, hp⟩
     ·
      refine FD.skip (wF_no rfl rfl rfl c267) rfl ?_
      refine FD.skip (wF_no rfl rfl rfl c267) rfl ?_
      refine FD.skip (wF_no rfl rfl rfl c267) rfl ?_
      refine FD.skip (wF_no rfl rfl rfl c267) rfl ?_
      refine FD.skip (wF_no rfl rfl rfl c267) rfl ?_
      refine FD.skip (wF_no rfl rfl rfl c267) rfl ?_
      refine FD.skip (wF_no rfl rfl rfl c267) rfl ?_
      refine FD.skip (wF_no rfl rfl rfl c267) rfl ?_
      refine FD.skip (wF_no rfl rfl rfl c267) rfl ?_
      refine FD.skip (wF_undef rfl rfl rfl) rfl ?_
      refine FD.skip (wF_undef rfl rfl rfl) rfl ?_
      refine FD.skip (wF_undef rfl rfl rfl) rfl ?_
      refine FD.skip (wF_undef rfl rfl rfl) rfl ?_
      refine FD.skip (wF_undef rfl rfl rfl) rfl ?_
      refine FD.skip (wF_undef rfl rfl rfl) rfl ?_
      refine FD.skip (wF_undef rfl rfl rfl) rfl ?_
      refine FD.skip (wF_undef rfl rfl rfl) rfl ?_
      refine FD.skip (wF_no rfl rfl rfl c267) rfl ?_
      obtain rfl := Option.some.inj hp
      refine FD.val rfl rfl rfl (fun w' hw' => (E.pickT rfl c267 rfl)) ?_
      exact FD.nil ⟨rfl, rfl, rfl, rfl⟩
     ·
      refine FD.val (wF_yes rfl rfl rfl c267) rfl rfl (fun w' hw' => (E.move (v := v45) rfl)) ?_
      refine FD.val (wF_yes rfl rfl rfl c267) rfl rfl (fun w' hw' => (E.move (v := Value.int .i64 r54.1) rfl)) ?_
      obtain ⟨x274, hx275, hp⟩ := bnd hp
      obtain ⟨p268, cs269, pt270, l271, at272, rel273⟩ := S58.row_at (i := 0) rfl els48 (by decide) hx275
      obtain rfl := eRecord_open rel273
      refine FD.val (wF_yes rfl rfl rfl c267) rfl rfl (fun w' hw' => (E.indexAddr te30 rfl rfl pt270)) ?_
      refine FD.val (wF_yes rfl rfl rfl c267) rfl rfl (fun w' hw' => (E.fieldAddr tf57_2 rfl)) ?_
      refine FD.val (wF_yes rfl rfl rfl c267) rfl rfl (fun w' hw' => (E.load rfl (run_load1 Tryz.isAgg3 (at272.cls hw') rfl))) ?_
      refine FD.val (wF_yes rfl rfl rfl c267) rfl rfl (fun w' hw' => (E.fieldAddr tf57_2 rfl)) ?_
      refine FD.val (wF_yes rfl rfl rfl c267) rfl rfl (fun w' hw' => (E.load rfl (run_load1 Tryz.isAgg3 ((at28.mono r44.run.inc).now (S58.call hw').sl) rfl))) ?_
      refine FD.val (wF_yes rfl rfl rfl c267) rfl rfl (fun w' hw' => (E.eql rfl rfl)) ?_
      refine FD.val (wF_yes rfl rfl rfl c267) rfl rfl (fun w' hw' => (E.move (v := Value.bool (x274.size == a1.size)) rfl)) ?_
      obtain ⟨t284, hqt284, hp⟩ := bnd hp
      refine FD.cut 9 (fun f => f 3 = Value.pointer (some ⟨b21, 0, none⟩) ∧ f 6 = v45 ∧ f 7 = Value.int .i64 r54.1 ∧ f 38 = Value.bool (decide (a1.size < x223.size)) ∧ f 56 = Value.bool t284) ?_ ?_
      ·
       clear hp; have hp := hqt284; clear hqt284
       rcases ifB hp with ⟨c290, hp⟩ | ⟨c290, hp⟩
       ·
        refine FD.val (wF_yes rfl rfl rfl c290) rfl rfl (fun w' hw' => (E.move (v := v45) rfl)) ?_
        refine FD.val (wF_yes rfl rfl rfl c290) rfl rfl (fun w' hw' => (E.move (v := Value.int .i64 r54.1) rfl)) ?_
        obtain ⟨x297, hx298, hp⟩ := bnd hp
        obtain ⟨p291, cs292, pt293, l294, at295, rel296⟩ := S58.row_at (i := 0) rfl els48 (by decide) hx298
        obtain rfl := eRecord_open rel296
        refine FD.val (wF_yes rfl rfl rfl c290) rfl rfl (fun w' hw' => (E.indexAddr te30 rfl rfl pt293)) ?_
        refine FD.val (wF_yes rfl rfl rfl c290) rfl rfl (fun w' hw' => (E.fieldAddr tf57_3 rfl)) ?_
        refine FD.val (wF_yes rfl rfl rfl c290) rfl rfl (fun w' hw' => (E.load rfl (run_load1 Tryz.isAgg3 (at295.cls hw') rfl))) ?_
        refine FD.val (wF_yes rfl rfl rfl c290) rfl rfl (fun w' hw' => (E.fieldAddr tf57_3 rfl)) ?_
        refine FD.val (wF_yes rfl rfl rfl c290) rfl rfl (fun w' hw' => (E.load rfl (run_load1 Tryz.isAgg3 ((at28.mono r44.run.inc).now (S58.call hw').sl) rfl))) ?_
        refine FD.val (wF_yes rfl rfl rfl c290) rfl rfl (fun w' hw' => (E.gtr rfl rfl)) ?_
        obtain rfl := Option.some.inj hp
        refine FD.val (wF_yes rfl rfl rfl c267) rfl rfl (fun w' hw' => (E.pickT rfl c290 rfl)) ?_
        exact FD.nil ⟨rfl, rfl, rfl, rfl, rfl⟩
       ·
        refine FD.skip (wF_no rfl rfl rfl c290) rfl ?_
        refine FD.skip (wF_no rfl rfl rfl c290) rfl ?_
        refine FD.skip (wF_no rfl rfl rfl c290) rfl ?_
        refine FD.skip (wF_no rfl rfl rfl c290) rfl ?_
        refine FD.skip (wF_no rfl rfl rfl c290) rfl ?_
        refine FD.skip (wF_no rfl rfl rfl c290) rfl ?_
        refine FD.skip (wF_no rfl rfl rfl c290) rfl ?_
        refine FD.skip (wF_no rfl rfl rfl c290) rfl ?_
        obtain rfl := Option.some.inj hp
        refine FD.val (wF_yes rfl rfl rfl c267) rfl rfl (fun w' hw' => (E.pickF rfl c290 rfl)) ?_
        exact FD.nil ⟨rfl, rfl, rfl, rfl, rfl⟩
      rintro f289 ⟨k299, k300, k301, k302, k303⟩
      obtain rfl := Option.some.inj hp
      refine FD.val rfl rfl rfl (fun w' hw' => (E.pickF k302 c267 k303)) ?_
      exact FD.nil ⟨k299, k300, k301, rfl⟩
    rintro f266 ⟨k304, k305, k306, k307⟩
    refine FD.val rfl rfl rfl (fun w' hw' => (E.assign k307)) ?_
    refine FD.nil ?_
    intro w308 r310
    have S309 := S58.call r310
    rcases ifB hp with ⟨c311, hp⟩ | ⟨c311, hp⟩
    ·
     refine FW.condT rfl c311 ?_
     refine FW.region ?_
     refine FL.v (E.move k305) ?_
     refine FL.v (E.move k306) ?_
     refine FL.v (E.load k304 (run_loadA Tryz.isAgg57 Tryz.sizeOf57 ((at28.mono r44.run.inc).now S309.sl) rfl)) ?_
     obtain ⟨x318, hx319, hp⟩ := bnd hp
     obtain ⟨p312, cs313, pt314, l315, at316, rel317⟩ := S309.row_at (i := 0) rfl els48 (by decide) hx319
     obtain rfl := eRecord_open rel317
     refine FL.v (E.indexAddr te30 rfl rfl pt314) ?_
     obtain ⟨xs323, hput324, hp⟩ := bnd hp
     obtain ⟨w320, cs326, run321, S322, els325, ce327⟩ := S309.putEls (P := Tryz.prog) (t := 57) (i := 0) rfl els48 hput324 pt314 Tryz.sizeOf57 (u := Value.agg #[Value.string a1.name, Value.int .i64 a1.system, Value.int .i64 a1.size, Value.int .i64 a1.extra]) (c := [Value.string a1.name, Value.int .i64 a1.system, Value.int .i64 a1.size, Value.int .i64 a1.extra]) rfl rfl (ones_cons rfl (ones_cons rfl (ones_cons rfl (ones_cons rfl ones_nil)))) rfl
     have S322 : St Ha wa H41 w320 [.row 57 4 v45 n46 cs326] := S322
     refine FL.act rfl rfl (E.store rfl rfl run321) ?_
     refine FL.nil ?_
     obtain rfl := Option.some.inj hp
     exact ⟨rfl, ⟨_, _, _, _, S322, (Inc.rfl _), els325, k304, k305⟩⟩
    ·
     refine FW.condF rfl c311 ?_
     refine FW.skip ?_
     obtain rfl := Option.some.inj hp
     exact ⟨rfl, ⟨_, _, _, _, S309, (Inc.rfl _), els48, k304, k305⟩⟩
  ·
   rintro s190 rfl f332 w331 ⟨H328, v193, n194, cs195, S329, i330, els196, k333, k334⟩
   replace hp := el_go hp
   refine FW.seq (FW.seq (FW.region ?_))
   refine FL.v (E.move k334) ?_
   obtain ⟨H335, S336, i337, h338, nv339⟩ := S329.sealRowU (i := 0) (l' := []) rfl els196 (by decide) rfl
   obtain ⟨r340, hr341, hp⟩ := bnd hp
   refine FL.call rfl rfl rfl (E.call Tryz.call58 (A1 rfl)) (w_impl_IsBook S336.sl v193 s190 (h338.mono upI) hr341) ?_
   rintro e w342 ⟨rfl, r343⟩
   refine ⟨_, rfl, ?_⟩
   have r343 := Run.lend i337 S329.sl r343
   have S344 := S329.call r343
   refine FL.v (E.not rfl) ?_
   refine FL.v (E.move (v := Value.bool (!r340)) rfl) ?_
   obtain ⟨t360, hqt360, hp⟩ := bnd hp
   refine FL.cut 5 (fun f w => ∃ H : GH, St Ha wa H w [.row 57 4 v193 n194 cs195] ∧ Inc H328 H ∧ f 6 = v193 ∧ f 70 = Value.bool t360) ?_ ?_
   ·
    clear hp; have hp := hqt360; clear hqt360
    rcases ifB hp with ⟨c366, hp⟩ | ⟨c366, hp⟩
    ·
     refine FL.skip (wF_no rfl rfl rfl c366) rfl ?_
     refine FL.skip (wF_no rfl rfl rfl c366) rfl ?_
     refine FL.skip (wF_no rfl rfl rfl c366) rfl ?_
     refine FL.skip (wF_no rfl rfl rfl c366) rfl ?_
     obtain rfl := Option.some.inj hp
     refine FL.v (E.pickT rfl c366 rfl) ?_
     exact FL.nil ⟨rfl, _, S344, (Inc.rfl _), k334, rfl⟩
    ·
     refine FL.val (wF_yes rfl rfl rfl c366) rfl rfl (E.load k333 (run_loadA Tryz.isAgg57 Tryz.sizeOf57 ((at28.mono (r44.run.inc.tr i330)).now S344.sl) rfl)) ?_
     obtain ⟨v367, w368, run369, S370⟩ := S344.buildSlice (P := Tryz.prog) te30 [Value.agg #[Value.string a1.name, Value.int .i64 a1.system, Value.int .i64 a1.size, Value.int .i64 a1.extra]] (parts := #[(0, Value.agg #[Value.string a1.name, Value.int .i64 a1.system, Value.int .i64 a1.size, Value.int .i64 a1.extra])]) (cells := [Value.string a1.name, Value.int .i64 a1.system, Value.int .i64 a1.size, Value.int .i64 a1.extra]) rfl (szs_cons rfl szs_nil) (fc_cons rfl fc_nil) (ones_cons rfl (ones_cons rfl (ones_cons rfl (ones_cons rfl ones_nil)))) (Nat.le_of_ble_eq_true rfl)
     have els371 : Els (up wa.heap.size H328) eRecord 4 [Value.string a1.name, Value.int .i64 a1.system, Value.int .i64 a1.size, Value.int .i64 a1.extra] [a1] := (Els.snoc (H := (up wa.heap.size H328)) (E := eRecord) (k := 4) (c := [Value.string a1.name, Value.int .i64 a1.system, Value.int .i64 a1.size, Value.int .i64 a1.extra]) (x := a1) Els.nil rfl rfl)
     refine FL.val (wF_yes rfl rfl rfl c366) rfl rfl (E.buildSlice (B1 rfl) run369) ?_
     obtain ⟨H372, S373, i374, h375, nv376⟩ := S370.sealRowU (i := 0) (l' := [.row 57 4 v193 n194 cs195]) rfl els371 (by decide) rfl
     obtain ⟨r377, hr378, hp⟩ := bnd hp
     refine FL.call (wF_yes rfl rfl rfl c366) rfl rfl (E.call Tryz.call58 (A1 rfl)) (w_impl_IsBook S373.sl v367 [a1] (h375.mono upI) hr378) ?_
     rintro e w379 ⟨rfl, r380⟩
     refine ⟨_, rfl, ?_⟩
     have r380 := Run.lend i374 S370.sl r380
     have S381 := S370.call r380
     refine FL.val (wF_yes rfl rfl rfl c366) rfl rfl (E.not rfl) ?_
     obtain rfl := Option.some.inj hp
     refine FL.v (E.pickF rfl c366 rfl) ?_
     exact FL.nil ⟨rfl, _, (S381.sel [1] (by decide) rfl), (Inc.rfl _), k334, rfl⟩
   rintro f365 w364 ⟨H361, S362, i363, k382, k383⟩
   refine FL.nil ?_
   rcases ifB hp with ⟨c384, hp⟩ | ⟨c384, hp⟩
   ·
    refine FW.condT k383 c384 ?_
    refine FW.seq ?_
    refine FW.draw (fun w' => Run w364.heap.size H361 w364 H361 w') (by kernel_rfl) (by kernel_rfl) (run_drew S362.sl) ?_
    refine FD.val rfl rfl rfl (fun w' hw' => (E.load rfl (run_load0 Tryz.isAgg78 ((hT.mono (((i27.tr r44.run.inc).tr i330).tr i363)).now (S362.call hw').sl) rfl))) ?_
    refine FD.val rfl rfl rfl (fun w' hw' => (E.assign (v := Value.slice none 0 0) rfl)) ?_
    refine FD.val rfl rfl rfl (fun w' hw' => (E.assign (v := errV 152 ea true) rfl)) ?_
    refine FD.nil ?_
    intro w386 r388
    have S387 := S362.call r388
    refine FW.ret ?_
    obtain rfl := Option.some.inj hp
    exact ⟨.inr rfl, res2 rfl rfl rfl ⟨_, _, _, _, rfl, ((S387.nil 57 4).sel [0] (by decide) rfl), Els.nil⟩⟩
   ·
    refine FW.condF k383 c384 ?_
    refine FW.skip (FW.seq (FW.region ?_))
    refine FL.v (E.move k382) ?_
    refine FL.v (E.assign (v := v193) rfl) ?_
    refine FL.v (E.assign (v := errV 152 ea false) rfl) ?_
    refine FL.nil ?_
    refine FW.ret ?_
    obtain rfl := Option.some.inj hp
    exact ⟨.inr rfl, res2 rfl rfl rfl ⟨_, _, _, _, rfl, S362, (els196.mono (up_mono i363))⟩⟩
  ·
   intro x192; exact x192.elim

section
open Go.RowKit Go.Extern.Stop Go.Stop Go.Extern
theorem Tryz.isTypeOf (v : Value) (w : World) : (Extern.ReflectliteType.typeOf #[.iface 152 v]).run Tryz.prog w = .ok (.iface 104 (.agg #[.pointer (some ⟨2, 152, none⟩)])) w := by kernel_rfl
def Tryz.cmpM : TypeId → Sem Value := fun t => do Extern.Rtype.noPackHeld "Comparable" t; pure (.bool (← typeInfo t).comparable)
theorem Tryz.isComparable (w : World) : ((Extern.ReflectliteType.method Tryz.cmpM) #[.agg #[.pointer (some ⟨2, 152, none⟩)]]).run Tryz.prog w = .ok (.bool true) w := by kernel_rfl
theorem Tryz.isMethodComparable (v : Value) (w : World) : (Go.method 289 104 v "Comparable").run Tryz.prog w = .ok (156, v) w := by kernel_rfl
theorem Tryz.isComp : (Tryz.prog.info? 152).map (·.comparable) = some true := by kernel_rfl
theorem Tryz.isSize : (Tryz.prog.info? 177).map (·.size) = some 1 := by kernel_rfl
set_option maxRecDepth 100000 in
set_option maxHeartbeats 4000000 in
theorem Tryz.is_same (a : Addr) (w : World) :
  Calls Tryz.prog 50 #[.iface 152 (.pointer (some a)), .iface 152 (.pointer (some a))] w fun e w' => e = .returned (.bool true) ∧ w' = w := by
 obtain ⟨i, hi, hcmp⟩ := Option.map_eq_some_iff.1 Tryz.isComp
 obtain ⟨j, hj, hjs⟩ := Option.map_eq_some_iff.1 Tryz.isSize
 have h8 := @run_callFunc_extern Tryz.prog 63 _ Extern.ReflectliteType.typeOf Tryz.func63 (by kernel_rfl) (by kernel_rfl) (by kernel_rfl) (by kernel_rfl)
 have h32 := @run_callFunc_extern Tryz.prog 156 _ (Extern.ReflectliteType.method Tryz.cmpM) Tryz.func156 (by kernel_rfl) (by kernel_rfl) (by kernel_rfl) (by kernel_rfl)
 have tT := Tryz.isTypeOf
 have cT := Tryz.isComparable
 have mR := Tryz.isMethodComparable
 have heq := run_eql_iface_ptr_same (P := Tryz.prog) w a Tryz.underlying78 Tryz.underlying152 hi hcmp hj
 go_enter Tryz.func50, Tryz.ntmps50
 go_wp2
 refine wp_loop_rounds 1 ?_
 rw [rounds_succ]
 go_wp2
 go_ret
 exact ⟨rfl, rfl⟩
theorem Tryz.is_nil (b : Addr) (w : World) :
  Calls Tryz.prog 50 #[.nilIface, .iface 152 (.pointer (some b))] w fun e w' => e = .returned (.bool false) ∧ w' = w := by
 have hn := run_eql_iface_nil_left (P := Tryz.prog) w 152 (.pointer (some b)) Tryz.underlying78
 go_enter Tryz.func50, Tryz.ntmps50
 go_wp2
 go_ret
 exact ⟨rfl, rfl⟩
theorem w_errors_Is {Ha : GH} {wa : World} (hs : Sl Ha wa) {ea : Addr} (a0 a1 : Bool) {r : Bool} (hp : PF.errors_Is a0 a1 = some r) : Calls Tryz.prog 50 #[errV 152 ea a0, errV 152 ea a1] wa (Sc Ha wa (Value.bool r)) := by
 unfold PF.errors_Is at hp
 cases a1 with
 | false => cases hp
 | true =>
  cases hp
  cases a0 with
  | true => exact (Tryz.is_same ea wa).mono (by rintro e w' ⟨rfl, rfl⟩; exact ⟨rfl, Run.refl _ hs⟩)
  | false => exact (Tryz.is_nil ea wa).mono (by rintro e w' ⟨rfl, rfl⟩; exact ⟨rfl, Run.refl _ hs⟩)
end

@[reducible] def p_impl_entered (Ha : GH) (wa : World) (r : ((List Record) × Bool)) : Ending → World → Prop :=
 fun e w' => ∃ H' : GH, ∃ v0 : Value, ∃ n0 : Nat, ∃ c0 : List Value, e = .returned (Value.tuple #[v0, Value.bool r.2]) ∧ St Ha wa H' w' [.row 57 4 v0 n0 c0] ∧ Els (up wa.heap.size H') eRecord 4 c0 r.1
theorem w_impl_entered {Ha : GH} {wa : World} (hs : Sl Ha wa) (v0 : Value) (a0 : List Record) (p0 : RSl Ha eRecord 4 v0 a0) (a1 : ByteArray) (a2 : Int) (a3 : Int) (a4 : Int) {ea : Addr} (hT : TabE 0 152 ea Ha) {r : ((List Record) × Bool)} (hp : (PF.impl_entered a0 a1 a2 a3 a4) = some r) :
  Calls Tryz.prog 31 #[v0, Value.string a1, Value.int .i64 a2, Value.int .i64 a3, Value.int .i64 a4] wa (p_impl_entered Ha wa r) := by
 unfold PF.impl_entered at hp
 have S0 := St.init hs
 refine calls_go (N := 28) (args := [v0, Value.string a1, Value.int .i64 a2, Value.int .i64 a3, Value.int .i64 a4]) Tryz.func31 rfl rfl rfl ?_
 refine FW.seq (FW.region ?_)
 refine FL.v (E.assign (v := Value.slice none 0 0) rfl) ?_
 refine FL.v (E.assign (v := Value.bool false) rfl) ?_
 refine FL.nil (FW.seq (FW.region ?_))
 refine FL.v (E.move (v := v0) rfl) ?_
 refine FL.v (E.move (v := Value.string a1) rfl) ?_
 refine FL.v (E.move (v := Value.int .i64 a2) rfl) ?_
 refine FL.v (E.move (v := Value.int .i64 a3) rfl) ?_
 refine FL.v (E.move (v := Value.int .i64 a4) rfl) ?_
 refine FL.v (E.build (B4 rfl rfl rfl rfl) (run_build _ 57 #[(0, Value.string a1), (1, Value.int .i64 a2), (2, Value.int .i64 a3), (3, Value.int .i64 a4)] #[Value.string a1, Value.int .i64 a2, Value.int .i64 a3, Value.int .i64 a4] (by rfl))) ?_
 obtain ⟨r21, hr22, hp⟩ := bnd hp
 refine FL.call rfl rfl rfl (E.call Tryz.call49 (A2 rfl rfl)) (w_impl_enter S0.sl v0 a0 p0 (Record.mk a1 a2 a3 a4) hT hr22) ?_
 rintro e w24 ⟨H23, v27, n28, cs29, rfl, r26, els30⟩
 refine ⟨_, rfl, ?_⟩
 have els30 := els30.mono (up_le S0.size)
 have S25 := S0.join (l' := [.row 57 4 v27 n28 cs29]) r26 rfl
 refine FL.v (E.move (v := Value.tuple #[v27, errV 152 ea r21.2]) rfl) ?_
 refine FL.v (E.extract (i := 0) rfl rfl) ?_
 refine FL.v (E.extract (i := 1) rfl rfl) ?_
 refine FL.v (E.assign (v := v27) rfl) ?_
 refine FL.v (E.assign (v := errV 152 ea r21.2) rfl) ?_
 refine FL.nil (FW.seq (FW.seq (FW.region ?_)))
 refine FL.v (E.move (v := errV 152 ea r21.2) rfl) ?_
 refine FL.v (E.load rfl (run_load0 Tryz.isAgg78 ((hT.mono r26.run.inc).now S25.sl) rfl)) ?_
 obtain ⟨r31, hr32, hp⟩ := bnd hp
 refine FL.call rfl rfl rfl (E.call Tryz.call50 (A2 rfl rfl)) (w_errors_Is S25.sl r21.2 true hr32) ?_
 rintro e w33 ⟨rfl, r34⟩
 refine ⟨_, rfl, ?_⟩
 have S35 := S25.call r34
 refine FL.nil ?_
 rcases ifB hp with ⟨c36, hp⟩ | ⟨c36, hp⟩
 ·
  refine FW.condT rfl c36 ?_
  refine FW.seq (FW.region ?_)
  refine FL.v (E.assign (v := Value.slice none 0 0) rfl) ?_
  refine FL.v (E.assign (v := Value.bool false) rfl) ?_
  refine FL.nil ?_
  refine FW.ret ?_
  obtain rfl := Option.some.inj hp
  exact ⟨.inr rfl, res2 rfl rfl rfl ⟨_, _, _, _, rfl, ((S35.nil 57 4).sel [0] (by decide) rfl), Els.nil⟩⟩
 ·
  refine FW.condF rfl c36 ?_
  refine FW.skip (FW.seq (FW.region ?_))
  refine FL.v (E.move (v := v27) rfl) ?_
  refine FL.v (E.assign (v := v27) rfl) ?_
  refine FL.v (E.assign (v := Value.bool true) rfl) ?_
  refine FL.nil ?_
  refine FW.ret ?_
  obtain rfl := Option.some.inj hp
  exact ⟨.inr rfl, res2 rfl rfl rfl ⟨_, _, _, _, rfl, S35, els30⟩⟩

@[reducible] def p_impl_EnterResolution (Ha : GH) (wa : World) (r : ((List Record) × Bool)) : Ending → World → Prop :=
 fun e w' => ∃ H' : GH, ∃ v0 : Value, ∃ n0 : Nat, ∃ c0 : List Value, e = .returned (Value.tuple #[v0, Value.bool r.2]) ∧ St Ha wa H' w' [.row 57 4 v0 n0 c0] ∧ Els (up wa.heap.size H') eRecord 4 c0 r.1
theorem w_impl_EnterResolution {Ha : GH} {wa : World} (hs : Sl Ha wa) (v0 : Value) (a0 : List Record) (p0 : RSl Ha eRecord 4 v0 a0) (a1 : ByteArray) (a2 : Cnf) (v2_1 : Value) (p2_1 : RSl Ha (eL eI 1) 1 v2_1 a2.clauses) (v3 : Value) (a3 : List ResStep) (p3 : RSl Ha eResStep 4 v3 a3) {ea : Addr} (hT : TabE 0 152 ea Ha) {r : ((List Record) × Bool)} (hp : (PF.impl_EnterResolution a0 a1 a2 a3) = some r) :
  Calls Tryz.prog 11 #[v0, Value.string a1, Value.agg #[Value.int .i64 a2.vars, v2_1], v3] wa (p_impl_EnterResolution Ha wa r) := by
 unfold PF.impl_EnterResolution at hp
 have S0 := St.init hs
 refine calls_go (N := 34) (args := [v0, Value.string a1, Value.agg #[Value.int .i64 a2.vars, v2_1], v3]) Tryz.func11 rfl rfl rfl ?_
 refine FW.seq (FW.region ?_)
 obtain ⟨b21, w22, run23, S24⟩ := S0.box (P := Tryz.prog) 34 [Value.int .i64 a2.vars, v2_1] (v := Value.agg #[Value.int .i64 a2.vars, v2_1]) rfl (ones_cons rfl (ones_cons p2_1.one ones_nil))
 refine FL.v (E.box rfl run23) ?_
 obtain ⟨H25, S26, i27, at28⟩ := S24.sealBox (i := 0) (l' := []) rfl rfl
 refine FL.v (E.assign (v := Value.slice none 0 0) rfl) ?_
 refine FL.v (E.assign (v := Value.bool false) rfl) ?_
 refine FL.nil (FW.seq (FW.region ?_))
 refine FL.v (E.load rfl (run_loadA Tryz.isAgg34 Tryz.sizeOf34 (at28.now S26.sl) rfl)) ?_
 refine FL.v (E.move (v := v3) rfl) ?_
 obtain ⟨r29, hr30, hp⟩ := bnd hp
 refine FL.call rfl rfl rfl (E.call Tryz.call29 (A2 rfl rfl)) (w_impl_WidthOfProof S26.sl a2 v2_1 (p2_1.mono i27) v3 a3 (p3.mono i27) hr30) ?_
 rintro e w31 ⟨rfl, r32⟩
 refine ⟨_, rfl, ?_⟩
 have S33 := S26.call r32
 refine FL.v (E.move (v := Value.tuple #[Value.int .i64 r29.1, Value.bool r29.2]) rfl) ?_
 refine FL.v (E.extract (i := 0) rfl rfl) ?_
 refine FL.v (E.extract (i := 1) rfl rfl) ?_
 refine FL.v (E.assign (v := Value.int .i64 r29.1) rfl) ?_
 refine FL.v (E.assign (v := Value.bool r29.2) rfl) ?_
 refine FL.nil (FW.seq (FW.seq (FW.region ?_)))
 refine FL.v (E.move (v := Value.bool r29.2) rfl) ?_
 refine FL.v (E.not rfl) ?_
 refine FL.v (E.move (v := Value.bool (!r29.2)) rfl) ?_
 obtain ⟨t39, hqt39, hp⟩ := bnd hp
 refine FL.cut 5 (fun f w => ∃ H : GH, St Ha wa H w [] ∧ Inc H25 H ∧ f 0 = v0 ∧ f 1 = Value.string a1 ∧ f 3 = v3 ∧ f 10 = Value.int .i64 r29.1 ∧ f 25 = Value.bool t39) ?_ ?_
 ·
  clear hp; have hp := hqt39; clear hqt39
  rcases ifB hp with ⟨c45, hp⟩ | ⟨c45, hp⟩
  ·
   refine FL.skip (wF_no rfl rfl rfl c45) rfl ?_
   refine FL.skip (wF_no rfl rfl rfl c45) rfl ?_
   refine FL.skip (wF_no rfl rfl rfl c45) rfl ?_
   refine FL.skip (wF_no rfl rfl rfl c45) rfl ?_
   obtain rfl := Option.some.inj hp
   refine FL.v (E.pickT rfl c45 rfl) ?_
   exact FL.nil ⟨rfl, _, S33, (Inc.rfl _), rfl, rfl, rfl, rfl, rfl⟩
  ·
   refine FL.val (wF_yes rfl rfl rfl c45) rfl rfl (E.load rfl (run_loadA Tryz.isAgg34 Tryz.sizeOf34 (at28.now S33.sl) rfl)) ?_
   refine FL.val (wF_yes rfl rfl rfl c45) rfl rfl (E.move (v := v3) rfl) ?_
   obtain ⟨r46, hr47, hp⟩ := bnd hp
   refine FL.call (wF_yes rfl rfl rfl c45) rfl rfl (E.call Tryz.call30 (A2 rfl rfl)) (w_impl_IsRefutation S33.sl a2 v2_1 (p2_1.mono i27) v3 a3 (p3.mono i27) hr47) ?_
   rintro e w48 ⟨rfl, r49⟩
   refine ⟨_, rfl, ?_⟩
   have S50 := S33.call r49
   refine FL.val (wF_yes rfl rfl rfl c45) rfl rfl (E.not rfl) ?_
   obtain rfl := Option.some.inj hp
   refine FL.v (E.pickF rfl c45 rfl) ?_
   exact FL.nil ⟨rfl, _, S50, (Inc.rfl _), rfl, rfl, rfl, rfl, rfl⟩
 rintro f44 w43 ⟨H40, S41, i42, k51, k52, k53, k54, k55⟩
 refine FL.nil ?_
 rcases ifB hp with ⟨c56, hp⟩ | ⟨c56, hp⟩
 ·
  refine FW.condT k55 c56 ?_
  refine FW.seq (FW.region ?_)
  refine FL.v (E.assign (v := Value.slice none 0 0) rfl) ?_
  refine FL.v (E.assign (v := Value.bool false) rfl) ?_
  refine FL.nil ?_
  refine FW.ret ?_
  obtain rfl := Option.some.inj hp
  exact ⟨.inr rfl, res2 rfl rfl rfl ⟨_, _, _, _, rfl, (S41.nil 57 4), Els.nil⟩⟩
 ·
  refine FW.condF k55 c56 ?_
  refine FW.skip (FW.seq (FW.region ?_))
  refine FL.v (E.move k51) ?_
  refine FL.v (E.move k52) ?_
  refine FL.v (E.move k53) ?_
  refine FL.v (E.lenP te36 rfl p3) ?_
  refine FL.v (E.move k54) ?_
  obtain ⟨r57, hr58, hp⟩ := bnd hp
  refine FL.call rfl rfl rfl (E.call Tryz.call31 (A5 rfl rfl rfl rfl rfl)) (w_impl_entered S41.sl v0 a0 (p0.mono (i27.tr i42)) a1 1 (len a3) r29.1 (hT.mono (i27.tr i42)) hr58) ?_
  rintro e w60 ⟨H59, v63, n64, cs65, rfl, r62, els66⟩
  refine ⟨_, rfl, ?_⟩
  have els66 := els66.mono (up_le S41.size)
  have S61 := S41.join (l' := [.row 57 4 v63 n64 cs65]) r62 rfl
  refine FL.v (E.extract (i := 0) rfl rfl) ?_
  refine FL.v (E.extract (i := 1) rfl rfl) ?_
  refine FL.v (E.assign (v := v63) rfl) ?_
  refine FL.v (E.assign (v := Value.bool r57.2) rfl) ?_
  refine FL.nil ?_
  refine FW.ret ?_
  obtain rfl := Option.some.inj hp
  exact ⟨.inr rfl, res2 rfl rfl rfl ⟨_, _, _, _, rfl, S61, els66⟩⟩

set_option maxHeartbeats 4000000 in
theorem w_laws_eqRecord {Ha : GH} {wa : World} (hs : Sl Ha wa) (a0 : Record) (a1 : Record) :
  Calls Tryz.prog 32 #[Value.agg #[Value.string a0.name, Value.int .i64 a0.system, Value.int .i64 a0.size, Value.int .i64 a0.extra], Value.agg #[Value.string a1.name, Value.int .i64 a1.system, Value.int .i64 a1.size, Value.int .i64 a1.extra]] wa (Sc Ha wa (Value.bool (PF.laws_eqRecord a0 a1))) := by
 obtain ⟨r, hp⟩ : ∃ r, (PF.laws_eqRecord a0 a1) = r := ⟨_, rfl⟩
 rw [hp]
 unfold PF.laws_eqRecord at hp
 have S0 := St.init hs
 refine calls_go (N := 25) (args := [Value.agg #[Value.string a0.name, Value.int .i64 a0.system, Value.int .i64 a0.size, Value.int .i64 a0.extra], Value.agg #[Value.string a1.name, Value.int .i64 a1.system, Value.int .i64 a1.size, Value.int .i64 a1.extra]]) Tryz.func32 rfl rfl rfl ?_
 refine FW.seq (FW.region ?_)
 obtain ⟨b21, w22, run23, S24⟩ := S0.box (P := Tryz.prog) 57 [Value.string a0.name, Value.int .i64 a0.system, Value.int .i64 a0.size, Value.int .i64 a0.extra] (v := Value.agg #[Value.string a0.name, Value.int .i64 a0.system, Value.int .i64 a0.size, Value.int .i64 a0.extra]) rfl (ones_cons rfl (ones_cons rfl (ones_cons rfl (ones_cons rfl ones_nil))))
 refine FL.v (E.box rfl run23) ?_
 obtain ⟨H25, S26, i27, at28⟩ := S24.sealBox (i := 0) (l' := []) rfl rfl
 obtain ⟨b29, w30, run31, S32⟩ := S26.box (P := Tryz.prog) 57 [Value.string a1.name, Value.int .i64 a1.system, Value.int .i64 a1.size, Value.int .i64 a1.extra] (v := Value.agg #[Value.string a1.name, Value.int .i64 a1.system, Value.int .i64 a1.size, Value.int .i64 a1.extra]) rfl (ones_cons rfl (ones_cons rfl (ones_cons rfl (ones_cons rfl ones_nil))))
 refine FL.v (E.box rfl run31) ?_
 obtain ⟨H33, S34, i35, at36⟩ := S32.sealBox (i := 0) (l' := []) rfl rfl
 refine FL.v (E.assign (v := Value.bool false) rfl) ?_
 refine FL.nil (FW.seq (FW.seq (FW.region ?_)))
 refine FL.v (E.fieldAddr tf57_0 rfl) ?_
 refine FL.v (E.load rfl (run_load1 Tryz.isAgg9 ((at28.mono i35).now S34.sl) rfl)) ?_
 refine FL.v (E.fieldAddr tf57_0 rfl) ?_
 refine FL.v (E.load rfl (run_load1 Tryz.isAgg9 (at36.now S34.sl) rfl)) ?_
 refine FL.v (E.neqS rfl rfl) ?_
 refine FL.nil ?_
 rcases ifT hp with ⟨c37, hp⟩ | ⟨c37, hp⟩
 ·
  refine FW.condT rfl c37 ?_
  refine FW.seq (FW.region ?_)
  refine FL.v (E.assign (v := Value.bool false) rfl) ?_
  refine FL.nil ?_
  refine FW.ret ?_
  obtain rfl := hp
  exact ⟨.inr rfl, res1 rfl rfl ⟨rfl, S34.back⟩⟩
 ·
  refine FW.condF rfl c37 ?_
  refine FW.skip (FW.seq (FW.seq (FW.region ?_)))
  refine FL.v (E.fieldAddr tf57_1 rfl) ?_
  refine FL.v (E.load rfl (run_load1 Tryz.isAgg3 ((at28.mono i35).now S34.sl) rfl)) ?_
  refine FL.v (E.fieldAddr tf57_1 rfl) ?_
  refine FL.v (E.load rfl (run_load1 Tryz.isAgg3 (at36.now S34.sl) rfl)) ?_
  refine FL.v (E.neq rfl rfl) ?_
  refine FL.nil ?_
  rcases ifT hp with ⟨c38, hp⟩ | ⟨c38, hp⟩
  ·
   refine FW.condT rfl c38 ?_
   refine FW.seq (FW.region ?_)
   refine FL.v (E.assign (v := Value.bool false) rfl) ?_
   refine FL.nil ?_
   refine FW.ret ?_
   obtain rfl := hp
   exact ⟨.inr rfl, res1 rfl rfl ⟨rfl, S34.back⟩⟩
  ·
   refine FW.condF rfl c38 ?_
   refine FW.skip (FW.seq (FW.seq (FW.region ?_)))
   refine FL.v (E.fieldAddr tf57_2 rfl) ?_
   refine FL.v (E.load rfl (run_load1 Tryz.isAgg3 ((at28.mono i35).now S34.sl) rfl)) ?_
   refine FL.v (E.fieldAddr tf57_2 rfl) ?_
   refine FL.v (E.load rfl (run_load1 Tryz.isAgg3 (at36.now S34.sl) rfl)) ?_
   refine FL.v (E.neq rfl rfl) ?_
   refine FL.nil ?_
   rcases ifT hp with ⟨c39, hp⟩ | ⟨c39, hp⟩
   ·
    refine FW.condT rfl c39 ?_
    refine FW.seq (FW.region ?_)
    refine FL.v (E.assign (v := Value.bool false) rfl) ?_
    refine FL.nil ?_
    refine FW.ret ?_
    obtain rfl := hp
    exact ⟨.inr rfl, res1 rfl rfl ⟨rfl, S34.back⟩⟩
   ·
    refine FW.condF rfl c39 ?_
    refine FW.skip (FW.seq (FW.seq (FW.region ?_)))
    refine FL.v (E.fieldAddr tf57_3 rfl) ?_
    refine FL.v (E.load rfl (run_load1 Tryz.isAgg3 ((at28.mono i35).now S34.sl) rfl)) ?_
    refine FL.v (E.fieldAddr tf57_3 rfl) ?_
    refine FL.v (E.load rfl (run_load1 Tryz.isAgg3 (at36.now S34.sl) rfl)) ?_
    refine FL.v (E.neq rfl rfl) ?_
    refine FL.nil ?_
    rcases ifT hp with ⟨c40, hp⟩ | ⟨c40, hp⟩
    ·
     refine FW.condT rfl c40 ?_
     refine FW.seq (FW.region ?_)
     refine FL.v (E.assign (v := Value.bool false) rfl) ?_
     refine FL.nil ?_
     refine FW.ret ?_
     obtain rfl := hp
     exact ⟨.inr rfl, res1 rfl rfl ⟨rfl, S34.back⟩⟩
    ·
     refine FW.condF rfl c40 ?_
     refine FW.skip (FW.seq (FW.region ?_))
     refine FL.v (E.assign (v := Value.bool true) rfl) ?_
     refine FL.nil ?_
     refine FW.ret ?_
     obtain rfl := hp
     exact ⟨.inr rfl, res1 rfl rfl ⟨rfl, S34.back⟩⟩

set_option maxHeartbeats 4000000 in
theorem w_laws_eqRecordS {Ha : GH} {wa : World} (hs : Sl Ha wa) (v0 : Value) (a0 : List Record) (p0 : RSl Ha eRecord 4 v0 a0) (v1 : Value) (a1 : List Record) (p1 : RSl Ha eRecord 4 v1 a1) {r : Bool} (hp : (PF.laws_eqRecordS a0 a1) = some r) :
  Calls Tryz.prog 12 #[v0, v1] wa (Sc Ha wa (Value.bool r)) := by
 unfold PF.laws_eqRecordS at hp
 have S0 := St.init hs
 refine calls_go (N := 27) (args := [v0, v1]) Tryz.func12 rfl rfl rfl ?_
 refine FW.seq (FW.region ?_)
 refine FL.v (E.assign (v := Value.bool false) rfl) ?_
 refine FL.nil (FW.seq (FW.seq (FW.region ?_)))
 refine FL.v (E.move (v := v0) rfl) ?_
 refine FL.v (E.lenP te30 rfl p0) ?_
 refine FL.v (E.move (v := v1) rfl) ?_
 refine FL.v (E.lenP te30 rfl p1) ?_
 refine FL.v (E.neq rfl rfl) ?_
 refine FL.nil ?_
 rcases ifB hp with ⟨c21, hp⟩ | ⟨c21, hp⟩
 ·
  refine FW.condT rfl c21 ?_
  refine FW.seq (FW.region ?_)
  refine FL.v (E.assign (v := Value.bool false) rfl) ?_
  refine FL.nil ?_
  refine FW.ret ?_
  obtain rfl := Option.some.inj hp
  exact ⟨.inr rfl, res1 rfl rfl ⟨rfl, S0.back⟩⟩
 ·
  refine FW.condF rfl c21 ?_
  refine FW.skip (FW.seq (FW.seq (FW.region ?_)))
  refine FL.v (E.assign (v := Value.int .i64 0) rfl) ?_
  refine FL.nil ?_
  obtain ⟨q23, hq, hp⟩ := bndR hp
  refine FW.block ?_
  refine FW.mono (FW.forL (S := Unit) (X := Bool) (fun (i23 : Nat) (s23 : Unit) f w => ∃ H : GH, St Ha wa H w [] ∧ Inc Ha H ∧ f 5 = Value.int .i64 ((i23 : Nat) : Int) ∧ f 0 = v0 ∧ f 1 = v1) (fun q e f w => match q with | .go s23 => e = Exit.exit 0 ∧ (∃ H : GH, St Ha wa H w [] ∧ Inc Ha H) | .rt x => ((e = Exit.ret) ∧ (fun e f w => (e = Exit.normal ∨ e = Exit.ret) ∧ ∀ a, Fr (δ := []) 27 a f → ∃ v, (results Tryz.f12 a.tmps).run Tryz.prog w = .ok v w ∧ (Sc Ha wa (Value.bool x)) (.returned v) w) e f w)) hq ⟨_, S0, (Inc.rfl _), rfl, rfl, rfl⟩ ?_ ?_) ?_
  ·
   clear hp hq
   rintro i23 y22 s23 f55 w54 ⟨H51, S52, i53, k56, k57, k58⟩ hx23 o78 hp
   refine FW.seq (FW.seq (FW.region ?_))
   refine FL.v (E.move k56) ?_
   refine FL.v (E.move k57) ?_
   refine FL.v (E.lenP te30 rfl p0) ?_
   refine FL.v (E.lssT rfl rfl (lss_len hx23)) ?_
   refine FL.nil ?_
   refine FW.condT rfl rfl ?_
   refine FW.skip (FW.seq (FW.block (FW.seq ?_)))
   refine FW.draw (fun w' => Run w54.heap.size H51 w54 H51 w') (by kernel_rfl) (by kernel_rfl) (run_drew S52.sl) ?_
   refine FD.val rfl rfl rfl (fun w' hw' => (E.move k57)) ?_
   refine FD.val rfl rfl rfl (fun w' hw' => (E.move k56)) ?_
   obtain ⟨p60, cs61, pt62, l63, at64, rel65⟩ := p0.at (ix_nat hx23)
   obtain rfl := eRecord_open rel65
   refine FD.val rfl rfl rfl (fun w' hw' => (E.indexAddr te30 rfl rfl pt62)) ?_
   refine FD.val rfl rfl rfl (fun w' hw' => (E.load rfl (run_loadA Tryz.isAgg57 Tryz.sizeOf57 ((at64.mono i53).now (S52.call hw').sl) rfl))) ?_
   refine FD.val rfl rfl rfl (fun w' hw' => (E.move k58)) ?_
   refine FD.val rfl rfl rfl (fun w' hw' => (E.move k56)) ?_
   obtain ⟨x72, hx73, hp⟩ := bnd hp
   obtain ⟨p66, cs67, pt68, l69, at70, rel71⟩ := p1.at hx73
   obtain rfl := eRecord_open rel71
   refine FD.val rfl rfl rfl (fun w' hw' => (E.indexAddr te30 rfl rfl pt68)) ?_
   refine FD.val rfl rfl rfl (fun w' hw' => (E.load rfl (run_loadA Tryz.isAgg57 Tryz.sizeOf57 ((at70.mono i53).now (S52.call hw').sl) rfl))) ?_
   refine FD.call rfl rfl rfl (fun w' hw' => (E.call Tryz.call32 (A2 rfl rfl))) (fun w' hw' => Calls.cls hw' (w_laws_eqRecord (S52.call hw').sl y22 x72)) ?_
   refine FD.val rfl rfl rfl (fun w' hw' => (E.not rfl)) ?_
   refine FD.nil ?_
   intro w74 r76
   have S75 := S52.call r76
   rcases ifB hp with ⟨c77, hp⟩ | ⟨c77, hp⟩
   ·
    refine FW.condT rfl c77 ?_
    refine FW.seq (FW.region ?_)
    refine FL.v (E.assign (v := Value.bool false) rfl) ?_
    refine FL.nil ?_
    refine FW.ret ?_
    obtain rfl := Option.some.inj hp
    exact ⟨nofun, rfl, ⟨.inr rfl, res1 rfl rfl ⟨rfl, S75.back⟩⟩⟩
   ·
    refine FW.condF rfl c77 ?_
    refine FW.skip (FW.region ?_)
    refine FL.v (E.move k56) ?_
    refine FL.v (E.add rfl rfl) ?_
    refine FL.v (E.assign (v := Value.int .i64 (wr (((i23 : Nat) : Int) + 1))) rfl) ?_
    refine FL.nil ?_
    obtain rfl := Option.some.inj hp
    exact ⟨rfl, ⟨_, S75, i53, (nat_succ rfl (lt_of_get hx23) (p0.mono i53).le), k57, k58⟩⟩
  ·
   clear hp hq
   rintro s23 f88 w87 ⟨H84, S85, i86, k89, k90, k91⟩
   refine FW.seq (FW.seq (FW.region ?_))
   refine FL.v (E.move k89) ?_
   refine FL.v (E.move k90) ?_
   refine FL.v (E.lenP te30 rfl p0) ?_
   refine FL.v (E.lss rfl rfl) ?_
   refine FL.nil ?_
   refine FW.condF rfl dlt_len ?_
   refine FW.exit ?_
   exact ⟨nofun, rfl, ⟨_, S85, i86⟩⟩
  ·
   clear hq
   intro e f83 w82 hD
   rcases q23 with s23 | x23
   ·
    obtain ⟨rfl, hD⟩ := hD
    obtain ⟨H79, S80, i81⟩ := hD
    replace hp := el_go hp
    refine FW.seq (FW.region ?_)
    refine FL.v (E.assign (v := Value.bool true) rfl) ?_
    refine FL.nil ?_
    refine FW.ret ?_
    obtain rfl := Option.some.inj hp
    exact ⟨.inr rfl, res1 rfl rfl ⟨rfl, S80.back⟩⟩
   ·
    obtain ⟨he, hL⟩ := hD
    replace hp := el_rt hp
    obtain rfl := Option.some.inj hp
    subst he
    exact hL

set_option maxHeartbeats 4000000 in
theorem w_laws_eqIntS {Ha : GH} {wa : World} (hs : Sl Ha wa) (v0 : Value) (a0 : List Int) (p0 : RSl Ha eI 1 v0 a0) (v1 : Value) (a1 : List Int) (p1 : RSl Ha eI 1 v1 a1) {r : Bool} (hp : (PF.laws_eqIntS a0 a1) = some r) :
  Calls Tryz.prog 51 #[v0, v1] wa (Sc Ha wa (Value.bool r)) := by
 unfold PF.laws_eqIntS at hp
 have S0 := St.init hs
 refine calls_go (N := 26) (args := [v0, v1]) Tryz.func51 rfl rfl rfl ?_
 refine FW.seq (FW.region ?_)
 refine FL.v (E.assign (v := Value.bool false) rfl) ?_
 refine FL.nil (FW.seq (FW.seq (FW.region ?_)))
 refine FL.v (E.move (v := v0) rfl) ?_
 refine FL.v (E.lenP te50 rfl p0) ?_
 refine FL.v (E.move (v := v1) rfl) ?_
 refine FL.v (E.lenP te50 rfl p1) ?_
 refine FL.v (E.neq rfl rfl) ?_
 refine FL.nil ?_
 rcases ifB hp with ⟨c21, hp⟩ | ⟨c21, hp⟩
 ·
  refine FW.condT rfl c21 ?_
  refine FW.seq (FW.region ?_)
  refine FL.v (E.assign (v := Value.bool false) rfl) ?_
  refine FL.nil ?_
  refine FW.ret ?_
  obtain rfl := Option.some.inj hp
  exact ⟨.inr rfl, res1 rfl rfl ⟨rfl, S0.back⟩⟩
 ·
  refine FW.condF rfl c21 ?_
  refine FW.skip (FW.seq (FW.seq (FW.region ?_)))
  refine FL.v (E.assign (v := Value.int .i64 0) rfl) ?_
  refine FL.nil ?_
  obtain ⟨q23, hq, hp⟩ := bndR hp
  refine FW.block ?_
  refine FW.mono (FW.forL (S := Unit) (X := Bool) (fun (i23 : Nat) (s23 : Unit) f w => ∃ H : GH, St Ha wa H w [] ∧ Inc Ha H ∧ f 5 = Value.int .i64 ((i23 : Nat) : Int) ∧ f 0 = v0 ∧ f 1 = v1) (fun q e f w => match q with | .go s23 => e = Exit.exit 0 ∧ (∃ H : GH, St Ha wa H w [] ∧ Inc Ha H) | .rt x => ((e = Exit.ret) ∧ (fun e f w => (e = Exit.normal ∨ e = Exit.ret) ∧ ∀ a, Fr (δ := []) 26 a f → ∃ v, (results Tryz.f51 a.tmps).run Tryz.prog w = .ok v w ∧ (Sc Ha wa (Value.bool x)) (.returned v) w) e f w)) hq ⟨_, S0, (Inc.rfl _), rfl, rfl, rfl⟩ ?_ ?_) ?_
  ·
   clear hp hq
   rintro i23 y22 s23 f55 w54 ⟨H51, S52, i53, k56, k57, k58⟩ hx23 o78 hp
   refine FW.seq (FW.seq (FW.region ?_))
   refine FL.v (E.move k56) ?_
   refine FL.v (E.move k57) ?_
   refine FL.v (E.lenP te50 rfl p0) ?_
   refine FL.v (E.lssT rfl rfl (lss_len hx23)) ?_
   refine FL.nil ?_
   refine FW.condT rfl rfl ?_
   refine FW.skip (FW.seq (FW.block (FW.seq ?_)))
   refine FW.draw (fun w' => Run w54.heap.size H51 w54 H51 w') (by kernel_rfl) (by kernel_rfl) (run_drew S52.sl) ?_
   refine FD.val rfl rfl rfl (fun w' hw' => (E.move k57)) ?_
   refine FD.val rfl rfl rfl (fun w' hw' => (E.move k56)) ?_
   obtain ⟨p60, cs61, pt62, l63, at64, rel65⟩ := p0.at (ix_nat hx23)
   obtain rfl := eI_open rel65
   refine FD.val rfl rfl rfl (fun w' hw' => (E.indexAddr te50 rfl rfl pt62)) ?_
   refine FD.val rfl rfl rfl (fun w' hw' => (E.load rfl (run_load0 Tryz.isAgg3 ((at64.mono i53).now (S52.call hw').sl) rfl))) ?_
   refine FD.val rfl rfl rfl (fun w' hw' => (E.move k58)) ?_
   refine FD.val rfl rfl rfl (fun w' hw' => (E.move k56)) ?_
   obtain ⟨x72, hx73, hp⟩ := bnd hp
   obtain ⟨p66, cs67, pt68, l69, at70, rel71⟩ := p1.at hx73
   obtain rfl := eI_open rel71
   refine FD.val rfl rfl rfl (fun w' hw' => (E.indexAddr te50 rfl rfl pt68)) ?_
   refine FD.val rfl rfl rfl (fun w' hw' => (E.load rfl (run_load0 Tryz.isAgg3 ((at70.mono i53).now (S52.call hw').sl) rfl))) ?_
   refine FD.val rfl rfl rfl (fun w' hw' => (E.neq rfl rfl)) ?_
   refine FD.nil ?_
   intro w74 r76
   have S75 := S52.call r76
   rcases ifB hp with ⟨c77, hp⟩ | ⟨c77, hp⟩
   ·
    refine FW.condT rfl c77 ?_
    refine FW.seq (FW.region ?_)
    refine FL.v (E.assign (v := Value.bool false) rfl) ?_
    refine FL.nil ?_
    refine FW.ret ?_
    obtain rfl := Option.some.inj hp
    exact ⟨nofun, rfl, ⟨.inr rfl, res1 rfl rfl ⟨rfl, S75.back⟩⟩⟩
   ·
    refine FW.condF rfl c77 ?_
    refine FW.skip (FW.region ?_)
    refine FL.v (E.move k56) ?_
    refine FL.v (E.add rfl rfl) ?_
    refine FL.v (E.assign (v := Value.int .i64 (wr (((i23 : Nat) : Int) + 1))) rfl) ?_
    refine FL.nil ?_
    obtain rfl := Option.some.inj hp
    exact ⟨rfl, ⟨_, S75, i53, (nat_succ rfl (lt_of_get hx23) (p0.mono i53).le), k57, k58⟩⟩
  ·
   clear hp hq
   rintro s23 f88 w87 ⟨H84, S85, i86, k89, k90, k91⟩
   refine FW.seq (FW.seq (FW.region ?_))
   refine FL.v (E.move k89) ?_
   refine FL.v (E.move k90) ?_
   refine FL.v (E.lenP te50 rfl p0) ?_
   refine FL.v (E.lss rfl rfl) ?_
   refine FL.nil ?_
   refine FW.condF rfl dlt_len ?_
   refine FW.exit ?_
   exact ⟨nofun, rfl, ⟨_, S85, i86⟩⟩
  ·
   clear hq
   intro e f83 w82 hD
   rcases q23 with s23 | x23
   ·
    obtain ⟨rfl, hD⟩ := hD
    obtain ⟨H79, S80, i81⟩ := hD
    replace hp := el_go hp
    refine FW.seq (FW.region ?_)
    refine FL.v (E.assign (v := Value.bool true) rfl) ?_
    refine FL.nil ?_
    refine FW.ret ?_
    obtain rfl := Option.some.inj hp
    exact ⟨.inr rfl, res1 rfl rfl ⟨rfl, S80.back⟩⟩
   ·
    obtain ⟨he, hL⟩ := hD
    replace hp := el_rt hp
    obtain rfl := Option.some.inj hp
    subst he
    exact hL

set_option maxHeartbeats 4000000 in
theorem w_laws_eqIntSS {Ha : GH} {wa : World} (hs : Sl Ha wa) (v0 : Value) (a0 : List (List Int)) (p0 : RSl Ha (eL eI 1) 1 v0 a0) (v1 : Value) (a1 : List (List Int)) (p1 : RSl Ha (eL eI 1) 1 v1 a1) {r : Bool} (hp : (PF.laws_eqIntSS a0 a1) = some r) :
  Calls Tryz.prog 33 #[v0, v1] wa (Sc Ha wa (Value.bool r)) := by
 unfold PF.laws_eqIntSS at hp
 have S0 := St.init hs
 refine calls_go (N := 27) (args := [v0, v1]) Tryz.func33 rfl rfl rfl ?_
 refine FW.seq (FW.region ?_)
 refine FL.v (E.assign (v := Value.bool false) rfl) ?_
 refine FL.nil (FW.seq (FW.seq (FW.region ?_)))
 refine FL.v (E.move (v := v0) rfl) ?_
 refine FL.v (E.lenP te23 rfl p0) ?_
 refine FL.v (E.move (v := v1) rfl) ?_
 refine FL.v (E.lenP te23 rfl p1) ?_
 refine FL.v (E.neq rfl rfl) ?_
 refine FL.nil ?_
 rcases ifB hp with ⟨c21, hp⟩ | ⟨c21, hp⟩
 ·
  refine FW.condT rfl c21 ?_
  refine FW.seq (FW.region ?_)
  refine FL.v (E.assign (v := Value.bool false) rfl) ?_
  refine FL.nil ?_
  refine FW.ret ?_
  obtain rfl := Option.some.inj hp
  exact ⟨.inr rfl, res1 rfl rfl ⟨rfl, S0.back⟩⟩
 ·
  refine FW.condF rfl c21 ?_
  refine FW.skip (FW.seq (FW.seq (FW.region ?_)))
  refine FL.v (E.assign (v := Value.int .i64 0) rfl) ?_
  refine FL.nil ?_
  obtain ⟨q23, hq, hp⟩ := bndR hp
  refine FW.block ?_
  refine FW.mono (FW.forL (S := Unit) (X := Bool) (fun (i23 : Nat) (s23 : Unit) f w => ∃ H : GH, St Ha wa H w [] ∧ Inc Ha H ∧ f 5 = Value.int .i64 ((i23 : Nat) : Int) ∧ f 0 = v0 ∧ f 1 = v1) (fun q e f w => match q with | .go s23 => e = Exit.exit 0 ∧ (∃ H : GH, St Ha wa H w [] ∧ Inc Ha H) | .rt x => ((e = Exit.ret) ∧ (fun e f w => (e = Exit.normal ∨ e = Exit.ret) ∧ ∀ a, Fr (δ := []) 27 a f → ∃ v, (results Tryz.f33 a.tmps).run Tryz.prog w = .ok v w ∧ (Sc Ha wa (Value.bool x)) (.returned v) w) e f w)) hq ⟨_, S0, (Inc.rfl _), rfl, rfl, rfl⟩ ?_ ?_) ?_
  ·
   clear hp hq
   rintro i23 y22 s23 f61 w60 ⟨H57, S58, i59, k62, k63, k64⟩ hx23 o90 hp
   refine FW.seq (FW.seq (FW.region ?_))
   refine FL.v (E.move k62) ?_
   refine FL.v (E.move k63) ?_
   refine FL.v (E.lenP te23 rfl p0) ?_
   refine FL.v (E.lssT rfl rfl (lss_len hx23)) ?_
   refine FL.nil ?_
   refine FW.condT rfl rfl ?_
   refine FW.skip (FW.seq (FW.block (FW.seq ?_)))
   refine FW.draw (fun w' => Run w60.heap.size H57 w60 H57 w') (by kernel_rfl) (by kernel_rfl) (run_drew S58.sl) ?_
   refine FD.val rfl rfl rfl (fun w' hw' => (E.move k63)) ?_
   refine FD.val rfl rfl rfl (fun w' hw' => (E.move k62)) ?_
   obtain ⟨p66, cs67, pt68, l69, at70, rel71⟩ := p0.at (ix_nat hx23)
   obtain ⟨v72, rfl, h73⟩ := eL_open rel71
   refine FD.val rfl rfl rfl (fun w' hw' => (E.indexAddr te23 rfl rfl pt68)) ?_
   refine FD.val rfl rfl rfl (fun w' hw' => (E.load rfl (run_load0 Tryz.isAgg50 ((at70.mono i59).now (S58.call hw').sl) rfl))) ?_
   refine FD.val rfl rfl rfl (fun w' hw' => (E.move k64)) ?_
   refine FD.val rfl rfl rfl (fun w' hw' => (E.move k62)) ?_
   obtain ⟨x80, hx81, hp⟩ := bnd hp
   obtain ⟨p74, cs75, pt76, l77, at78, rel79⟩ := p1.at hx81
   obtain ⟨v82, rfl, h83⟩ := eL_open rel79
   refine FD.val rfl rfl rfl (fun w' hw' => (E.indexAddr te23 rfl rfl pt76)) ?_
   refine FD.val rfl rfl rfl (fun w' hw' => (E.load rfl (run_load0 Tryz.isAgg50 ((at78.mono i59).now (S58.call hw').sl) rfl))) ?_
   obtain ⟨r84, hr85, hp⟩ := bnd hp
   refine FD.call rfl rfl rfl (fun w' hw' => (E.call Tryz.call51 (A2 rfl rfl))) (fun w' hw' => Calls.cls hw' (w_laws_eqIntS (S58.call hw').sl v72 y22 (h73.mono i59) v82 x80 (h83.mono i59) hr85)) ?_
   refine FD.val rfl rfl rfl (fun w' hw' => (E.not rfl)) ?_
   refine FD.nil ?_
   intro w86 r88
   have S87 := S58.call r88
   rcases ifB hp with ⟨c89, hp⟩ | ⟨c89, hp⟩
   ·
    refine FW.condT rfl c89 ?_
    refine FW.seq (FW.region ?_)
    refine FL.v (E.assign (v := Value.bool false) rfl) ?_
    refine FL.nil ?_
    refine FW.ret ?_
    obtain rfl := Option.some.inj hp
    exact ⟨nofun, rfl, ⟨.inr rfl, res1 rfl rfl ⟨rfl, S87.back⟩⟩⟩
   ·
    refine FW.condF rfl c89 ?_
    refine FW.skip (FW.region ?_)
    refine FL.v (E.move k62) ?_
    refine FL.v (E.add rfl rfl) ?_
    refine FL.v (E.assign (v := Value.int .i64 (wr (((i23 : Nat) : Int) + 1))) rfl) ?_
    refine FL.nil ?_
    obtain rfl := Option.some.inj hp
    exact ⟨rfl, ⟨_, S87, i59, (nat_succ rfl (lt_of_get hx23) (p0.mono i59).le), k63, k64⟩⟩
  ·
   clear hp hq
   rintro s23 f100 w99 ⟨H96, S97, i98, k101, k102, k103⟩
   refine FW.seq (FW.seq (FW.region ?_))
   refine FL.v (E.move k101) ?_
   refine FL.v (E.move k102) ?_
   refine FL.v (E.lenP te23 rfl p0) ?_
   refine FL.v (E.lss rfl rfl) ?_
   refine FL.nil ?_
   refine FW.condF rfl dlt_len ?_
   refine FW.exit ?_
   exact ⟨nofun, rfl, ⟨_, S97, i98⟩⟩
  ·
   clear hq
   intro e f95 w94 hD
   rcases q23 with s23 | x23
   ·
    obtain ⟨rfl, hD⟩ := hD
    obtain ⟨H91, S92, i93⟩ := hD
    replace hp := el_go hp
    refine FW.seq (FW.region ?_)
    refine FL.v (E.assign (v := Value.bool true) rfl) ?_
    refine FL.nil ?_
    refine FW.ret ?_
    obtain rfl := Option.some.inj hp
    exact ⟨.inr rfl, res1 rfl rfl ⟨rfl, S92.back⟩⟩
   ·
    obtain ⟨he, hL⟩ := hD
    replace hp := el_rt hp
    obtain rfl := Option.some.inj hp
    subst he
    exact hL

theorem w_laws_eqCnf {Ha : GH} {wa : World} (hs : Sl Ha wa) (a0 : Cnf) (v0_1 : Value) (p0_1 : RSl Ha (eL eI 1) 1 v0_1 a0.clauses) (a1 : Cnf) (v1_1 : Value) (p1_1 : RSl Ha (eL eI 1) 1 v1_1 a1.clauses) {r : Bool} (hp : (PF.laws_eqCnf a0 a1) = some r) :
  Calls Tryz.prog 13 #[Value.agg #[Value.int .i64 a0.vars, v0_1], Value.agg #[Value.int .i64 a1.vars, v1_1]] wa (Sc Ha wa (Value.bool r)) := by
 unfold PF.laws_eqCnf at hp
 have S0 := St.init hs
 refine calls_go (N := 16) (args := [Value.agg #[Value.int .i64 a0.vars, v0_1], Value.agg #[Value.int .i64 a1.vars, v1_1]]) Tryz.func13 rfl rfl rfl ?_
 refine FW.seq (FW.region ?_)
 obtain ⟨b21, w22, run23, S24⟩ := S0.box (P := Tryz.prog) 34 [Value.int .i64 a0.vars, v0_1] (v := Value.agg #[Value.int .i64 a0.vars, v0_1]) rfl (ones_cons rfl (ones_cons p0_1.one ones_nil))
 refine FL.v (E.box rfl run23) ?_
 obtain ⟨H25, S26, i27, at28⟩ := S24.sealBox (i := 0) (l' := []) rfl rfl
 obtain ⟨b29, w30, run31, S32⟩ := S26.box (P := Tryz.prog) 34 [Value.int .i64 a1.vars, v1_1] (v := Value.agg #[Value.int .i64 a1.vars, v1_1]) rfl (ones_cons rfl (ones_cons p1_1.one ones_nil))
 refine FL.v (E.box rfl run31) ?_
 obtain ⟨H33, S34, i35, at36⟩ := S32.sealBox (i := 0) (l' := []) rfl rfl
 refine FL.v (E.assign (v := Value.bool false) rfl) ?_
 refine FL.nil (FW.seq (FW.seq (FW.region ?_)))
 refine FL.v (E.fieldAddr tf34_0 rfl) ?_
 refine FL.v (E.load rfl (run_load1 Tryz.isAgg3 ((at28.mono i35).now S34.sl) rfl)) ?_
 refine FL.v (E.fieldAddr tf34_0 rfl) ?_
 refine FL.v (E.load rfl (run_load1 Tryz.isAgg3 (at36.now S34.sl) rfl)) ?_
 refine FL.v (E.neq rfl rfl) ?_
 refine FL.nil ?_
 rcases ifB hp with ⟨c37, hp⟩ | ⟨c37, hp⟩
 ·
  refine FW.condT rfl c37 ?_
  refine FW.seq (FW.region ?_)
  refine FL.v (E.assign (v := Value.bool false) rfl) ?_
  refine FL.nil ?_
  refine FW.ret ?_
  obtain rfl := Option.some.inj hp
  exact ⟨.inr rfl, res1 rfl rfl ⟨rfl, S34.back⟩⟩
 ·
  refine FW.condF rfl c37 ?_
  refine FW.skip (FW.seq (FW.seq (FW.region ?_)))
  refine FL.v (E.fieldAddr tf34_1 rfl) ?_
  refine FL.v (E.load rfl (run_load1 Tryz.isAgg23 ((at28.mono i35).now S34.sl) rfl)) ?_
  refine FL.v (E.fieldAddr tf34_1 rfl) ?_
  refine FL.v (E.load rfl (run_load1 Tryz.isAgg23 (at36.now S34.sl) rfl)) ?_
  obtain ⟨r38, hr39, hp⟩ := bnd hp
  refine FL.call rfl rfl rfl (E.call Tryz.call33 (A2 rfl rfl)) (w_laws_eqIntSS S34.sl v0_1 a0.clauses (p0_1.mono (i27.tr i35)) v1_1 a1.clauses (p1_1.mono (i27.tr i35)) hr39) ?_
  rintro e w40 ⟨rfl, r41⟩
  refine ⟨_, rfl, ?_⟩
  have S42 := S34.call r41
  refine FL.v (E.not rfl) ?_
  refine FL.nil ?_
  rcases ifB hp with ⟨c43, hp⟩ | ⟨c43, hp⟩
  ·
   refine FW.condT rfl c43 ?_
   refine FW.seq (FW.region ?_)
   refine FL.v (E.assign (v := Value.bool false) rfl) ?_
   refine FL.nil ?_
   refine FW.ret ?_
   obtain rfl := Option.some.inj hp
   exact ⟨.inr rfl, res1 rfl rfl ⟨rfl, S42.back⟩⟩
  ·
   refine FW.condF rfl c43 ?_
   refine FW.skip (FW.seq (FW.region ?_))
   refine FL.v (E.assign (v := Value.bool true) rfl) ?_
   refine FL.nil ?_
   refine FW.ret ?_
   obtain rfl := Option.some.inj hp
   exact ⟨.inr rfl, res1 rfl rfl ⟨rfl, S42.back⟩⟩

set_option maxHeartbeats 4000000 in
theorem w_laws_eqResStep {Ha : GH} {wa : World} (hs : Sl Ha wa) (a0 : ResStep) (v0_0 : Value) (p0_0 : RSl Ha eI 1 v0_0 a0.clause) (a1 : ResStep) (v1_0 : Value) (p1_0 : RSl Ha eI 1 v1_0 a1.clause) {r : Bool} (hp : (PF.laws_eqResStep a0 a1) = some r) :
  Calls Tryz.prog 34 #[Value.agg #[v0_0, Value.int .i64 a0.left, Value.int .i64 a0.right, Value.int .i64 a0.pivot], Value.agg #[v1_0, Value.int .i64 a1.left, Value.int .i64 a1.right, Value.int .i64 a1.pivot]] wa (Sc Ha wa (Value.bool r)) := by
 unfold PF.laws_eqResStep at hp
 have S0 := St.init hs
 refine calls_go (N := 26) (args := [Value.agg #[v0_0, Value.int .i64 a0.left, Value.int .i64 a0.right, Value.int .i64 a0.pivot], Value.agg #[v1_0, Value.int .i64 a1.left, Value.int .i64 a1.right, Value.int .i64 a1.pivot]]) Tryz.func34 rfl rfl rfl ?_
 refine FW.seq (FW.region ?_)
 obtain ⟨b21, w22, run23, S24⟩ := S0.box (P := Tryz.prog) 60 [v0_0, Value.int .i64 a0.left, Value.int .i64 a0.right, Value.int .i64 a0.pivot] (v := Value.agg #[v0_0, Value.int .i64 a0.left, Value.int .i64 a0.right, Value.int .i64 a0.pivot]) rfl (ones_cons p0_0.one (ones_cons rfl (ones_cons rfl (ones_cons rfl ones_nil))))
 refine FL.v (E.box rfl run23) ?_
 obtain ⟨H25, S26, i27, at28⟩ := S24.sealBox (i := 0) (l' := []) rfl rfl
 obtain ⟨b29, w30, run31, S32⟩ := S26.box (P := Tryz.prog) 60 [v1_0, Value.int .i64 a1.left, Value.int .i64 a1.right, Value.int .i64 a1.pivot] (v := Value.agg #[v1_0, Value.int .i64 a1.left, Value.int .i64 a1.right, Value.int .i64 a1.pivot]) rfl (ones_cons p1_0.one (ones_cons rfl (ones_cons rfl (ones_cons rfl ones_nil))))
 refine FL.v (E.box rfl run31) ?_
 obtain ⟨H33, S34, i35, at36⟩ := S32.sealBox (i := 0) (l' := []) rfl rfl
 refine FL.v (E.assign (v := Value.bool false) rfl) ?_
 refine FL.nil (FW.seq (FW.seq (FW.region ?_)))
 refine FL.v (E.fieldAddr tf60_0 rfl) ?_
 refine FL.v (E.load rfl (run_load1 Tryz.isAgg50 ((at28.mono i35).now S34.sl) rfl)) ?_
 refine FL.v (E.fieldAddr tf60_0 rfl) ?_
 refine FL.v (E.load rfl (run_load1 Tryz.isAgg50 (at36.now S34.sl) rfl)) ?_
 obtain ⟨r37, hr38, hp⟩ := bnd hp
 refine FL.call rfl rfl rfl (E.call Tryz.call51 (A2 rfl rfl)) (w_laws_eqIntS S34.sl v0_0 a0.clause (p0_0.mono (i27.tr i35)) v1_0 a1.clause (p1_0.mono (i27.tr i35)) hr38) ?_
 rintro e w39 ⟨rfl, r40⟩
 refine ⟨_, rfl, ?_⟩
 have S41 := S34.call r40
 refine FL.v (E.not rfl) ?_
 refine FL.nil ?_
 rcases ifB hp with ⟨c42, hp⟩ | ⟨c42, hp⟩
 ·
  refine FW.condT rfl c42 ?_
  refine FW.seq (FW.region ?_)
  refine FL.v (E.assign (v := Value.bool false) rfl) ?_
  refine FL.nil ?_
  refine FW.ret ?_
  obtain rfl := Option.some.inj hp
  exact ⟨.inr rfl, res1 rfl rfl ⟨rfl, S41.back⟩⟩
 ·
  refine FW.condF rfl c42 ?_
  refine FW.skip (FW.seq (FW.seq (FW.region ?_)))
  refine FL.v (E.fieldAddr tf60_1 rfl) ?_
  refine FL.v (E.load rfl (run_load1 Tryz.isAgg3 ((at28.mono i35).now S41.sl) rfl)) ?_
  refine FL.v (E.fieldAddr tf60_1 rfl) ?_
  refine FL.v (E.load rfl (run_load1 Tryz.isAgg3 (at36.now S41.sl) rfl)) ?_
  refine FL.v (E.neq rfl rfl) ?_
  refine FL.nil ?_
  rcases ifB hp with ⟨c43, hp⟩ | ⟨c43, hp⟩
  ·
   refine FW.condT rfl c43 ?_
   refine FW.seq (FW.region ?_)
   refine FL.v (E.assign (v := Value.bool false) rfl) ?_
   refine FL.nil ?_
   refine FW.ret ?_
   obtain rfl := Option.some.inj hp
   exact ⟨.inr rfl, res1 rfl rfl ⟨rfl, S41.back⟩⟩
  ·
   refine FW.condF rfl c43 ?_
   refine FW.skip (FW.seq (FW.seq (FW.region ?_)))
   refine FL.v (E.fieldAddr tf60_2 rfl) ?_
   refine FL.v (E.load rfl (run_load1 Tryz.isAgg3 ((at28.mono i35).now S41.sl) rfl)) ?_
   refine FL.v (E.fieldAddr tf60_2 rfl) ?_
   refine FL.v (E.load rfl (run_load1 Tryz.isAgg3 (at36.now S41.sl) rfl)) ?_
   refine FL.v (E.neq rfl rfl) ?_
   refine FL.nil ?_
   rcases ifB hp with ⟨c44, hp⟩ | ⟨c44, hp⟩
   ·
    refine FW.condT rfl c44 ?_
    refine FW.seq (FW.region ?_)
    refine FL.v (E.assign (v := Value.bool false) rfl) ?_
    refine FL.nil ?_
    refine FW.ret ?_
    obtain rfl := Option.some.inj hp
    exact ⟨.inr rfl, res1 rfl rfl ⟨rfl, S41.back⟩⟩
   ·
    refine FW.condF rfl c44 ?_
    refine FW.skip (FW.seq (FW.seq (FW.region ?_)))
    refine FL.v (E.fieldAddr tf60_3 rfl) ?_
    refine FL.v (E.load rfl (run_load1 Tryz.isAgg3 ((at28.mono i35).now S41.sl) rfl)) ?_
    refine FL.v (E.fieldAddr tf60_3 rfl) ?_
    refine FL.v (E.load rfl (run_load1 Tryz.isAgg3 (at36.now S41.sl) rfl)) ?_
    refine FL.v (E.neq rfl rfl) ?_
    refine FL.nil ?_
    rcases ifB hp with ⟨c45, hp⟩ | ⟨c45, hp⟩
    ·
     refine FW.condT rfl c45 ?_
     refine FW.seq (FW.region ?_)
     refine FL.v (E.assign (v := Value.bool false) rfl) ?_
     refine FL.nil ?_
     refine FW.ret ?_
     obtain rfl := Option.some.inj hp
     exact ⟨.inr rfl, res1 rfl rfl ⟨rfl, S41.back⟩⟩
    ·
     refine FW.condF rfl c45 ?_
     refine FW.skip (FW.seq (FW.region ?_))
     refine FL.v (E.assign (v := Value.bool true) rfl) ?_
     refine FL.nil ?_
     refine FW.ret ?_
     obtain rfl := Option.some.inj hp
     exact ⟨.inr rfl, res1 rfl rfl ⟨rfl, S41.back⟩⟩

set_option maxHeartbeats 4000000 in
theorem w_laws_eqResStepS {Ha : GH} {wa : World} (hs : Sl Ha wa) (v0 : Value) (a0 : List ResStep) (p0 : RSl Ha eResStep 4 v0 a0) (v1 : Value) (a1 : List ResStep) (p1 : RSl Ha eResStep 4 v1 a1) {r : Bool} (hp : (PF.laws_eqResStepS a0 a1) = some r) :
  Calls Tryz.prog 14 #[v0, v1] wa (Sc Ha wa (Value.bool r)) := by
 unfold PF.laws_eqResStepS at hp
 have S0 := St.init hs
 refine calls_go (N := 27) (args := [v0, v1]) Tryz.func14 rfl rfl rfl ?_
 refine FW.seq (FW.region ?_)
 refine FL.v (E.assign (v := Value.bool false) rfl) ?_
 refine FL.nil (FW.seq (FW.seq (FW.region ?_)))
 refine FL.v (E.move (v := v0) rfl) ?_
 refine FL.v (E.lenP te36 rfl p0) ?_
 refine FL.v (E.move (v := v1) rfl) ?_
 refine FL.v (E.lenP te36 rfl p1) ?_
 refine FL.v (E.neq rfl rfl) ?_
 refine FL.nil ?_
 rcases ifB hp with ⟨c21, hp⟩ | ⟨c21, hp⟩
 ·
  refine FW.condT rfl c21 ?_
  refine FW.seq (FW.region ?_)
  refine FL.v (E.assign (v := Value.bool false) rfl) ?_
  refine FL.nil ?_
  refine FW.ret ?_
  obtain rfl := Option.some.inj hp
  exact ⟨.inr rfl, res1 rfl rfl ⟨rfl, S0.back⟩⟩
 ·
  refine FW.condF rfl c21 ?_
  refine FW.skip (FW.seq (FW.seq (FW.region ?_)))
  refine FL.v (E.assign (v := Value.int .i64 0) rfl) ?_
  refine FL.nil ?_
  obtain ⟨q23, hq, hp⟩ := bndR hp
  refine FW.block ?_
  refine FW.mono (FW.forL (S := Unit) (X := Bool) (fun (i23 : Nat) (s23 : Unit) f w => ∃ H : GH, St Ha wa H w [] ∧ Inc Ha H ∧ f 5 = Value.int .i64 ((i23 : Nat) : Int) ∧ f 0 = v0 ∧ f 1 = v1) (fun q e f w => match q with | .go s23 => e = Exit.exit 0 ∧ (∃ H : GH, St Ha wa H w [] ∧ Inc Ha H) | .rt x => ((e = Exit.ret) ∧ (fun e f w => (e = Exit.normal ∨ e = Exit.ret) ∧ ∀ a, Fr (δ := []) 27 a f → ∃ v, (results Tryz.f14 a.tmps).run Tryz.prog w = .ok v w ∧ (Sc Ha wa (Value.bool x)) (.returned v) w) e f w)) hq ⟨_, S0, (Inc.rfl _), rfl, rfl, rfl⟩ ?_ ?_) ?_
  ·
   clear hp hq
   rintro i23 y22 s23 f61 w60 ⟨H57, S58, i59, k62, k63, k64⟩ hx23 o90 hp
   refine FW.seq (FW.seq (FW.region ?_))
   refine FL.v (E.move k62) ?_
   refine FL.v (E.move k63) ?_
   refine FL.v (E.lenP te36 rfl p0) ?_
   refine FL.v (E.lssT rfl rfl (lss_len hx23)) ?_
   refine FL.nil ?_
   refine FW.condT rfl rfl ?_
   refine FW.skip (FW.seq (FW.block (FW.seq ?_)))
   refine FW.draw (fun w' => Run w60.heap.size H57 w60 H57 w') (by kernel_rfl) (by kernel_rfl) (run_drew S58.sl) ?_
   refine FD.val rfl rfl rfl (fun w' hw' => (E.move k63)) ?_
   refine FD.val rfl rfl rfl (fun w' hw' => (E.move k62)) ?_
   obtain ⟨p66, cs67, pt68, l69, at70, rel71⟩ := p0.at (ix_nat hx23)
   obtain ⟨v72, rfl, h73⟩ := eResStep_open rel71
   refine FD.val rfl rfl rfl (fun w' hw' => (E.indexAddr te36 rfl rfl pt68)) ?_
   refine FD.val rfl rfl rfl (fun w' hw' => (E.load rfl (run_loadA Tryz.isAgg60 Tryz.sizeOf60 ((at70.mono i59).now (S58.call hw').sl) rfl))) ?_
   refine FD.val rfl rfl rfl (fun w' hw' => (E.move k64)) ?_
   refine FD.val rfl rfl rfl (fun w' hw' => (E.move k62)) ?_
   obtain ⟨x80, hx81, hp⟩ := bnd hp
   obtain ⟨p74, cs75, pt76, l77, at78, rel79⟩ := p1.at hx81
   obtain ⟨v82, rfl, h83⟩ := eResStep_open rel79
   refine FD.val rfl rfl rfl (fun w' hw' => (E.indexAddr te36 rfl rfl pt76)) ?_
   refine FD.val rfl rfl rfl (fun w' hw' => (E.load rfl (run_loadA Tryz.isAgg60 Tryz.sizeOf60 ((at78.mono i59).now (S58.call hw').sl) rfl))) ?_
   obtain ⟨r84, hr85, hp⟩ := bnd hp
   refine FD.call rfl rfl rfl (fun w' hw' => (E.call Tryz.call34 (A2 rfl rfl))) (fun w' hw' => Calls.cls hw' (w_laws_eqResStep (S58.call hw').sl y22 v72 (h73.mono i59) x80 v82 (h83.mono i59) hr85)) ?_
   refine FD.val rfl rfl rfl (fun w' hw' => (E.not rfl)) ?_
   refine FD.nil ?_
   intro w86 r88
   have S87 := S58.call r88
   rcases ifB hp with ⟨c89, hp⟩ | ⟨c89, hp⟩
   ·
    refine FW.condT rfl c89 ?_
    refine FW.seq (FW.region ?_)
    refine FL.v (E.assign (v := Value.bool false) rfl) ?_
    refine FL.nil ?_
    refine FW.ret ?_
    obtain rfl := Option.some.inj hp
    exact ⟨nofun, rfl, ⟨.inr rfl, res1 rfl rfl ⟨rfl, S87.back⟩⟩⟩
   ·
    refine FW.condF rfl c89 ?_
    refine FW.skip (FW.region ?_)
    refine FL.v (E.move k62) ?_
    refine FL.v (E.add rfl rfl) ?_
    refine FL.v (E.assign (v := Value.int .i64 (wr (((i23 : Nat) : Int) + 1))) rfl) ?_
    refine FL.nil ?_
    obtain rfl := Option.some.inj hp
    exact ⟨rfl, ⟨_, S87, i59, (nat_succ rfl (lt_of_get hx23) (p0.mono i59).le), k63, k64⟩⟩
  ·
   clear hp hq
   rintro s23 f100 w99 ⟨H96, S97, i98, k101, k102, k103⟩
   refine FW.seq (FW.seq (FW.region ?_))
   refine FL.v (E.move k101) ?_
   refine FL.v (E.move k102) ?_
   refine FL.v (E.lenP te36 rfl p0) ?_
   refine FL.v (E.lss rfl rfl) ?_
   refine FL.nil ?_
   refine FW.condF rfl dlt_len ?_
   refine FW.exit ?_
   exact ⟨nofun, rfl, ⟨_, S97, i98⟩⟩
  ·
   clear hq
   intro e f95 w94 hD
   rcases q23 with s23 | x23
   ·
    obtain ⟨rfl, hD⟩ := hD
    obtain ⟨H91, S92, i93⟩ := hD
    replace hp := el_go hp
    refine FW.seq (FW.region ?_)
    refine FL.v (E.assign (v := Value.bool true) rfl) ?_
    refine FL.nil ?_
    refine FW.ret ?_
    obtain rfl := Option.some.inj hp
    exact ⟨.inr rfl, res1 rfl rfl ⟨rfl, S92.back⟩⟩
   ·
    obtain ⟨he, hL⟩ := hD
    replace hp := el_rt hp
    obtain rfl := Option.some.inj hp
    subst he
    exact hL

theorem w_laws_markTextO {Ha : GH} {wa : World} (hs : Sl Ha wa) (a0 : Int) {r : ByteArray} (hp : (PF.laws_markTextO a0) = some r) :
  Calls Tryz.prog 35 #[Value.int .i64 a0] wa (Sc Ha wa (Value.string r)) := by
 unfold PF.laws_markTextO at hp
 have S0 := St.init hs
 refine calls_go (N := 20) (args := [Value.int .i64 a0]) Tryz.func35 rfl rfl rfl ?_
 refine FW.seq (FW.region ?_)
 refine FL.v (E.assign (v := Value.string (ByteArray.mk #[])) rfl) ?_
 refine FL.nil (FW.seq (FW.seq (FW.region ?_)))
 refine FL.v (E.move (v := Value.int .i64 a0) rfl) ?_
 refine FL.v (E.leq rfl rfl) ?_
 refine FL.nil ?_
 rcases ifB hp with ⟨c21, hp⟩ | ⟨c21, hp⟩
 ·
  refine FW.condT rfl c21 ?_
  refine FW.seq (FW.region ?_)
  refine FL.v (E.assign (v := Value.string (ByteArray.mk #[109, 48])) rfl) ?_
  refine FL.nil ?_
  refine FW.ret ?_
  obtain rfl := Option.some.inj hp
  exact ⟨.inr rfl, res1 rfl rfl ⟨rfl, S0.back⟩⟩
 ·
  refine FW.condF rfl c21 ?_
  refine FW.skip (FW.seq (FW.region ?_))
  refine FL.v (E.assign (v := Value.string (ByteArray.mk #[])) rfl) ?_
  refine FL.nil (FW.seq ?_)
  obtain ⟨q22, hq, hp⟩ := bndR hp
  refine FW.block ?_
  refine FW.mono (FW.iter (S := (Int × ByteArray)) (X := Empty) (fun (s22 : (Int × ByteArray)) f w => ∃ H : GH, St Ha wa H w [] ∧ Inc Ha H ∧ f 0 = Value.int .i64 s22.1 ∧ f 3 = Value.string s22.2) (fun (q : Rs (Int × ByteArray) Empty) e f w => match q with | .go s22 => e = Exit.exit 0 ∧ (∃ H : GH, St Ha wa H w [] ∧ Inc Ha H ∧ f 3 = Value.string s22.2) | .rt x => x.elim) hq ⟨_, S0, (Inc.rfl _), rfl, rfl⟩ ?_) ?_
  ·
   clear hp hq
   rintro s22 f42 w41 ⟨H38, S39, i40, k43, k44⟩ o53 hp
   refine FW.seq (FW.seq (FW.region ?_))
   refine FL.v (E.move k43) ?_
   refine FL.v (E.gtr rfl rfl) ?_
   refine FL.nil ?_
   rcases ifB hp with ⟨c45, hp⟩ | ⟨c45, hp⟩
   ·
    refine FW.condT rfl c45 ?_
    refine FW.skip (FW.block (FW.seq (FW.region ?_)))
    refine FL.v (E.move k43) ?_
    refine FL.v (E.rem rfl rfl (by decide)) ?_
    refine FL.v (E.add rfl rfl) ?_
    refine FL.v (E.conv Tryz.runUnderlying3 Tryz.runUnderlying5 rfl) ?_
    obtain ⟨v46, w47, run48, S49⟩ := S39.buildSlice (P := Tryz.prog) te83 [Value.int .u8 (wrk false 8 (wr (48 + (s22.1.tmod 10))))] (parts := #[(0, Value.int .u8 (wrk false 8 (wr (48 + (s22.1.tmod 10)))))]) (cells := [Value.int .u8 (wrk false 8 (wr (48 + (s22.1.tmod 10))))]) rfl (szs_cons rfl szs_nil) (fc_cons rfl fc_nil) (ones_cons rfl ones_nil) (Nat.le_of_ble_eq_true rfl)
    have els50 : Els (up wa.heap.size H38) (eN .u8) 1 [Value.int .u8 (wrk false 8 (wr (48 + (s22.1.tmod 10))))] [(wrk false 8 (wr (48 + (s22.1.tmod 10))))] := (Els.snoc (H := (up wa.heap.size H38)) (E := (eN .u8)) (k := 1) (c := [Value.int .u8 (wrk false 8 (wr (48 + (s22.1.tmod 10))))]) (x := (wrk false 8 (wr (48 + (s22.1.tmod 10))))) Els.nil rfl rfl)
    refine FL.v (E.buildSlice (B1 rfl) run48) ?_
    refine FL.v (E.bytes Tryz.underlying83 Tryz.underlying5 Tryz.underlying9 S49 (i := 0) rfl els50 rfl) ?_
    refine FL.v (E.move k44) ?_
    obtain ⟨z51, h52, hp⟩ := bnd hp
    refine FL.v (E.addT rfl rfl h52) ?_
    refine FL.v (E.assign (v := Value.string z51) rfl) ?_
    refine FL.nil (FW.region ?_)
    refine FL.v (E.move k43) ?_
    refine FL.v (E.quo rfl rfl (by decide)) ?_
    refine FL.v (E.assign (v := Value.int .i64 (wr (s22.1.tdiv 10))) rfl) ?_
    refine FL.nil ?_
    obtain rfl := Option.some.inj hp
    exact ⟨rfl, ⟨_, (S49.sel [] (by decide) rfl), i40, rfl, rfl⟩⟩
   ·
    refine FW.condF rfl c45 ?_
    refine FW.exit ?_
    obtain rfl := Option.some.inj hp
    exact ⟨nofun, rfl, ⟨_, S39, i40, k44⟩⟩
  ·
   clear hq
   intro e f58 w57 hD
   rcases q22 with s22 | x22
   ·
    obtain ⟨rfl, hD⟩ := hD
    obtain ⟨H54, S55, i56, k59⟩ := hD
    replace hp := el_go hp
    refine FW.seq (FW.region ?_)
    refine FL.v (E.move k59) ?_
    obtain ⟨z60, h61, hp⟩ := bnd hp
    refine FL.v (E.addT rfl rfl h61) ?_
    refine FL.v (E.assign (v := Value.string z60) rfl) ?_
    refine FL.nil ?_
    refine FW.ret ?_
    obtain rfl := Option.some.inj hp
    exact ⟨.inr rfl, res1 rfl rfl ⟨rfl, S55.back⟩⟩
   ·
    exact x22.elim
theorem w_laws_markText {Ha : GH} {wa : World} (hs : Sl Ha wa) (a0 : Int) : Calls Tryz.prog 35 #[Value.int .i64 a0] wa (Sc Ha wa (Value.string (PF.laws_markText a0))) := w_laws_markTextO hs a0 (PF.laws_markText_eq a0)

theorem w_laws_markRecordS {H0 Ha : GH} {w0 wa : World} {l : List MO} (S0 : St H0 w0 Ha wa l) (hs0 : Sl H0 w0) (v0 : Value) (a0 : List Record) (p0 : RSl (up w0.heap.size Ha) eRecord 4 v0 a0) (a1 : Int) :
  Calls Tryz.prog 15 #[v0, Value.int .i64 a1] wa (M1 H0 w0 Ha l eRecord 4 v0 (PF.laws_markRecordS a0 a1)) := by
 obtain ⟨c0, n0, hc0⟩ := p0.nest eRecord_flat (by decide)
 have hln := p0.ln
 have hle := p0.le
 refine calls_go (N := 42) (args := [v0, Value.int .i64 a1]) Tryz.func15 rfl rfl rfl ?_
 refine FW.seq (FW.region ?_)
 refine FL.v (E.assign (v := Value.int .i64 0) rfl) ?_
 refine FL.nil (FW.seq (FW.seq (FW.region ?_)))
 refine FL.v (E.assign (v := Value.int .i64 0) rfl) ?_
 refine FL.nil (FW.block ?_)
 refine FW.mono (FW.mark (F := fun y m => ((Record.mk (PF.laws_markText m) (wr (m + 1)) (wr ((wr (m + 1)) + 1)) (wr ((wr ((wr (m + 1)) + 1)) + 1))), (wr ((wr ((wr ((wr (m + 1)) + 1)) + 1)) + 1)))) (a0 := a0) (k0 := a1) (fun (i : Nat) (xs : List Record) (k : Int) f w => ∃ (H : GH) (c : List Value), St H0 w0 H w l ∧ Nest (up w0.heap.size H) eRecord 4 v0 xs c ∧ bl c = bl c0 ∧ (∀ b, b ∉ bl [v0] → b ∉ bl c0 → H b = Ha b) ∧ f 0 = v0 ∧ f 1 = Value.int .i64 k ∧ f 5 = Value.int .i64 ((i : Nat) : Int)) (fun e f w => e = Exit.exit 0 ∧ ∃ (H : GH) (c : List Value), St H0 w0 H w l ∧ Nest (up w0.heap.size H) eRecord 4 v0 (markFrom (fun y m => ((Record.mk (PF.laws_markText m) (wr (m + 1)) (wr ((wr (m + 1)) + 1)) (wr ((wr ((wr (m + 1)) + 1)) + 1))), (wr ((wr ((wr ((wr (m + 1)) + 1)) + 1)) + 1)))) a0 a1).1 c ∧ bl c = bl c0 ∧ (∀ b, b ∉ bl [v0] → b ∉ bl c0 → H b = Ha b) ∧ f 0 = v0 ∧ f 1 = Value.int .i64 (markFrom (fun y m => ((Record.mk (PF.laws_markText m) (wr (m + 1)) (wr ((wr (m + 1)) + 1)) (wr ((wr ((wr (m + 1)) + 1)) + 1))), (wr ((wr ((wr ((wr (m + 1)) + 1)) + 1)) + 1)))) a0 a1).2) ⟨_, _, S0, n0, rfl, fun _ _ _ => rfl, rfl, rfl, rfl⟩ ?_ ?_) ?_
 ·
  rintro i y xs m f1 w1 ⟨H1, c1, S1, n1, hb, ho, kv, kk, kc⟩ hx hy
  obtain ⟨p, hpt, wr0, hB, hr, nd⟩ := n1.begin hy (by decide)
  have hci := eRecord_open hr
  have rd := wr0.opens hci
  refine FW.seq (FW.seq (FW.region ?_))
  refine FL.v (E.move kc) ?_
  refine FL.v (E.move kv) ?_
  refine FL.v (E.len te30 rfl hln) ?_
  refine FL.v (E.lssT rfl rfl (lss_len hx)) ?_
  refine FL.nil ?_
  refine FW.condT rfl rfl ?_
  refine FW.skip (FW.seq (FW.block (FW.seq (FW.region ?_))))
  refine FL.v (E.move kv) ?_
  refine FL.v (E.move kc) ?_
  refine FL.v (E.move kk) ?_
  refine FL.call rfl rfl rfl (E.call Tryz.call35 (A1 rfl)) (w_laws_markText S1.sl m) ?_
  rintro e w21 ⟨rfl, r22⟩
  refine ⟨_, rfl, ?_⟩
  have S23 := S1.call r22
  refine FL.v (E.indexAddr te30 rfl rfl hpt) ?_
  refine FL.v (E.fieldAddr tf57_0 rfl) ?_
  obtain ⟨w24, H25, run27, S26, wr28, o29⟩ := rd.poke (P := Tryz.prog) (t := 9) (u := Value.string (PF.laws_markText m)) S23 hs0 hB (j := 0) rfl rfl rfl Tryz.sizeOf9 rfl rfl (c2 := [Value.string (PF.laws_markText m), Value.int .i64 y.system, Value.int .i64 y.size, Value.int .i64 y.extra]) rfl
  refine FL.act rfl rfl (E.store rfl rfl run27) ?_
  refine FL.nil (FW.seq (FW.region ?_))
  refine FL.v (E.move kk) ?_
  refine FL.v (E.add rfl rfl) ?_
  refine FL.v (E.assign (v := Value.int .i64 (wr (m + 1))) rfl) ?_
  refine FL.nil (FW.seq (FW.region ?_))
  refine FL.v (E.move kv) ?_
  refine FL.v (E.move kc) ?_
  refine FL.v (E.move (v := Value.int .i64 (wr (m + 1))) rfl) ?_
  refine FL.v (E.indexAddr te30 rfl rfl hpt) ?_
  refine FL.v (E.fieldAddr tf57_1 rfl) ?_
  obtain ⟨w30, H31, run33, S32, wr34, o35⟩ := wr28.poke (P := Tryz.prog) (t := 3) (u := Value.int .i64 (wr (m + 1))) S26 hs0 hB (j := 1) rfl rfl rfl Tryz.sizeOf3 rfl rfl (c2 := [Value.string (PF.laws_markText m), Value.int .i64 (wr (m + 1)), Value.int .i64 y.size, Value.int .i64 y.extra]) rfl
  refine FL.act rfl rfl (E.store rfl rfl run33) ?_
  refine FL.nil (FW.seq (FW.region ?_))
  refine FL.v (E.move (v := Value.int .i64 (wr (m + 1))) rfl) ?_
  refine FL.v (E.add rfl rfl) ?_
  refine FL.v (E.assign (v := Value.int .i64 (wr ((wr (m + 1)) + 1))) rfl) ?_
  refine FL.nil (FW.seq (FW.region ?_))
  refine FL.v (E.move kv) ?_
  refine FL.v (E.move kc) ?_
  refine FL.v (E.move (v := Value.int .i64 (wr ((wr (m + 1)) + 1))) rfl) ?_
  refine FL.v (E.indexAddr te30 rfl rfl hpt) ?_
  refine FL.v (E.fieldAddr tf57_2 rfl) ?_
  obtain ⟨w36, H37, run39, S38, wr40, o41⟩ := wr34.poke (P := Tryz.prog) (t := 3) (u := Value.int .i64 (wr ((wr (m + 1)) + 1))) S32 hs0 hB (j := 2) rfl rfl rfl Tryz.sizeOf3 rfl rfl (c2 := [Value.string (PF.laws_markText m), Value.int .i64 (wr (m + 1)), Value.int .i64 (wr ((wr (m + 1)) + 1)), Value.int .i64 y.extra]) rfl
  refine FL.act rfl rfl (E.store rfl rfl run39) ?_
  refine FL.nil (FW.seq (FW.region ?_))
  refine FL.v (E.move (v := Value.int .i64 (wr ((wr (m + 1)) + 1))) rfl) ?_
  refine FL.v (E.add rfl rfl) ?_
  refine FL.v (E.assign (v := Value.int .i64 (wr ((wr ((wr (m + 1)) + 1)) + 1))) rfl) ?_
  refine FL.nil (FW.seq (FW.region ?_))
  refine FL.v (E.move kv) ?_
  refine FL.v (E.move kc) ?_
  refine FL.v (E.move (v := Value.int .i64 (wr ((wr ((wr (m + 1)) + 1)) + 1))) rfl) ?_
  refine FL.v (E.indexAddr te30 rfl rfl hpt) ?_
  refine FL.v (E.fieldAddr tf57_3 rfl) ?_
  obtain ⟨w42, H43, run45, S44, wr46, o47⟩ := wr40.poke (P := Tryz.prog) (t := 3) (u := Value.int .i64 (wr ((wr ((wr (m + 1)) + 1)) + 1))) S38 hs0 hB (j := 3) rfl rfl rfl Tryz.sizeOf3 rfl rfl (c2 := [Value.string (PF.laws_markText m), Value.int .i64 (wr (m + 1)), Value.int .i64 (wr ((wr (m + 1)) + 1)), Value.int .i64 (wr ((wr ((wr (m + 1)) + 1)) + 1))]) rfl
  refine FL.act rfl rfl (E.store rfl rfl run45) ?_
  refine FL.nil (FW.region ?_)
  refine FL.v (E.move (v := Value.int .i64 (wr ((wr ((wr (m + 1)) + 1)) + 1))) rfl) ?_
  refine FL.v (E.add rfl rfl) ?_
  refine FL.v (E.assign (v := Value.int .i64 (wr ((wr ((wr ((wr (m + 1)) + 1)) + 1)) + 1))) rfl) ?_
  refine FL.nil (FW.region ?_)
  refine FL.v (E.move kc) ?_
  refine FL.v (E.add rfl rfl) ?_
  refine FL.v (E.assign (v := Value.int .i64 (wr (((i : Nat) : Int) + 1))) rfl) ?_
  refine FL.nil ?_
  obtain ⟨c2, n2, hb2, ho2⟩ := n1.round eRecord_flat.loc hy (by decide) hpt wr46 (y' := (Record.mk (PF.laws_markText m) (wr (m + 1)) (wr ((wr (m + 1)) + 1)) (wr ((wr ((wr (m + 1)) + 1)) + 1)))) rfl
  exact ⟨rfl, _, _, S44, n2, hb2.trans hb, fun b q1 q2 => (ho2 b q1 (by rw [hb]; exact q2)).trans (ho b q1 q2), kv, rfl, nat_succ rfl (lt_of_get hx) hle⟩
 ·
  rintro f1 w1 ⟨H1, c1, S1, n1, hb, ho, kv, kk, kc⟩
  refine FW.seq (FW.seq (FW.region ?_))
  refine FL.v (E.move kc) ?_
  refine FL.v (E.move kv) ?_
  refine FL.v (E.len te30 rfl hln) ?_
  refine FL.v (E.lss rfl rfl) ?_
  refine FL.nil ?_
  refine FW.condF rfl dlt_len ?_
  refine FW.exit ?_
  exact ⟨nofun, rfl, _, _, S1, n1, hb, ho, kv, kk⟩
 ·
  rintro e f2 w2 ⟨rfl, H2, c2, S2, n2, hb, ho, kv, kk⟩
  refine FW.seq (FW.region ?_)
  refine FL.v (E.move kk) ?_
  refine FL.v (E.assign (v := Value.int .i64 ((markFrom (fun y m => ((Record.mk (PF.laws_markText m) (wr (m + 1)) (wr ((wr (m + 1)) + 1)) (wr ((wr ((wr (m + 1)) + 1)) + 1))), (wr ((wr ((wr ((wr (m + 1)) + 1)) + 1)) + 1)))) a0 a1).2)) rfl) ?_
  refine FL.nil ?_
  refine FW.ret ?_
  exact ⟨.inr rfl, res1 rfl rfl ⟨_, rfl, S2, n2.rsl, fun b q => ho b q (by rw [hc0]; simp)⟩⟩

theorem w_laws_markIntS {H0 Ha : GH} {w0 wa : World} {l : List MO} (S0 : St H0 w0 Ha wa l) (hs0 : Sl H0 w0) (v0 : Value) (a0 : List Int) (p0 : RSl (up w0.heap.size Ha) eI 1 v0 a0) (a1 : Int) :
  Calls Tryz.prog 37 #[v0, Value.int .i64 a1] wa (M1 H0 w0 Ha l eI 1 v0 (PF.laws_markIntS a0 a1)) := by
 obtain ⟨c0, n0, hc0⟩ := p0.nest eI_flat (by decide)
 have hln := p0.ln
 have hle := p0.le
 refine calls_go (N := 19) (args := [v0, Value.int .i64 a1]) Tryz.func37 rfl rfl rfl ?_
 refine FW.seq (FW.region ?_)
 refine FL.v (E.assign (v := Value.int .i64 0) rfl) ?_
 refine FL.nil (FW.seq (FW.seq (FW.region ?_)))
 refine FL.v (E.assign (v := Value.int .i64 0) rfl) ?_
 refine FL.nil (FW.block ?_)
 refine FW.mono (FW.mark (F := fun y m => (m, (wr (m + 1)))) (a0 := a0) (k0 := a1) (fun (i : Nat) (xs : List Int) (k : Int) f w => ∃ (H : GH) (c : List Value), St H0 w0 H w l ∧ Nest (up w0.heap.size H) eI 1 v0 xs c ∧ bl c = bl c0 ∧ (∀ b, b ∉ bl [v0] → b ∉ bl c0 → H b = Ha b) ∧ f 0 = v0 ∧ f 1 = Value.int .i64 k ∧ f 5 = Value.int .i64 ((i : Nat) : Int)) (fun e f w => e = Exit.exit 0 ∧ ∃ (H : GH) (c : List Value), St H0 w0 H w l ∧ Nest (up w0.heap.size H) eI 1 v0 (markFrom (fun y m => (m, (wr (m + 1)))) a0 a1).1 c ∧ bl c = bl c0 ∧ (∀ b, b ∉ bl [v0] → b ∉ bl c0 → H b = Ha b) ∧ f 0 = v0 ∧ f 1 = Value.int .i64 (markFrom (fun y m => (m, (wr (m + 1)))) a0 a1).2) ⟨_, _, S0, n0, rfl, fun _ _ _ => rfl, rfl, rfl, rfl⟩ ?_ ?_) ?_
 ·
  rintro i y xs m f1 w1 ⟨H1, c1, S1, n1, hb, ho, kv, kk, kc⟩ hx hy
  obtain ⟨p, hpt, wr0, hB, hr, nd⟩ := n1.begin hy (by decide)
  have hci := eI_open hr
  have rd := wr0.opens hci
  refine FW.seq (FW.seq (FW.region ?_))
  refine FL.v (E.move kc) ?_
  refine FL.v (E.move kv) ?_
  refine FL.v (E.len te50 rfl hln) ?_
  refine FL.v (E.lssT rfl rfl (lss_len hx)) ?_
  refine FL.nil ?_
  refine FW.condT rfl rfl ?_
  refine FW.skip (FW.seq (FW.block (FW.seq (FW.region ?_))))
  refine FL.v (E.move kv) ?_
  refine FL.v (E.move kc) ?_
  refine FL.v (E.move kk) ?_
  refine FL.v (E.indexAddr te50 rfl rfl hpt) ?_
  obtain ⟨w21, H22, run24, S23, wr25, o26⟩ := rd.poke0 (P := Tryz.prog) (t := 3) (u := Value.int .i64 m) S1 hs0 hB rfl rfl rfl Tryz.sizeOf3 rfl rfl (c2 := [Value.int .i64 m]) rfl
  refine FL.act rfl rfl (E.store rfl rfl run24) ?_
  refine FL.nil (FW.region ?_)
  refine FL.v (E.move kk) ?_
  refine FL.v (E.add rfl rfl) ?_
  refine FL.v (E.assign (v := Value.int .i64 (wr (m + 1))) rfl) ?_
  refine FL.nil (FW.region ?_)
  refine FL.v (E.move kc) ?_
  refine FL.v (E.add rfl rfl) ?_
  refine FL.v (E.assign (v := Value.int .i64 (wr (((i : Nat) : Int) + 1))) rfl) ?_
  refine FL.nil ?_
  obtain ⟨c2, n2, hb2, ho2⟩ := n1.round eI_flat.loc hy (by decide) hpt wr25 (y' := m) rfl
  exact ⟨rfl, _, _, S23, n2, hb2.trans hb, fun b q1 q2 => (ho2 b q1 (by rw [hb]; exact q2)).trans (ho b q1 q2), kv, rfl, nat_succ rfl (lt_of_get hx) hle⟩
 ·
  rintro f1 w1 ⟨H1, c1, S1, n1, hb, ho, kv, kk, kc⟩
  refine FW.seq (FW.seq (FW.region ?_))
  refine FL.v (E.move kc) ?_
  refine FL.v (E.move kv) ?_
  refine FL.v (E.len te50 rfl hln) ?_
  refine FL.v (E.lss rfl rfl) ?_
  refine FL.nil ?_
  refine FW.condF rfl dlt_len ?_
  refine FW.exit ?_
  exact ⟨nofun, rfl, _, _, S1, n1, hb, ho, kv, kk⟩
 ·
  rintro e f2 w2 ⟨rfl, H2, c2, S2, n2, hb, ho, kv, kk⟩
  refine FW.seq (FW.region ?_)
  refine FL.v (E.move kk) ?_
  refine FL.v (E.assign (v := Value.int .i64 ((markFrom (fun y m => (m, (wr (m + 1)))) a0 a1).2)) rfl) ?_
  refine FL.nil ?_
  refine FW.ret ?_
  exact ⟨.inr rfl, res1 rfl rfl ⟨_, rfl, S2, n2.rsl, fun b q => ho b q (by rw [hc0]; simp)⟩⟩

theorem w_laws_markIntSS {H0 Ha : GH} {w0 wa : World} {l : List MO} (S0 : St H0 w0 Ha wa l) (hs0 : Sl H0 w0) (v0 : Value) (a0 : List (List Int)) (c0 : List Value) (n0 : Nest (up w0.heap.size Ha) (eL eI 1) 1 v0 a0 c0) (a1 : Int) :
  Calls Tryz.prog 36 #[v0, Value.int .i64 a1] wa (M2 H0 w0 Ha l (eL eI 1) 1 v0 c0 (PF.laws_markIntSS a0 a1)) := by
 have hln := n0.rsl.ln
 have hle := n0.rsl.le
 refine calls_go (N := 19) (args := [v0, Value.int .i64 a1]) Tryz.func36 rfl rfl rfl ?_
 refine FW.seq (FW.region ?_)
 refine FL.v (E.assign (v := Value.int .i64 0) rfl) ?_
 refine FL.nil (FW.seq (FW.seq (FW.region ?_)))
 refine FL.v (E.assign (v := Value.int .i64 0) rfl) ?_
 refine FL.nil (FW.block ?_)
 refine FW.mono (FW.mark (F := fun y m => ((PF.laws_markIntS y m).1, (PF.laws_markIntS y m).2)) (a0 := a0) (k0 := a1) (fun (i : Nat) (xs : List (List Int)) (k : Int) f w => ∃ (H : GH) (c : List Value), St H0 w0 H w l ∧ Nest (up w0.heap.size H) (eL eI 1) 1 v0 xs c ∧ bl c = bl c0 ∧ (∀ b, b ∉ bl [v0] → b ∉ bl c0 → H b = Ha b) ∧ f 0 = v0 ∧ f 1 = Value.int .i64 k ∧ f 5 = Value.int .i64 ((i : Nat) : Int)) (fun e f w => e = Exit.exit 0 ∧ ∃ (H : GH) (c : List Value), St H0 w0 H w l ∧ Nest (up w0.heap.size H) (eL eI 1) 1 v0 (markFrom (fun y m => ((PF.laws_markIntS y m).1, (PF.laws_markIntS y m).2)) a0 a1).1 c ∧ bl c = bl c0 ∧ (∀ b, b ∉ bl [v0] → b ∉ bl c0 → H b = Ha b) ∧ f 0 = v0 ∧ f 1 = Value.int .i64 (markFrom (fun y m => ((PF.laws_markIntS y m).1, (PF.laws_markIntS y m).2)) a0 a1).2) ⟨_, _, S0, n0, rfl, fun _ _ _ => rfl, rfl, rfl, rfl⟩ ?_ ?_) ?_
 ·
  rintro i y xs m f1 w1 ⟨H1, c1, S1, n1, hb, ho, kv, kk, kc⟩ hx hy
  obtain ⟨p, hpt, wr0, hB, hr, nd⟩ := n1.begin hy (by decide)
  obtain ⟨u0, hci, hu0⟩ := eL_open hr
  have rd := wr0.opens hci
  refine FW.seq (FW.seq (FW.region ?_))
  refine FL.v (E.move kc) ?_
  refine FL.v (E.move kv) ?_
  refine FL.v (E.len te23 rfl hln) ?_
  refine FL.v (E.lssT rfl rfl (lss_len hx)) ?_
  refine FL.nil ?_
  refine FW.condT rfl rfl ?_
  refine FW.skip (FW.seq (FW.block (FW.region ?_)))
  refine FL.v (E.move kv) ?_
  refine FL.v (E.move kc) ?_
  refine FL.v (E.indexAddr te23 rfl rfl hpt) ?_
  refine FL.v (E.load rfl (run_load0 Tryz.isAgg50 (rd.now S1.sl) rfl)) ?_
  refine FL.v (E.move kk) ?_
  refine FL.call rfl rfl rfl (E.call Tryz.call37 (A2 rfl rfl)) (w_laws_markIntS S1 hs0 u0 y hu0 m) ?_
  rintro e w22 ⟨H21, rfl, S23, h24, o25⟩
  refine ⟨_, rfl, ?_⟩
  have wr26 := rd.inner (j := 0) rfl o25
  refine FL.v (E.assign (v := Value.int .i64 ((PF.laws_markIntS y m).2)) rfl) ?_
  refine FL.nil (FW.region ?_)
  refine FL.v (E.move kc) ?_
  refine FL.v (E.add rfl rfl) ?_
  refine FL.v (E.assign (v := Value.int .i64 (wr (((i : Nat) : Int) + 1))) rfl) ?_
  refine FL.nil ?_
  obtain ⟨c2, n2, hb2, ho2⟩ := n1.round (eL_loc eI_flat) hy (by decide) hpt wr26 (y' := (PF.laws_markIntS y m).1) ⟨_, rfl, h24⟩
  exact ⟨rfl, _, _, S23, n2, hb2.trans hb, fun b q1 q2 => (ho2 b q1 (by rw [hb]; exact q2)).trans (ho b q1 q2), kv, rfl, nat_succ rfl (lt_of_get hx) hle⟩
 ·
  rintro f1 w1 ⟨H1, c1, S1, n1, hb, ho, kv, kk, kc⟩
  refine FW.seq (FW.seq (FW.region ?_))
  refine FL.v (E.move kc) ?_
  refine FL.v (E.move kv) ?_
  refine FL.v (E.len te23 rfl hln) ?_
  refine FL.v (E.lss rfl rfl) ?_
  refine FL.nil ?_
  refine FW.condF rfl dlt_len ?_
  refine FW.exit ?_
  exact ⟨nofun, rfl, _, _, S1, n1, hb, ho, kv, kk⟩
 ·
  rintro e f2 w2 ⟨rfl, H2, c2, S2, n2, hb, ho, kv, kk⟩
  refine FW.seq (FW.region ?_)
  refine FL.v (E.move kk) ?_
  refine FL.v (E.assign (v := Value.int .i64 ((markFrom (fun y m => ((PF.laws_markIntS y m).1, (PF.laws_markIntS y m).2)) a0 a1).2)) rfl) ?_
  refine FL.nil ?_
  refine FW.ret ?_
  exact ⟨.inr rfl, res1 rfl rfl ⟨_, _, rfl, S2, n2, hb, fun b q1 q2 => weak (F := fun b => b ∉ bl [v0] ∧ b ∉ bl c0) (fun b q => ho b q.1 q.2) b ⟨q1, q2⟩⟩⟩

@[reducible] def p_laws_markCnf (H0 : GH) (w0 : World) (Ha : GH) (l : List MO) (v0 : Value) (c0 : List Value) (r : Cnf × Int) : Ending → World → Prop := fun e w' =>
 ∃ (H' : GH) (c' : List Value), e = .returned (.int .i64 r.2) ∧ St H0 w0 H' w' l ∧ Nest (up w0.heap.size H') (eL eI 1) 1 v0 r.1.clauses c' ∧ bl c' = bl c0 ∧ ∀ b, b ∉ bl [v0] → b ∉ bl c0 → ∀ o, Ha b = some o → H' b = some o
theorem w_laws_markCnf {H0 Ha : GH} {w0 wa : World} {l : List MO} (S0 : St H0 w0 Ha wa l) (hs0 : Sl H0 w0) (a0 : Cnf) (v0 : Value) (c0 : List Value) (n0 : Nest (up w0.heap.size Ha) (eL eI 1) 1 v0 a0.clauses c0) (a1 : Int) :
  Calls Tryz.prog 16 #[.agg #[Value.int .i64 a0.vars, v0], Value.int .i64 a1] wa (p_laws_markCnf H0 w0 Ha l v0 c0 (PF.laws_markCnf a0 a1)) := by
 refine calls_go (N := 10) (args := [.agg #[Value.int .i64 a0.vars, v0], Value.int .i64 a1]) Tryz.func16 rfl rfl rfl ?_
 refine FW.seq (FW.region ?_)
 obtain ⟨b21, w22, run23, S24⟩ := S0.box (P := Tryz.prog) 34 [Value.int .i64 a0.vars, v0] (v := Value.agg #[Value.int .i64 a0.vars, v0]) rfl (ones_cons rfl (ones_cons n0.rsl.one ones_nil))
 refine FL.v (E.box rfl run23) ?_
 obtain ⟨H25, S26, i27, at28⟩ := S24.sealBox (i := 0) (l' := l) rfl rfl
 refine FL.v (E.assign (v := Value.int .i64 0) rfl) ?_
 refine FL.nil (FW.seq (FW.region ?_))
 refine FL.v (E.fieldAddr tf34_1 rfl) ?_
 refine FL.v (E.load rfl (run_load1 Tryz.isAgg23 (at28.now S26.sl) rfl)) ?_
 refine FL.v (E.move (v := Value.int .i64 a1) rfl) ?_
 refine FL.call rfl rfl rfl (E.call Tryz.call36 (A2 rfl rfl)) (w_laws_markIntSS S26 hs0 v0 a0.clauses c0 (n0.mono (up_mono i27)) a1) ?_
 rintro e w30 ⟨H29, c34, rfl, S31, h32, hb35, o33⟩
 refine ⟨_, rfl, ?_⟩
 refine FL.v (E.assign (v := Value.int .i64 ((PF.laws_markIntSS a0.clauses a1).2)) rfl) ?_
 refine FL.nil (FW.seq (FW.region ?_))
 refine FL.v (E.move (v := Value.int .i64 ((PF.laws_markIntSS a0.clauses a1).2)) rfl) ?_
 refine FL.v (E.assign (v := Value.int .i64 ((PF.laws_markIntSS a0.clauses a1).2)) rfl) ?_
 refine FL.nil ?_
 refine FW.ret ?_
 exact ⟨.inr rfl, res1 rfl rfl ⟨_, _, rfl, S31, h32, hb35, fun b q1 q2 o ho => o33 b q1 q2 o (i27 b o ho)⟩⟩

end Go.Proofs
