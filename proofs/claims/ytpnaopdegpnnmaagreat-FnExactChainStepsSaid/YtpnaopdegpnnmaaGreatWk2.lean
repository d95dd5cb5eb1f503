/- Part of the walks and plain laws behind the claim: it proves helpers, under no condition beyond their own. -/
import Derived.Test.YtpnaopdegpnnmaaGreatWk1
set_option linter.unusedVariables false
set_option maxRecDepth 100000
namespace Go.Proofs
open Go.Mr Go.Pu Go.PF Go.RowKit

@[reducible] def p_impl_earlier (Ha : GH) (wa : World) (r : ((List Int) × Bool)) : Ending → World → Prop :=
  fun e w' => ∃ H' : GH, ∃ v0 : Value, e = .returned (Value.tuple #[v0, Value.bool r.2]) ∧ Run wa.heap.size Ha wa H' w' ∧ RSl H' eI 1 v0 r.1
theorem w_impl_earlier {Ha : GH} {wa : World} (hs : Sl Ha wa) (a0 : Cnf) (v0_1 : Value) (p0_1 : RSl Ha (eL eI 1) 1 v0_1 a0.clauses) (v1 : Value) (a1 : List ResStep) (p1 : RSl Ha eResStep 4 v1 a1) (a2 : Int) (a3 : Int) {r : ((List Int) × Bool)} (hp : (PF.impl_earlier a0 a1 a2 a3) = some r) :
    Calls Tryz.prog 79 #[Value.agg #[Value.int .i64 a0.vars, v0_1], v1, Value.int .i64 a2, Value.int .i64 a3] wa (p_impl_earlier Ha wa r) := by
  unfold PF.impl_earlier at hp
  have S0 := St.init hs
  refine calls_go (N := 31) (args := [Value.agg #[Value.int .i64 a0.vars, v0_1], v1, Value.int .i64 a2, Value.int .i64 a3]) Tryz.func79 rfl rfl rfl ?_
  refine FW.seq ?_
  refine FW.region ?_
  obtain ⟨b21, w22, run23, S24⟩ := S0.box (P := Tryz.prog) 31 [Value.int .i64 a0.vars, v0_1] (v := Value.agg #[Value.int .i64 a0.vars, v0_1]) rfl (ones_cons rfl (ones_cons p0_1.one ones_nil))
  refine FL.val rfl rfl rfl (E.box rfl run23) ?_
  obtain ⟨H25, S26, i27, at28⟩ := S24.sealBox (i := 0) (l' := []) rfl rfl
  refine FL.val rfl rfl rfl (E.assign (v := Value.slice none 0 0) rfl) ?_
  refine FL.val rfl rfl rfl (E.assign (v := Value.bool false) rfl) ?_
  refine FL.nil ?_
  refine FW.seq ?_
  refine FW.seq ?_
  refine FW.draw (fun w' => Run w22.heap.size H25 w22 H25 w') (by kernel_rfl) (by kernel_rfl) (run_drew S26.sl) ?_
  refine FD.val rfl rfl rfl (fun w' hw' => (E.move (v := Value.int .i64 a3) rfl)) ?_
  refine FD.val rfl rfl rfl (fun w' hw' => (E.move (v := Value.int .i64 a2) rfl)) ?_
  refine FD.val rfl rfl rfl (fun w' hw' => (E.sub rfl rfl)) ?_
  refine FD.call rfl rfl rfl (fun w' hw' => (E.call Tryz.call46 (A3 rfl rfl rfl))) (fun w' hw' => Calls.cls hw' (w_impl_within (S26.call hw').sl a3 0 (wr (a2 - 1)))) ?_
  refine FD.val rfl rfl rfl (fun w' hw' => (E.not rfl)) ?_
  refine FD.val rfl rfl rfl (fun w' hw' => (E.move (v := Value.bool (!(PF.impl_within a3 0 (wr (a2 - 1))))) rfl)) ?_
  obtain ⟨t42, hqt42, hp⟩ := bnd hp
  refine FD.cut 10 (fun f => f 1 = v1 ∧ f 3 = Value.int .i64 a3 ∧ f 25 = Value.bool t42) ?_ ?_
  ·
    clear hp; have hp := hqt42; clear hqt42
    rcases ifB hp with ⟨c48, hp⟩ | ⟨c48, hp⟩
    ·
      refine FD.skip (wF_no rfl rfl rfl c48) rfl ?_
      refine FD.skip (wF_no rfl rfl rfl c48) rfl ?_
      refine FD.skip (wF_no rfl rfl rfl c48) rfl ?_
      refine FD.skip (wF_no rfl rfl rfl c48) rfl ?_
      refine FD.skip (wF_no rfl rfl rfl c48) rfl ?_
      refine FD.skip (wF_no rfl rfl rfl c48) rfl ?_
      refine FD.skip (wF_no rfl rfl rfl c48) rfl ?_
      refine FD.skip (wF_no rfl rfl rfl c48) rfl ?_
      refine FD.skip (wF_no rfl rfl rfl c48) rfl ?_
      obtain rfl := Option.some.inj hp
      refine FD.val rfl rfl rfl (fun w' hw' => (E.pickT rfl c48 rfl)) ?_
      exact FD.nil ⟨rfl, rfl, rfl⟩
    ·
      refine FD.val (wF_yes rfl rfl rfl c48) rfl rfl (fun w' hw' => (E.fieldAddr tf31_0 rfl)) ?_
      refine FD.val (wF_yes rfl rfl rfl c48) rfl rfl (fun w' hw' => (E.load rfl (run_load1 Tryz.isAgg3 (at28.now (S26.call hw').sl) rfl))) ?_
      refine FD.val (wF_yes rfl rfl rfl c48) rfl rfl (fun w' hw' => (E.move (v := v1) rfl)) ?_
      refine FD.val (wF_yes rfl rfl rfl c48) rfl rfl (fun w' hw' => (E.move (v := Value.int .i64 a3) rfl)) ?_
      obtain ⟨x55, hx56, hp⟩ := bnd hp
      obtain ⟨p49, cs50, pt51, l52, at53, rel54⟩ := p1.at hx56
      obtain ⟨v57, rfl, h58⟩ := eResStep_open rel54
      refine FD.val (wF_yes rfl rfl rfl c48) rfl rfl (fun w' hw' => (E.indexAddr te28 rfl rfl pt51)) ?_
      refine FD.val (wF_yes rfl rfl rfl c48) rfl rfl (fun w' hw' => (E.fieldAddr tf50_0 rfl)) ?_
      refine FD.val (wF_yes rfl rfl rfl c48) rfl rfl (fun w' hw' => (E.load rfl (run_load1 Tryz.isAgg41 ((at53.mono i27).now (S26.call hw').sl) rfl))) ?_
      obtain ⟨r59, hr60, hp⟩ := bnd hp
      refine FD.call (wF_yes rfl rfl rfl c48) rfl rfl (fun w' hw' => (E.call Tryz.call61 (A2 rfl rfl))) (fun w' hw' => Calls.cls hw' (w_impl_IsClause (S26.call hw').sl a0.vars v57 x55.clause (h58.mono i27) hr60)) ?_
      refine FD.val (wF_yes rfl rfl rfl c48) rfl rfl (fun w' hw' => (E.not rfl)) ?_
      obtain rfl := Option.some.inj hp
      refine FD.val rfl rfl rfl (fun w' hw' => (E.pickF rfl c48 rfl)) ?_
      exact FD.nil ⟨rfl, rfl, rfl⟩
  rintro f47 ⟨k61, k62, k63⟩
  refine FD.nil ?_
  intro w64 r66
  have S65 := S26.call r66
  rcases ifB hp with ⟨c67, hp⟩ | ⟨c67, hp⟩
  ·
    refine FW.condT k63 c67 ?_
    refine FW.seq ?_
    refine FW.region ?_
    refine FL.val rfl rfl rfl (E.assign (v := Value.slice none 0 0) rfl) ?_
    refine FL.val rfl rfl rfl (E.assign (v := Value.bool false) rfl) ?_
    refine FL.nil ?_
    refine FW.ret ?_
    obtain rfl := Option.some.inj hp
    exact ⟨.inr rfl, res2 rfl rfl rfl ⟨_, _, rfl, S65.run, (RSl.nil _ _ _)⟩⟩
  ·
    refine FW.condF k63 c67 ?_
    refine FW.skip ?_
    refine FW.seq ?_
    refine FW.region ?_
    refine FL.val rfl rfl rfl (E.move k61) ?_
    refine FL.val rfl rfl rfl (E.move k62) ?_
    obtain ⟨x74, hx75, hp⟩ := bnd hp
    obtain ⟨p68, cs69, pt70, l71, at72, rel73⟩ := p1.at hx75
    obtain ⟨v76, rfl, h77⟩ := eResStep_open rel73
    refine FL.val rfl rfl rfl (E.indexAddr te28 rfl rfl pt70) ?_
    refine FL.val rfl rfl rfl (E.fieldAddr tf50_0 rfl) ?_
    refine FL.val rfl rfl rfl (E.load rfl (run_load1 Tryz.isAgg41 ((at72.mono i27).now S65.sl) rfl)) ?_
    refine FL.val rfl rfl rfl (E.assign (v := v76) rfl) ?_
    refine FL.val rfl rfl rfl (E.assign (v := Value.bool true) rfl) ?_
    refine FL.nil ?_
    refine FW.ret ?_
    obtain rfl := Option.some.inj hp
    exact ⟨.inr rfl, res2 rfl rfl rfl ⟨_, _, rfl, S65.run, (h77.mono i27)⟩⟩

theorem w_slices_IndexFunc_int_int {Ha : GH} {wa : World} (hs : Sl Ha wa) (v0 : Value) (a0 : List Int) (p0 : RSl Ha eI 1 v0 a0) (v1 : Value) (a1 : Int → Option Bool) (p1 : Fn_I_to_B Tryz.prog Ha v1 a1) {r : Int} (hp : (PF.slices_IndexFunc_int_int a0 a1) = some r) :
    Calls Tryz.prog 85 #[v0, v1] wa (Sc Ha wa (Value.int .i64 r)) := by
  unfold PF.slices_IndexFunc_int_int at hp
  have S0 := St.init hs
  refine calls_go (N := 19) (args := [v0, v1]) Tryz.func85 rfl rfl rfl ?_
  refine FW.seq ?_
  refine FW.region ?_
  refine FL.val rfl rfl rfl (E.assign (v := Value.int .i64 0) rfl) ?_
  refine FL.nil ?_
  refine FW.seq ?_
  refine FW.seq ?_
  refine FW.region ?_
  refine FL.val rfl rfl rfl (E.move (v := v0) rfl) ?_
  refine FL.val rfl rfl rfl (E.lenP te41 rfl p0) ?_
  refine FL.val rfl rfl rfl (E.move (v := Value.int .i64 0) rfl) ?_
  refine FL.nil ?_
  obtain ⟨q22, hq, hp⟩ := bndR hp
  refine FW.block ?_
  refine FW.mono (FW.forL (S := Unit) (X := Int) (fun (i22 : Nat) (s22 : Unit) f w => ∃ H : GH, St Ha wa H w [] ∧ Inc Ha H ∧ f 8 = Value.int .i64 ((i22 : Nat) : Int) ∧ f 0 = v0 ∧ f 1 = v1 ∧ f 7 = Value.int .i64 (len a0)) (fun q e f w => match q with | .go s22 => e = Exit.exit 0 ∧ (∃ H : GH, St Ha wa H w [] ∧ Inc Ha H) | .rt x => ((e = Exit.ret) ∧ (fun e f w => (e = Exit.normal ∨ e = Exit.ret) ∧ ∀ a, Fr 19 a f → ∃ v, (results Tryz.f85 a.tmps).run Tryz.prog w = .ok v w ∧ (Sc Ha wa (Value.int .i64 x)) (.returned v) w) e f w)) hq ⟨_, S0, (Inc.rfl _), rfl, rfl, rfl, rfl⟩ ?_ ?_) ?_
  ·
    clear hp hq
    rintro i22 y21 s22 f53 w52 ⟨H49, S50, i51, k54, k55, k56, k57⟩ hx22 o75 hp
    refine FW.seq ?_
    refine FW.region ?_
    refine FL.val rfl rfl rfl (E.lssT k54 k57 (lss_len hx22)) ?_
    refine FL.nil ?_
    refine FW.seq ?_
    refine FW.condT rfl rfl ?_
    refine FW.skip ?_
    refine FW.seq ?_
    refine FW.block ?_
    refine FW.seq ?_
    refine FW.region ?_
    refine FL.val rfl rfl rfl (E.move k54) ?_
    refine FL.val rfl rfl rfl (E.assign (v := Value.int .i64 ((i22 : Nat) : Int)) rfl) ?_
    refine FL.nil ?_
    refine FW.seq ?_
    refine FW.region ?_
    refine FL.val rfl rfl rfl (E.move k56) ?_
    refine FL.val rfl rfl rfl (E.move k55) ?_
    refine FL.val rfl rfl rfl (E.move (v := Value.int .i64 ((i22 : Nat) : Int)) rfl) ?_
    obtain ⟨p58, cs59, pt60, l61, at62, rel63⟩ := p0.at (ix_nat hx22)
    obtain rfl := eI_open rel63
    refine FL.val rfl rfl rfl (E.indexAddr te41 rfl rfl pt60) ?_
    refine FL.val rfl rfl rfl (E.load rfl (run_load0 Tryz.isAgg3 ((at62.mono i51).now S50.sl) rfl)) ?_
    obtain ⟨r64, hr65, hp⟩ := bnd hp
    obtain ⟨fi69, cs70, hv71, he72, hc73⟩ := (p1.mono i51) H49 w52 (Inc.rfl _) S50.sl y21 r64 hr65
    refine FL.call rfl rfl rfl (E.callV he72 (Eq.trans rfl hv71) (appA (A1 rfl) cs70)) hc73 ?_
    rintro e w66 ⟨rfl, r67⟩
    refine ⟨_, rfl, ?_⟩
    have S68 := S50.call r67
    refine FL.nil ?_
    rcases ifB hp with ⟨c74, hp⟩ | ⟨c74, hp⟩
    ·
      refine FW.condT rfl c74 ?_
      refine FW.seq ?_
      refine FW.region ?_
      refine FL.val rfl rfl rfl (E.move (v := Value.int .i64 ((i22 : Nat) : Int)) rfl) ?_
      refine FL.val rfl rfl rfl (E.assign (v := Value.int .i64 ((i22 : Nat) : Int)) rfl) ?_
      refine FL.nil ?_
      refine FW.ret ?_
      obtain rfl := Option.some.inj hp
      exact ⟨nofun, rfl, ⟨.inr rfl, res1 rfl rfl ⟨rfl, S68.back⟩⟩⟩
    ·
      refine FW.condF rfl c74 ?_
      refine FW.skip ?_
      refine FW.region ?_
      refine FL.val rfl rfl rfl (E.add k54 rfl) ?_
      refine FL.val rfl rfl rfl (E.move (v := Value.int .i64 (wr (((i22 : Nat) : Int) + 1))) rfl) ?_
      refine FL.nil ?_
      obtain rfl := Option.some.inj hp
      exact ⟨rfl, ⟨_, S68, i51, (nat_succ rfl (lt_of_get hx22) (p0.mono i51).le), k55, k56, k57⟩⟩
  ·
    clear hp hq
    rintro s22 f85 w84 ⟨H81, S82, i83, k86, k87, k88, k89⟩
    refine FW.seq ?_
    refine FW.region ?_
    refine FL.val rfl rfl rfl (E.lss k86 k89) ?_
    refine FL.nil ?_
    refine FW.seq ?_
    refine FW.condF rfl dlt_len ?_
    refine FW.exit ?_
    exact ⟨nofun, rfl, ⟨_, S82, i83⟩⟩
  ·
    clear hq
    intro e f80 w79 hD
    rcases q22 with s22 | x22
    ·
      obtain ⟨rfl, hD⟩ := hD
      obtain ⟨H76, S77, i78⟩ := hD
      replace hp := el_go hp
      refine FW.seq ?_
      refine FW.region ?_
      refine FL.val rfl rfl rfl (E.assign (v := Value.int .i64 (-1)) rfl) ?_
      refine FL.nil ?_
      refine FW.ret ?_
      obtain rfl := Option.some.inj hp
      exact ⟨.inr rfl, res1 rfl rfl ⟨rfl, S77.back⟩⟩
    ·
      obtain ⟨he, hL⟩ := hD
      replace hp := el_rt hp
      obtain rfl := Option.some.inj hp
      subst he
      exact hL

theorem w_slices_ContainsFunc_int_int {Ha : GH} {wa : World} (hs : Sl Ha wa) (v0 : Value) (a0 : List Int) (p0 : RSl Ha eI 1 v0 a0) (v1 : Value) (a1 : Int → Option Bool) (p1 : Fn_I_to_B Tryz.prog Ha v1 a1) {r : Bool} (hp : (PF.slices_ContainsFunc_int_int a0 a1) = some r) :
    Calls Tryz.prog 87 #[v0, v1] wa (Sc Ha wa (Value.bool r)) := by
  unfold PF.slices_ContainsFunc_int_int at hp
  have S0 := St.init hs
  refine calls_go (N := 9) (args := [v0, v1]) Tryz.func87 rfl rfl rfl ?_
  refine FW.seq ?_
  refine FW.region ?_
  refine FL.val rfl rfl rfl (E.assign (v := Value.bool false) rfl) ?_
  refine FL.nil ?_
  refine FW.seq ?_
  refine FW.region ?_
  refine FL.val rfl rfl rfl (E.move (v := v0) rfl) ?_
  refine FL.val rfl rfl rfl (E.move (v := v1) rfl) ?_
  obtain ⟨r21, hr22, hp⟩ := bnd hp
  refine FL.call rfl rfl rfl (E.call Tryz.call85 (A2 rfl rfl)) (w_slices_IndexFunc_int_int S0.sl v0 a0 p0 v1 a1 p1 hr22) ?_
  rintro e w23 ⟨rfl, r24⟩
  refine ⟨_, rfl, ?_⟩
  have S25 := S0.call r24
  refine FL.val rfl rfl rfl (E.geq rfl rfl) ?_
  refine FL.val rfl rfl rfl (E.assign (v := Value.bool (decide (0 ≤ r21))) rfl) ?_
  refine FL.nil ?_
  refine FW.ret ?_
  obtain rfl := Option.some.inj hp
  exact ⟨.inr rfl, res1 rfl rfl ⟨rfl, S25.back⟩⟩

theorem w_slices_Index_int_int {Ha : GH} {wa : World} (hs : Sl Ha wa) (v0 : Value) (a0 : List Int) (p0 : RSl Ha eI 1 v0 a0) (a1 : Int) {r : Int} (hp : (PF.slices_Index_int_int a0 a1) = some r) :
    Calls Tryz.prog 64 #[v0, Value.int .i64 a1] wa (Sc Ha wa (Value.int .i64 r)) := by
  unfold PF.slices_Index_int_int at hp
  have S0 := St.init hs
  refine calls_go (N := 19) (args := [v0, Value.int .i64 a1]) Tryz.func64 rfl rfl rfl ?_
  refine FW.seq ?_
  refine FW.region ?_
  refine FL.val rfl rfl rfl (E.assign (v := Value.int .i64 0) rfl) ?_
  refine FL.nil ?_
  refine FW.seq ?_
  refine FW.seq ?_
  refine FW.region ?_
  refine FL.val rfl rfl rfl (E.move (v := v0) rfl) ?_
  refine FL.val rfl rfl rfl (E.lenP te41 rfl p0) ?_
  refine FL.val rfl rfl rfl (E.move (v := Value.int .i64 0) rfl) ?_
  refine FL.nil ?_
  obtain ⟨q22, hq, hp⟩ := bndR hp
  refine FW.block ?_
  refine FW.mono (FW.forL (S := Unit) (X := Int) (fun (i22 : Nat) (s22 : Unit) f w => ∃ H : GH, St Ha wa H w [] ∧ Inc Ha H ∧ f 8 = Value.int .i64 ((i22 : Nat) : Int) ∧ f 0 = v0 ∧ f 1 = Value.int .i64 a1 ∧ f 7 = Value.int .i64 (len a0)) (fun q e f w => match q with | .go s22 => e = Exit.exit 0 ∧ (∃ H : GH, St Ha wa H w [] ∧ Inc Ha H) | .rt x => ((e = Exit.ret) ∧ (fun e f w => (e = Exit.normal ∨ e = Exit.ret) ∧ ∀ a, Fr 19 a f → ∃ v, (results Tryz.f64 a.tmps).run Tryz.prog w = .ok v w ∧ (Sc Ha wa (Value.int .i64 x)) (.returned v) w) e f w)) hq ⟨_, S0, (Inc.rfl _), rfl, rfl, rfl, rfl⟩ ?_ ?_) ?_
  ·
    clear hp hq
    rintro i22 y21 s22 f43 w42 ⟨H39, S40, i41, k44, k45, k46, k47⟩ hx22 o55 hp
    refine FW.seq ?_
    refine FW.region ?_
    refine FL.val rfl rfl rfl (E.lssT k44 k47 (lss_len hx22)) ?_
    refine FL.nil ?_
    refine FW.seq ?_
    refine FW.condT rfl rfl ?_
    refine FW.skip ?_
    refine FW.seq ?_
    refine FW.block ?_
    refine FW.seq ?_
    refine FW.region ?_
    refine FL.val rfl rfl rfl (E.move k44) ?_
    refine FL.val rfl rfl rfl (E.assign (v := Value.int .i64 ((i22 : Nat) : Int)) rfl) ?_
    refine FL.nil ?_
    refine FW.seq ?_
    refine FW.region ?_
    refine FL.val rfl rfl rfl (E.move k46) ?_
    refine FL.val rfl rfl rfl (E.move k45) ?_
    refine FL.val rfl rfl rfl (E.move (v := Value.int .i64 ((i22 : Nat) : Int)) rfl) ?_
    obtain ⟨p48, cs49, pt50, l51, at52, rel53⟩ := p0.at (ix_nat hx22)
    obtain rfl := eI_open rel53
    refine FL.val rfl rfl rfl (E.indexAddr te41 rfl rfl pt50) ?_
    refine FL.val rfl rfl rfl (E.load rfl (run_load0 Tryz.isAgg3 ((at52.mono i41).now S40.sl) rfl)) ?_
    refine FL.val rfl rfl rfl (E.eql rfl rfl) ?_
    refine FL.nil ?_
    rcases ifB hp with ⟨c54, hp⟩ | ⟨c54, hp⟩
    ·
      refine FW.condT rfl c54 ?_
      refine FW.seq ?_
      refine FW.region ?_
      refine FL.val rfl rfl rfl (E.move (v := Value.int .i64 ((i22 : Nat) : Int)) rfl) ?_
      refine FL.val rfl rfl rfl (E.assign (v := Value.int .i64 ((i22 : Nat) : Int)) rfl) ?_
      refine FL.nil ?_
      refine FW.ret ?_
      obtain rfl := Option.some.inj hp
      exact ⟨nofun, rfl, ⟨.inr rfl, res1 rfl rfl ⟨rfl, S40.back⟩⟩⟩
    ·
      refine FW.condF rfl c54 ?_
      refine FW.skip ?_
      refine FW.region ?_
      refine FL.val rfl rfl rfl (E.add k44 rfl) ?_
      refine FL.val rfl rfl rfl (E.move (v := Value.int .i64 (wr (((i22 : Nat) : Int) + 1))) rfl) ?_
      refine FL.nil ?_
      obtain rfl := Option.some.inj hp
      exact ⟨rfl, ⟨_, S40, i41, (nat_succ rfl (lt_of_get hx22) (p0.mono i41).le), k45, k46, k47⟩⟩
  ·
    clear hp hq
    rintro s22 f65 w64 ⟨H61, S62, i63, k66, k67, k68, k69⟩
    refine FW.seq ?_
    refine FW.region ?_
    refine FL.val rfl rfl rfl (E.lss k66 k69) ?_
    refine FL.nil ?_
    refine FW.seq ?_
    refine FW.condF rfl dlt_len ?_
    refine FW.exit ?_
    exact ⟨nofun, rfl, ⟨_, S62, i63⟩⟩
  ·
    clear hq
    intro e f60 w59 hD
    rcases q22 with s22 | x22
    ·
      obtain ⟨rfl, hD⟩ := hD
      obtain ⟨H56, S57, i58⟩ := hD
      replace hp := el_go hp
      refine FW.seq ?_
      refine FW.region ?_
      refine FL.val rfl rfl rfl (E.assign (v := Value.int .i64 (-1)) rfl) ?_
      refine FL.nil ?_
      refine FW.ret ?_
      obtain rfl := Option.some.inj hp
      exact ⟨.inr rfl, res1 rfl rfl ⟨rfl, S57.back⟩⟩
    ·
      obtain ⟨he, hL⟩ := hD
      replace hp := el_rt hp
      obtain rfl := Option.some.inj hp
      subst he
      exact hL

theorem w_slices_Contains_int_int {Ha : GH} {wa : World} (hs : Sl Ha wa) (v0 : Value) (a0 : List Int) (p0 : RSl Ha eI 1 v0 a0) (a1 : Int) {r : Bool} (hp : (PF.slices_Contains_int_int a0 a1) = some r) :
    Calls Tryz.prog 47 #[v0, Value.int .i64 a1] wa (Sc Ha wa (Value.bool r)) := by
  unfold PF.slices_Contains_int_int at hp
  have S0 := St.init hs
  refine calls_go (N := 9) (args := [v0, Value.int .i64 a1]) Tryz.func47 rfl rfl rfl ?_
  refine FW.seq ?_
  refine FW.region ?_
  refine FL.val rfl rfl rfl (E.assign (v := Value.bool false) rfl) ?_
  refine FL.nil ?_
  refine FW.seq ?_
  refine FW.region ?_
  refine FL.val rfl rfl rfl (E.move (v := v0) rfl) ?_
  refine FL.val rfl rfl rfl (E.move (v := Value.int .i64 a1) rfl) ?_
  obtain ⟨r21, hr22, hp⟩ := bnd hp
  refine FL.call rfl rfl rfl (E.call Tryz.call64 (A2 rfl rfl)) (w_slices_Index_int_int S0.sl v0 a0 p0 a1 hr22) ?_
  rintro e w23 ⟨rfl, r24⟩
  refine ⟨_, rfl, ?_⟩
  have S25 := S0.call r24
  refine FL.val rfl rfl rfl (E.geq rfl rfl) ?_
  refine FL.val rfl rfl rfl (E.assign (v := Value.bool (decide (0 ≤ r21))) rfl) ?_
  refine FL.nil ?_
  refine FW.ret ?_
  obtain rfl := Option.some.inj hp
  exact ⟨.inr rfl, res1 rfl rfl ⟨rfl, S25.back⟩⟩

theorem w_impl_part_1 {Ha : GH} {wa : World} (hs : Sl Ha wa) (a0 : Int) (q0 : Addr) (b0 : List Int) (u0_0 : Value) (g0_0 : RSl Ha eI 1 u0_0 b0) (c0 : CAt Ha q0 [u0_0]) {r : Bool} (hp : (PF.impl_part_1 a0 b0) = some r) :
    Calls Tryz.prog 88 #[Value.int .i64 a0, Value.pointer (some q0)] wa (Sc Ha wa (Value.bool r)) := by
  unfold PF.impl_part_1 at hp
  have S0 := St.init hs
  refine calls_go (N := 8) (args := [Value.int .i64 a0, Value.pointer (some q0)]) Tryz.func88 rfl rfl rfl ?_
  refine FW.seq ?_
  refine FW.region ?_
  refine FL.val rfl rfl rfl (E.assign (v := Value.bool false) rfl) ?_
  refine FL.nil ?_
  refine FW.seq ?_
  refine FW.region ?_
  refine FL.val rfl rfl rfl (E.load rfl (run_load0 Tryz.isAgg41 (c0.now S0.sl) rfl)) ?_
  refine FL.val rfl rfl rfl (E.move (v := Value.int .i64 a0) rfl) ?_
  obtain ⟨r21, hr22, hp⟩ := bnd hp
  refine FL.call rfl rfl rfl (E.call Tryz.call47 (A2 rfl rfl)) (w_slices_Contains_int_int S0.sl u0_0 b0 g0_0 a0 hr22) ?_
  rintro e w23 ⟨rfl, r24⟩
  refine ⟨_, rfl, ?_⟩
  have S25 := S0.call r24
  refine FL.val rfl rfl rfl (E.not rfl) ?_
  refine FL.val rfl rfl rfl (E.assign (v := Value.bool (!r21)) rfl) ?_
  refine FL.nil ?_
  refine FW.ret ?_
  obtain rfl := Option.some.inj hp
  exact ⟨.inr rfl, res1 rfl rfl ⟨rfl, S25.back⟩⟩

theorem w_impl_part {Ha : GH} {wa : World} (hs : Sl Ha wa) (v0 : Value) (a0 : List Int) (p0 : RSl Ha eI 1 v0 a0) (v1 : Value) (a1 : List Int) (p1 : RSl Ha eI 1 v1 a1) {r : Bool} (hp : (PF.impl_part a0 a1) = some r) :
    Calls Tryz.prog 80 #[v0, v1] wa (Sc Ha wa (Value.bool r)) := by
  unfold PF.impl_part at hp
  have S0 := St.init hs
  refine calls_go (N := 9) (args := [v0, v1]) Tryz.func80 rfl rfl rfl ?_
  refine FW.seq ?_
  refine FW.region ?_
  obtain ⟨b21, w22, run23, S24⟩ := S0.box (P := Tryz.prog) 41 [v1] (v := v1) p1.cells (ones_cons p1.one ones_nil)
  refine FL.val rfl rfl rfl (E.box rfl run23) ?_
  obtain ⟨H25, S26, i27, at28⟩ := S24.sealBox (i := 0) (l' := []) rfl rfl
  refine FL.val rfl rfl rfl (E.assign (v := Value.bool false) rfl) ?_
  refine FL.nil ?_
  refine FW.seq ?_
  refine FW.region ?_
  refine FL.val rfl rfl rfl (E.move (v := v0) rfl) ?_
  refine FL.val rfl rfl rfl (E.makeFunc A0 (A1 rfl)) ?_
  obtain ⟨r29, hr30, hp⟩ := bnd hp
  refine FL.call rfl rfl rfl (E.call Tryz.call87 (A2 rfl rfl)) (w_slices_ContainsFunc_int_int S26.sl v0 a0 (p0.mono i27) (Value.func (.func 88) #[] #[Value.pointer (some ⟨b21, 0, none⟩)]) (fun x0 => PF.impl_part_1 x0 a1) (fun H2 w2 hi2 hs2 x0 r hr => ⟨88, #[Value.pointer (some ⟨b21, 0, none⟩)], rfl, Tryz.call88, w_impl_part_1 hs2 x0 ⟨b21, 0, none⟩ a1 v1 ((p1.mono i27).mono hi2) (at28.mono hi2) hr⟩) hr30) ?_
  rintro e w31 ⟨rfl, r32⟩
  refine ⟨_, rfl, ?_⟩
  have S33 := S26.call r32
  refine FL.val rfl rfl rfl (E.not rfl) ?_
  refine FL.val rfl rfl rfl (E.assign (v := Value.bool (!r29)) rfl) ?_
  refine FL.nil ?_
  refine FW.ret ?_
  obtain rfl := Option.some.inj hp
  exact ⟨.inr rfl, res1 rfl rfl ⟨rfl, S33.back⟩⟩

theorem w_impl_isVar {Ha : GH} {wa : World} (hs : Sl Ha wa) (a0 : Int) (a1 : Int) :
    Calls Tryz.prog 25 #[Value.int .i64 a0, Value.int .i64 a1] wa (Sc Ha wa (Value.bool (PF.impl_isVar a0 a1))) := by
  obtain ⟨r, hp⟩ : ∃ r, (PF.impl_isVar a0 a1) = r := ⟨_, rfl⟩
  rw [hp]
  unfold PF.impl_isVar at hp
  have S0 := St.init hs
  refine calls_go (N := 8) (args := [Value.int .i64 a0, Value.int .i64 a1]) Tryz.func25 rfl rfl rfl ?_
  refine FW.seq ?_
  refine FW.region ?_
  refine FL.val rfl rfl rfl (E.assign (v := Value.bool false) rfl) ?_
  refine FL.nil ?_
  refine FW.seq ?_
  refine FW.region ?_
  refine FL.val rfl rfl rfl (E.move (v := Value.int .i64 a1) rfl) ?_
  refine FL.val rfl rfl rfl (E.move (v := Value.int .i64 a0) rfl) ?_
  refine FL.call rfl rfl rfl (E.call Tryz.call46 (A3 rfl rfl rfl)) (w_impl_within S0.sl a1 1 a0) ?_
  rintro e w21 ⟨rfl, r22⟩
  refine ⟨_, rfl, ?_⟩
  have S23 := S0.call r22
  refine FL.val rfl rfl rfl (E.assign (v := Value.bool (PF.impl_within a1 1 a0)) rfl) ?_
  refine FL.nil ?_
  refine FW.ret ?_
  obtain rfl := hp
  exact ⟨.inr rfl, res1 rfl rfl ⟨rfl, S23.back⟩⟩

@[reducible] def p_slices_Clone_int_int (Ha : GH) (wa : World) (r : (List Int)) : Ending → World → Prop :=
  fun e w' => ∃ H' : GH, ∃ v0 : Value, ∃ n0 : Nat, ∃ c0 : List Value, e = .returned (v0) ∧ St Ha wa H' w' [.row 3 1 v0 n0 c0] ∧ Els (up wa.heap.size H') eI 1 c0 r
theorem w_slices_Clone_int_int {Ha : GH} {wa : World} (hs : Sl Ha wa) (v0 : Value) (a0 : List Int) (p0 : RSl Ha eI 1 v0 a0) {r : (List Int)} (hp : (PF.slices_Clone_int_int a0) = some r) :
    Calls Tryz.prog 51 #[v0] wa (p_slices_Clone_int_int Ha wa r) := by
  unfold PF.slices_Clone_int_int at hp
  have S0 := St.init hs
  refine calls_go (N := 8) (args := [v0]) Tryz.func51 rfl rfl rfl ?_
  refine FW.seq ?_
  refine FW.region ?_
  refine FL.val rfl rfl rfl (E.assign (v := Value.slice none 0 0) rfl) ?_
  refine FL.nil ?_
  refine FW.seq ?_
  refine FW.seq ?_
  refine FW.region ?_
  refine FL.val rfl rfl rfl (E.move (v := v0) rfl) ?_
  obtain ⟨nb21, run22, hn23⟩ := RSl.nilTest te41 p0
  refine FL.val rfl rfl rfl (run22 _ _ _ _ _ _ _ _ _ _ _ _ rfl rfl) ?_
  refine FL.nil ?_
  rcases bcase nb21 with c24 | c24
  ·
    refine FW.condT (b := nb21) rfl c24 ?_
    rw [hn23 c24, app_nil2] at hp
    refine FW.seq ?_
    refine FW.region ?_
    refine FL.val rfl rfl rfl (E.assign (v := Value.slice none 0 0) rfl) ?_
    refine FL.nil ?_
    refine FW.ret ?_
    obtain rfl := Option.some.inj hp
    exact ⟨.inr rfl, res1 rfl rfl ⟨_, _, _, _, rfl, (S0.nil 3 1), Els.nil⟩⟩
  ·
    refine FW.condF (b := nb21) rfl c24 ?_
    refine FW.skip ?_
    refine FW.seq ?_
    refine FW.region ?_
    obtain ⟨v25, w26, run27, S28⟩ := S0.buildSlice (P := Tryz.prog) te41 [] (parts := #[]) (cells := []) rfl szs_nil fc_nil ones_nil (Nat.le_of_ble_eq_true rfl)
    have els29 : Els (up wa.heap.size Ha) eI 1 [] [] := Els.nil
    refine FL.val rfl rfl rfl (E.buildSlice (B0) run27) ?_
    refine FL.val rfl rfl rfl (E.move (v := v0) rfl) ?_
    obtain ⟨xs30, hz31, hp⟩ := bnd hp
    obtain ⟨v32, w35, n33, cs34, run36, S37, els38⟩ := S28.appendP (P := Tryz.prog) (Inc.rfl _) te41 (i := 0) rfl (els29.mono upI) p0 hz31
    have S37 : St Ha wa Ha w35 [.row 3 1 v32 n33 cs34] := S37
    have els38 : Els (up wa.heap.size Ha) eI 1 cs34 xs30 := els38.any (fun _ _ _ _ h => h)
    refine FL.val rfl rfl rfl (E.append rfl rfl run36) ?_
    refine FL.val rfl rfl rfl (E.assign (v := v32) rfl) ?_
    refine FL.nil ?_
    refine FW.ret ?_
    obtain rfl := Option.some.inj hp
    exact ⟨.inr rfl, res1 rfl rfl ⟨_, _, _, _, rfl, S37, els38⟩⟩

@[reducible] def p_slices_DeleteFunc_int_int (H0 : GH) (w0 : World) (Ha : GH) (L : List MO) (r : (List Int)) : Ending → World → Prop :=
  fun e w' => ∃ H' : GH, ∃ v0r : Value, ∃ n0r : Nat, ∃ c0r : List Value, e = .returned (v0r) ∧ (St H0 w0 H' w' (.row 3 1 v0r n0r c0r :: L) ∧ Inc Ha H') ∧ Els (up w0.heap.size H') eI 1 c0r r
theorem w_slices_DeleteFunc_int_int {H0 Ha : GH} {w0 wa : World} {L : List MO} {v0 : Value} {n0 : Nat} {k0 : List Value} (S0 : St H0 w0 Ha wa (.row 3 1 v0 n0 k0 :: L)) (a0 : List Int) (p0 : Els (up w0.heap.size Ha) eI 1 k0 a0) (v1 : Value) (a1 : Int → Option Bool) (p1 : Fn_I_to_B Tryz.prog Ha v1 a1) {r : (List Int)} (hp : (PF.slices_DeleteFunc_int_int a0 a1) = some r) :
    Calls Tryz.prog 69 #[v0, v1] wa (p_slices_DeleteFunc_int_int H0 w0 Ha L r) := by
  unfold PF.slices_DeleteFunc_int_int at hp
  refine calls_go (N := 42) (args := [v0, v1]) Tryz.func69 rfl rfl rfl ?_
  refine FW.seq ?_
  refine FW.region ?_
  refine FL.val rfl rfl rfl (E.assign (v := Value.slice none 0 0) rfl) ?_
  refine FL.nil ?_
  refine FW.seq ?_
  refine FW.region ?_
  refine FL.val rfl rfl rfl (E.move (v := v0) rfl) ?_
  refine FL.val rfl rfl rfl (E.move (v := v1) rfl) ?_
  obtain ⟨H21, S22, i23, h24, nv25⟩ := S0.sealRowU (i := 0) (l' := L) rfl p0 (by decide) rfl
  obtain ⟨r26, hr27, hp⟩ := bnd hp
  refine FL.call rfl rfl rfl (E.call Tryz.call85 (A2 rfl rfl)) (w_slices_IndexFunc_int_int S22.sl v0 a0 (h24.mono upI) v1 a1 (p1.mono i23) hr27) ?_
  rintro e w28 ⟨rfl, r29⟩
  refine ⟨_, rfl, ?_⟩
  have r29 := Run.lend i23 S0.sl r29
  have S30 := S0.call r29
  refine FL.val rfl rfl rfl (E.assign (v := Value.int .i64 r26) rfl) ?_
  refine FL.nil ?_
  refine FW.seq ?_
  refine FW.seq ?_
  refine FW.region ?_
  refine FL.val rfl rfl rfl (E.move (v := Value.int .i64 r26) rfl) ?_
  refine FL.val rfl rfl rfl (E.eql rfl rfl) ?_
  refine FL.nil ?_
  rcases ifB hp with ⟨c31, hp⟩ | ⟨c31, hp⟩
  ·
    refine FW.condT rfl c31 ?_
    refine FW.seq ?_
    refine FW.region ?_
    refine FL.val rfl rfl rfl (E.move (v := v0) rfl) ?_
    refine FL.val rfl rfl rfl (E.assign (v := v0) rfl) ?_
    refine FL.nil ?_
    refine FW.ret ?_
    obtain rfl := Option.some.inj hp
    exact ⟨.inr rfl, res1 rfl rfl ⟨_, _, _, _, rfl, ⟨S30, (Inc.rfl _)⟩, p0⟩⟩
  ·
    refine FW.condF rfl c31 ?_
    refine FW.skip ?_
    refine FW.seq ?_
    refine FW.seq ?_
    refine FW.region ?_
    refine FL.val rfl rfl rfl (E.move (v := Value.int .i64 r26) rfl) ?_
    refine FL.val rfl rfl rfl (E.add rfl rfl) ?_
    refine FL.val rfl rfl rfl (E.assign (v := Value.int .i64 (wr (r26 + 1))) rfl) ?_
    refine FL.nil ?_
    obtain ⟨q32, hq, hp⟩ := bndR hp
    refine FW.block ?_
    refine FW.mono (FW.iter (S := ((List Int) × Int × Int)) (X := Empty) (fun (s32 : ((List Int) × Int × Int)) f w => ∃ H : GH, ∃ v78 : Value, ∃ n79 : Nat, ∃ cs80 : List Value, St H0 w0 H w (.row 3 1 v78 n79 cs80 :: L) ∧ Inc Ha H ∧ Els (up w0.heap.size H) eI 1 cs80 s32.1 ∧ f 0 = v78 ∧ f 1 = v1 ∧ f 5 = Value.int .i64 s32.2.1 ∧ f 6 = Value.int .i64 s32.2.2) (fun (q : Rs ((List Int) × Int × Int) Empty) e f w => match q with | .go s32 => e = Exit.exit 0 ∧ (∃ H : GH, ∃ v78 : Value, ∃ n79 : Nat, ∃ cs80 : List Value, St H0 w0 H w (.row 3 1 v78 n79 cs80 :: L) ∧ Inc Ha H ∧ Els (up w0.heap.size H) eI 1 cs80 s32.1 ∧ f 0 = v78 ∧ f 5 = Value.int .i64 s32.2.1) | .rt x => x.elim) hq ⟨_, _, _, _, S30, (Inc.rfl _), p0, rfl, rfl, rfl, rfl⟩ ?_) ?_
    ·
      clear hp hq
      rintro s32 f131 w130 ⟨H127, v78, n79, cs80, S128, i129, els81, k132, k133, k134, k135⟩ o172 hp
      refine FW.seq ?_
      refine FW.seq ?_
      refine FW.region ?_
      refine FL.val rfl rfl rfl (E.move k135) ?_
      refine FL.val rfl rfl rfl (E.move k132) ?_
      refine FL.val rfl rfl rfl (E.lenO te41 rfl S128 (i := 0) rfl els81 (by decide)) ?_
      refine FL.val rfl rfl rfl (E.lss rfl rfl) ?_
      refine FL.nil ?_
      rcases ifB hp with ⟨c136, hp⟩ | ⟨c136, hp⟩
      ·
        refine FW.condT rfl c136 ?_
        refine FW.skip ?_
        refine FW.seq ?_
        refine FW.block ?_
        refine FW.seq ?_
        refine FW.region ?_
        refine FL.val rfl rfl rfl (E.move k132) ?_
        refine FL.val rfl rfl rfl (E.move k135) ?_
        obtain ⟨x143, hx144, hp⟩ := bnd hp
        obtain ⟨p137, cs138, pt139, l140, at141, rel142⟩ := S128.row_at (i := 0) rfl els81 (by decide) hx144
        obtain rfl := eI_open rel142
        refine FL.val rfl rfl rfl (E.indexAddr te41 rfl rfl pt139) ?_
        refine FL.val rfl rfl rfl (E.load rfl (run_load0 Tryz.isAgg3 at141 rfl)) ?_
        refine FL.val rfl rfl rfl (E.assign (v := Value.int .i64 x143) rfl) ?_
        refine FL.nil ?_
        refine FW.seq ?_
        refine FW.region ?_
        refine FL.val rfl rfl rfl (E.move k133) ?_
        refine FL.val rfl rfl rfl (E.move (v := Value.int .i64 x143) rfl) ?_
        obtain ⟨r145, hr146, hp⟩ := bnd hp
        obtain ⟨fi150, cs151, hv152, he153, hc154⟩ := (p1.mono i129) H127 w130 (Inc.rfl _) S128.sl x143 r145 hr146
        refine FL.call rfl rfl rfl (E.callV he153 (Eq.trans rfl hv152) (appA (A1 rfl) cs151)) hc154 ?_
        rintro e w147 ⟨rfl, r148⟩
        refine ⟨_, rfl, ?_⟩
        have S149 := S128.call r148
        refine FL.val rfl rfl rfl (E.not rfl) ?_
        refine FL.nil ?_
        rcases ifB hp with ⟨c155, hp⟩ | ⟨c155, hp⟩
        ·
          refine FW.condT rfl c155 ?_
          refine FW.seq ?_
          refine FW.region ?_
          refine FL.val rfl rfl rfl (E.move k132) ?_
          refine FL.val rfl rfl rfl (E.move k134) ?_
          refine FL.val rfl rfl rfl (E.move (v := Value.int .i64 x143) rfl) ?_
          obtain ⟨x162, hx163, hp⟩ := bnd hp
          obtain ⟨p156, cs157, pt158, l159, at160, rel161⟩ := S149.row_at (i := 0) rfl els81 (by decide) hx163
          obtain rfl := eI_open rel161
          refine FL.val rfl rfl rfl (E.indexAddr te41 rfl rfl pt158) ?_
          obtain ⟨xs167, hput168, hp⟩ := bnd hp
          obtain ⟨w164, cs170, run165, S166, els169, ce171⟩ := S149.putEls (P := Tryz.prog) (t := 3) (i := 0) rfl els81 hput168 pt158 Tryz.sizeOf3 (u := Value.int .i64 x143) (c := [Value.int .i64 x143]) rfl rfl (ones_cons rfl ones_nil) rfl
          have S166 : St H0 w0 H127 w164 (.row 3 1 v78 n79 cs170 :: L) := S166
          refine FL.act rfl rfl (E.store rfl rfl run165) ?_
          refine FL.nil ?_
          refine FW.region ?_
          refine FL.val rfl rfl rfl (E.move k134) ?_
          refine FL.val rfl rfl rfl (E.add rfl rfl) ?_
          refine FL.val rfl rfl rfl (E.assign (v := Value.int .i64 (wr (s32.2.1 + 1))) rfl) ?_
          refine FL.nil ?_
          refine FW.region ?_
          refine FL.val rfl rfl rfl (E.move k135) ?_
          refine FL.val rfl rfl rfl (E.add rfl rfl) ?_
          refine FL.val rfl rfl rfl (E.assign (v := Value.int .i64 (wr (s32.2.2 + 1))) rfl) ?_
          refine FL.nil ?_
          obtain rfl := Option.some.inj hp
          exact ⟨rfl, ⟨_, _, _, _, S166, i129, els169, k132, k133, rfl, rfl⟩⟩
        ·
          refine FW.condF rfl c155 ?_
          refine FW.skip ?_
          refine FW.region ?_
          refine FL.val rfl rfl rfl (E.move k135) ?_
          refine FL.val rfl rfl rfl (E.add rfl rfl) ?_
          refine FL.val rfl rfl rfl (E.assign (v := Value.int .i64 (wr (s32.2.2 + 1))) rfl) ?_
          refine FL.nil ?_
          obtain rfl := Option.some.inj hp
          exact ⟨rfl, ⟨_, _, _, _, S149, i129, els81, k132, k133, k134, rfl⟩⟩
      ·
        refine FW.condF rfl c136 ?_
        refine FW.exit ?_
        obtain rfl := Option.some.inj hp
        exact ⟨nofun, rfl, ⟨_, _, _, _, S128, i129, els81, k132, k134⟩⟩
    ·
      clear hq
      intro e f177 w176 hD
      rcases q32 with s32 | x32
      ·
        obtain ⟨rfl, hD⟩ := hD
        obtain ⟨H173, v78, n79, cs80, S174, i175, els81, k178, k179⟩ := hD
        replace hp := el_go hp
        refine FW.seq ?_
        refine FW.region ?_
        refine FL.val rfl rfl rfl (E.move k178) ?_
        refine FL.val rfl rfl rfl (E.move k179) ?_
        obtain ⟨xs180, hc181, hp⟩ := bnd hp
        obtain ⟨v182, run183, h184⟩ := S174.tail te41 (kk := .i64) (i := 0) rfl els81 hc181
        refine FL.val rfl rfl rfl (E.slice te41 rfl (congrArg some rfl) rfl rfl (run183 _)) ?_
        obtain ⟨w185, cs186, run187, S188, els189⟩ := S174.clearTail (P := Tryz.prog) te41 (i := 0) rfl els81 h184 rfl (ones_cons rfl ones_nil)
        have S188 : St H0 w0 H173 w185 (.row 3 1 v78 n79 cs186 :: L) := S188
        refine FL.val0 rfl rfl (E.clear rfl run187) ?_
        refine FL.nil ?_
        refine FW.seq ?_
        refine FW.region ?_
        refine FL.val rfl rfl rfl (E.move k178) ?_
        refine FL.val rfl rfl rfl (E.move k179) ?_
        obtain ⟨xs190, hc191, hp⟩ := bnd hp
        obtain ⟨v192, n193, cs194, run195, S196, els197⟩ := S188.cutRow te41 (kk := .i64) (i := 0) rfl els189 hc191
        have S196 : St H0 w0 H173 w185 (.row 3 1 v192 n193 cs194 :: L) := S196
        refine FL.val rfl rfl rfl (E.slice te41 rfl rfl (congrArg some rfl) rfl (run195 _)) ?_
        refine FL.val rfl rfl rfl (E.assign (v := v192) rfl) ?_
        refine FL.nil ?_
        refine FW.ret ?_
        obtain rfl := Option.some.inj hp
        exact ⟨.inr rfl, res1 rfl rfl ⟨_, _, _, _, rfl, ⟨S196, i175⟩, els197⟩⟩
      · exact x32.elim

theorem w_impl_withoutVar_1 {Ha : GH} {wa : World} (hs : Sl Ha wa) (a0 : Int) (q0 : Addr) (b0 : Int) (c0 : CAt Ha q0 [Value.int .i64 b0]) :
    Calls Tryz.prog 70 #[Value.int .i64 a0, Value.pointer (some q0)] wa (Sc Ha wa (Value.bool (PF.impl_withoutVar_1 a0 b0))) := by
  obtain ⟨r, hp⟩ : ∃ r, (PF.impl_withoutVar_1 a0 b0) = r := ⟨_, rfl⟩
  rw [hp]
  unfold PF.impl_withoutVar_1 at hp
  have S0 := St.init hs
  refine calls_go (N := 8) (args := [Value.int .i64 a0, Value.pointer (some q0)]) Tryz.func70 rfl rfl rfl ?_
  refine FW.seq ?_
  refine FW.region ?_
  refine FL.val rfl rfl rfl (E.assign (v := Value.bool false) rfl) ?_
  refine FL.nil ?_
  refine FW.seq ?_
  refine FW.draw (fun w' => Run wa.heap.size Ha wa Ha w') (by kernel_rfl) (by kernel_rfl) (run_drew S0.sl) ?_
  refine FD.val rfl rfl rfl (fun w' hw' => (E.move (v := Value.int .i64 a0) rfl)) ?_
  refine FD.call rfl rfl rfl (fun w' hw' => (E.call Tryz.call71 (A1 rfl))) (fun w' hw' => Calls.cls hw' (w_impl_abs (S0.call hw').sl a0)) ?_
  refine FD.val rfl rfl rfl (fun w' hw' => (E.load rfl (run_load0 Tryz.isAgg3 (c0.now (S0.call hw').sl) rfl))) ?_
  refine FD.val rfl rfl rfl (fun w' hw' => (E.eql rfl rfl)) ?_
  refine FD.val rfl rfl rfl (fun w' hw' => (E.assign (v := Value.bool ((PF.impl_abs a0) == b0)) rfl)) ?_
  refine FD.nil ?_
  intro w22 r24
  have S23 := S0.call r24
  refine FW.ret ?_
  obtain rfl := hp
  exact ⟨.inr rfl, res1 rfl rfl ⟨rfl, S23.back⟩⟩

@[reducible] def p_impl_withoutVar (Ha : GH) (wa : World) (r : (List Int)) : Ending → World → Prop :=
  fun e w' => ∃ H' : GH, ∃ v0 : Value, ∃ n0 : Nat, ∃ c0 : List Value, e = .returned (v0) ∧ St Ha wa H' w' [.row 3 1 v0 n0 c0] ∧ Els (up wa.heap.size H') eI 1 c0 r
theorem w_impl_withoutVar {Ha : GH} {wa : World} (hs : Sl Ha wa) (v0 : Value) (a0 : List Int) (p0 : RSl Ha eI 1 v0 a0) (a1 : Int) {r : (List Int)} (hp : (PF.impl_withoutVar a0 a1) = some r) :
    Calls Tryz.prog 50 #[v0, Value.int .i64 a1] wa (p_impl_withoutVar Ha wa r) := by
  unfold PF.impl_withoutVar at hp
  have S0 := St.init hs
  refine calls_go (N := 9) (args := [v0, Value.int .i64 a1]) Tryz.func50 rfl rfl rfl ?_
  refine FW.seq ?_
  refine FW.region ?_
  obtain ⟨b21, w22, run23, S24⟩ := S0.box (P := Tryz.prog) 3 [Value.int .i64 a1] (v := Value.int .i64 a1) rfl (ones_cons rfl ones_nil)
  refine FL.val rfl rfl rfl (E.box rfl run23) ?_
  obtain ⟨H25, S26, i27, at28⟩ := S24.sealBox (i := 0) (l' := []) rfl rfl
  refine FL.val rfl rfl rfl (E.assign (v := Value.slice none 0 0) rfl) ?_
  refine FL.nil ?_
  refine FW.seq ?_
  refine FW.region ?_
  refine FL.val rfl rfl rfl (E.move (v := v0) rfl) ?_
  obtain ⟨r29, hr30, hp⟩ := bnd hp
  refine FL.call rfl rfl rfl (E.call Tryz.call51 (A1 rfl)) (w_slices_Clone_int_int S26.sl v0 a0 (p0.mono i27) hr30) ?_
  rintro e w32 ⟨H31, v35, n36, cs37, rfl, r34, els38⟩
  refine ⟨_, rfl, ?_⟩
  have els38 := els38.mono (up_le S26.size)
  have S33 := S26.join (l' := [.row 3 1 v35 n36 cs37]) r34 rfl
  refine FL.val rfl rfl rfl (E.makeFunc A0 (A1 rfl)) ?_
  obtain ⟨r39, hr40, hp⟩ := bnd hp
  refine FL.call rfl rfl rfl (E.call Tryz.call69 (A2 rfl rfl)) (w_slices_DeleteFunc_int_int (L := []) S33 r29 els38 (Value.func (.func 70) #[] #[Value.pointer (some ⟨b21, 0, none⟩)]) (fun x0 => some (PF.impl_withoutVar_1 x0 a1)) (fun H2 w2 hi2 hs2 x0 r hr => ⟨70, #[Value.pointer (some ⟨b21, 0, none⟩)], rfl, Tryz.call70, by cases hr; exact w_impl_withoutVar_1 hs2 x0 ⟨b21, 0, none⟩ a1 ((at28.mono r34.run.inc).mono hi2)⟩) hr40) ?_
  rintro e w42 ⟨H41, v45, n46, cs47, rfl, ⟨S43, i44⟩, els48⟩
  refine ⟨_, rfl, ?_⟩
  have S43 : St Ha wa H41 w42 [.row 3 1 v45 n46 cs47] := S43
  refine FL.val rfl rfl rfl (E.assign (v := v45) rfl) ?_
  refine FL.nil ?_
  refine FW.ret ?_
  obtain rfl := Option.some.inj hp
  exact ⟨.inr rfl, res1 rfl rfl ⟨_, _, _, _, rfl, S43, els48⟩⟩

@[reducible] def p_slices_Grow_int_int (Ha : GH) (wa : World) (r : List Int) : Ending → World → Prop :=
  fun e w' => ∃ H' : GH, ∃ v0 : Value, ∃ n0 : Nat, ∃ c0 : List Value, e = .returned (v0) ∧ St Ha wa H' w' [.row 3 1 v0 n0 c0] ∧ Els (up wa.heap.size H') eI 1 c0 r
theorem w_slices_Grow_int_int {Ha : GH} {wa : World} (hs : Sl Ha wa) (a1 : Int) {r : List Int} (hp : PF.slices_Grow_int_int a1 = some r) :
    Calls Tryz.prog 68 #[.slice none 0 0, .int .i64 a1] wa (p_slices_Grow_int_int Ha wa r) := by
  unfold PF.slices_Grow_int_int at hp
  split at hp
  · rename_i h
    cases hp
    refine (growNil (En := eI) te41 hs h.1 h.2 (fun w => Any8.slices_Grow_room (P := Tryz.prog) Tryz.grow68 none 0 0 0 w (Nat.le_refl _) (by decide) (by decide) (by decide))
      (fun n w h0 hl => ?_)).mono ?_
    · have h := Any8.slices_Grow_grow (P := Tryz.prog) Tryz.grow68 _ _ Tryz.type3 rfl (by decide) none 0 0 n [] w (Nat.le_refl _) (by omega) ?_ (by unfold lim at hl; omega) (by simp) (fun _ => rfl) (by simp)
      · refine h.mono ?_
        rintro _ _ ⟨rfl, rfl⟩
        refine ⟨by simp; rfl, ?_⟩
        simp
        rfl
      · rw [Nat.zero_add]; refine Nat.le_trans (Nat.mul_le_mul hl (show _ ≤ 4096 by decide)) (by decide)
    · rintro e w' ⟨v, n, c, rfl, h1, h2⟩
      exact ⟨_, _, _, _, rfl, h1, h2 _⟩
  · cases hp

@[reducible] def p_slices_Concat_int_int (Ha : GH) (wa : World) (r : (List Int)) : Ending → World → Prop :=
  fun e w' => ∃ H' : GH, ∃ v0 : Value, ∃ n0 : Nat, ∃ c0 : List Value, e = .returned (v0) ∧ St Ha wa H' w' [.row 3 1 v0 n0 c0] ∧ Els (up wa.heap.size H') eI 1 c0 r
theorem w_slices_Concat_int_int {Ha : GH} {wa : World} (hs : Sl Ha wa) (v0 : Value) (a0 : List (List Int)) (p0 : RSl Ha (eL eI 1) 1 v0 a0) {r : (List Int)} (hp : (PF.slices_Concat_int_int a0) = some r) :
    Calls Tryz.prog 49 #[v0] wa (p_slices_Concat_int_int Ha wa r) := by
  unfold PF.slices_Concat_int_int at hp
  have S0 := St.init hs
  refine calls_go (N := 36) (args := [v0]) Tryz.func49 rfl rfl rfl ?_
  refine FW.seq ?_
  refine FW.region ?_
  refine FL.val rfl rfl rfl (E.assign (v := Value.slice none 0 0) rfl) ?_
  refine FL.nil ?_
  refine FW.seq ?_
  refine FW.region ?_
  refine FL.val rfl rfl rfl (E.assign (v := Value.int .i64 0) rfl) ?_
  refine FL.nil ?_
  refine FW.seq ?_
  refine FW.seq ?_
  refine FW.region ?_
  refine FL.val rfl rfl rfl (E.move (v := v0) rfl) ?_
  refine FL.val rfl rfl rfl (E.lenP te22 rfl p0) ?_
  refine FL.val rfl rfl rfl (E.move (v := Value.int .i64 0) rfl) ?_
  refine FL.nil ?_
  obtain ⟨q22, hq, hp⟩ := bndR hp
  refine FW.block ?_
  refine FW.mono (FW.forL (S := Int) (X := Empty) (fun (i22 : Nat) (s22 : Int) f w => ∃ H : GH, St Ha wa H w [] ∧ Inc Ha H ∧ f 11 = Value.int .i64 ((i22 : Nat) : Int) ∧ f 0 = v0 ∧ f 3 = Value.int .i64 s22 ∧ f 9 = v0 ∧ f 10 = Value.int .i64 (len a0)) (fun (q : Rs Int Empty) e f w => match q with | .go s22 => e = Exit.exit 0 ∧ (∃ H : GH, St Ha wa H w [] ∧ Inc Ha H ∧ f 0 = v0 ∧ f 3 = Value.int .i64 s22) | .rt x => x.elim) hq ⟨_, S0, (Inc.rfl _), rfl, rfl, rfl, rfl, rfl⟩ ?_ ?_) ?_
  ·
    clear hp hq
    rintro i22 y21 s22 f46 w45 ⟨H42, S43, i44, k47, k48, k49, k50, k51⟩ hx22 o61 hp
    refine FW.seq ?_
    refine FW.region ?_
    refine FL.val rfl rfl rfl (E.lssT k47 k51 (lss_len hx22)) ?_
    refine FL.nil ?_
    refine FW.seq ?_
    refine FW.condT rfl rfl ?_
    refine FW.skip ?_
    refine FW.seq ?_
    refine FW.block ?_
    refine FW.seq ?_
    refine FW.region ?_
    obtain ⟨p52, cs53, pt54, l55, at56, rel57⟩ := p0.at (ix_nat hx22)
    obtain ⟨v58, rfl, h59⟩ := eL_open rel57
    refine FL.val rfl rfl rfl (E.indexAddr te22 k50 k47 pt54) ?_
    refine FL.val rfl rfl rfl (E.load rfl (run_load0 Tryz.isAgg41 ((at56.mono i44).now S43.sl) rfl)) ?_
    refine FL.val rfl rfl rfl (E.assign (v := v58) rfl) ?_
    refine FL.nil ?_
    refine FW.seq ?_
    refine FW.region ?_
    refine FL.val rfl rfl rfl (E.move k49) ?_
    refine FL.val rfl rfl rfl (E.move (v := v58) rfl) ?_
    refine FL.val rfl rfl rfl (E.lenP te41 rfl h59) ?_
    refine FL.val rfl rfl rfl (E.add rfl rfl) ?_
    refine FL.val rfl rfl rfl (E.assign (v := Value.int .i64 (wr (s22 + (len y21)))) rfl) ?_
    refine FL.nil ?_
    refine FW.seq ?_
    refine FW.region ?_
    refine FL.val rfl rfl rfl (E.move (v := Value.int .i64 (wr (s22 + (len y21)))) rfl) ?_
    refine FL.val rfl rfl rfl (E.lss rfl rfl) ?_
    refine FL.nil ?_
    rcases ifB hp with ⟨c60, hp⟩ | ⟨c60, hp⟩
    ·
      refine FW.condT rfl c60 ?_
      cases hp
    ·
      refine FW.condF rfl c60 ?_
      refine FW.skip ?_
      refine FW.region ?_
      refine FL.val rfl rfl rfl (E.add k47 rfl) ?_
      refine FL.val rfl rfl rfl (E.move (v := Value.int .i64 (wr (((i22 : Nat) : Int) + 1))) rfl) ?_
      refine FL.nil ?_
      obtain rfl := Option.some.inj hp
      exact ⟨rfl, ⟨_, S43, i44, (nat_succ rfl (lt_of_get hx22) (p0.mono i44).le), k48, rfl, k50, k51⟩⟩
  ·
    clear hp hq
    rintro s22 f159 w158 ⟨H155, S156, i157, k160, k161, k162, k163, k164⟩
    refine FW.seq ?_
    refine FW.region ?_
    refine FL.val rfl rfl rfl (E.lss k160 k164) ?_
    refine FL.nil ?_
    refine FW.seq ?_
    refine FW.condF rfl dlt_len ?_
    refine FW.exit ?_
    exact ⟨nofun, rfl, ⟨_, S156, i157, k161, k162⟩⟩
  ·
    clear hq
    intro e f66 w65 hD
    rcases q22 with s22 | x22
    ·
      obtain ⟨rfl, hD⟩ := hD
      obtain ⟨H62, S63, i64, k67, k68⟩ := hD
      replace hp := el_go hp
      refine FW.seq ?_
      refine FW.region ?_
      refine FL.val rfl rfl rfl (E.move k68) ?_
      obtain ⟨r69, hr70, hp⟩ := bnd hp
      refine FL.call rfl rfl rfl (E.call Tryz.call68 (A2 rfl rfl)) (w_slices_Grow_int_int S63.sl s22 hr70) ?_
      rintro e w72 ⟨H71, v75, n76, cs77, rfl, r74, els78⟩
      refine ⟨_, rfl, ?_⟩
      have els78 := els78.mono (up_le S63.size)
      have S73 := S63.join (l' := [.row 3 1 v75 n76 cs77]) r74 rfl
      refine FL.val rfl rfl rfl (E.assign (v := v75) rfl) ?_
      refine FL.nil ?_
      refine FW.seq ?_
      refine FW.seq ?_
      refine FW.region ?_
      refine FL.val rfl rfl rfl (E.move k67) ?_
      refine FL.val rfl rfl rfl (E.lenP te22 rfl p0) ?_
      refine FL.val rfl rfl rfl (E.move (v := Value.int .i64 0) rfl) ?_
      refine FL.nil ?_
      obtain ⟨q80, hq, hp⟩ := bndR hp
      refine FW.block ?_
      refine FW.mono (FW.forL (S := (List Int)) (X := Empty) (fun (i80 : Nat) (s80 : (List Int)) f w => ∃ H : GH, ∃ v81 : Value, ∃ n82 : Nat, ∃ cs83 : List Value, St Ha wa H w [.row 3 1 v81 n82 cs83] ∧ Inc H71 H ∧ Els (up wa.heap.size H) eI 1 cs83 s80 ∧ f 27 = Value.int .i64 ((i80 : Nat) : Int) ∧ f 6 = v81 ∧ f 25 = v0 ∧ f 26 = Value.int .i64 (len a0)) (fun (q : Rs (List Int) Empty) e f w => match q with | .go s80 => e = Exit.exit 2 ∧ (∃ H : GH, ∃ v81 : Value, ∃ n82 : Nat, ∃ cs83 : List Value, St Ha wa H w [.row 3 1 v81 n82 cs83] ∧ Inc H71 H ∧ Els (up wa.heap.size H) eI 1 cs83 s80 ∧ f 6 = v81) | .rt x => x.elim) hq ⟨_, _, _, _, S73, (Inc.rfl _), els78, rfl, rfl, rfl, rfl⟩ ?_ ?_) ?_
      ·
        clear hp hq
        rintro i80 y79 s80 f116 w115 ⟨H112, v81, n82, cs83, S113, i114, els84, k117, k118, k119, k120⟩ hx80 o139 hp
        refine FW.seq ?_
        refine FW.region ?_
        refine FL.val rfl rfl rfl (E.lssT k117 k120 (lss_len hx80)) ?_
        refine FL.nil ?_
        refine FW.seq ?_
        refine FW.condT rfl rfl ?_
        refine FW.skip ?_
        refine FW.seq ?_
        refine FW.block ?_
        refine FW.seq ?_
        refine FW.region ?_
        obtain ⟨p121, cs122, pt123, l124, at125, rel126⟩ := p0.at (ix_nat hx80)
        obtain ⟨v127, rfl, h128⟩ := eL_open rel126
        refine FL.val rfl rfl rfl (E.indexAddr te22 k119 k117 pt123) ?_
        refine FL.val rfl rfl rfl (E.load rfl (run_load0 Tryz.isAgg41 ((at125.mono ((i64.tr r74.run.inc).tr i114)).now S113.sl) rfl)) ?_
        refine FL.val rfl rfl rfl (E.assign (v := v127) rfl) ?_
        refine FL.nil ?_
        refine FW.region ?_
        refine FL.val rfl rfl rfl (E.move k118) ?_
        refine FL.val rfl rfl rfl (E.move (v := v127) rfl) ?_
        obtain ⟨xs129, hz130, hp⟩ := bnd hp
        obtain ⟨v131, w134, n132, cs133, run135, S136, els137⟩ := S113.appendP (P := Tryz.prog) (Inc.rfl _) te41 (i := 0) rfl (els84.mono upI) (h128.mono ((i64.tr r74.run.inc).tr i114)) hz130
        have S136 : St Ha wa H112 w134 [.row 3 1 v131 n132 cs133] := S136
        have els137 : Els (up wa.heap.size H112) eI 1 cs133 xs129 := els137.any (fun _ _ _ _ h => h)
        refine FL.val rfl rfl rfl (E.append rfl rfl run135) ?_
        refine FL.val rfl rfl rfl (E.assign (v := v131) rfl) ?_
        refine FL.nil ?_
        refine FW.region ?_
        refine FL.val rfl rfl rfl (E.add k117 rfl) ?_
        refine FL.val rfl rfl rfl (E.move (v := Value.int .i64 (wr (((i80 : Nat) : Int) + 1))) rfl) ?_
        refine FL.nil ?_
        obtain rfl := Option.some.inj hp
        exact ⟨rfl, ⟨_, _, _, _, S136, i114, els137, (nat_succ rfl (lt_of_get hx80) (p0.mono ((i64.tr r74.run.inc).tr i114)).le), rfl, k119, k120⟩⟩
      ·
        clear hp hq
        rintro s80 f150 w149 ⟨H146, v81, n82, cs83, S147, i148, els84, k151, k152, k153, k154⟩
        refine FW.seq ?_
        refine FW.region ?_
        refine FL.val rfl rfl rfl (E.lss k151 k154) ?_
        refine FL.nil ?_
        refine FW.seq ?_
        refine FW.condF rfl dlt_len ?_
        refine FW.exit ?_
        exact ⟨nofun, rfl, ⟨_, _, _, _, S147, i148, els84, k152⟩⟩
      ·
        clear hq
        intro e f144 w143 hD
        rcases q80 with s80 | x80
        ·
          obtain ⟨rfl, hD⟩ := hD
          obtain ⟨H140, v81, n82, cs83, S141, i142, els84, k145⟩ := hD
          replace hp := el_go hp
          refine FW.seq ?_
          refine FW.region ?_
          refine FL.val rfl rfl rfl (E.move k145) ?_
          refine FL.val rfl rfl rfl (E.assign (v := v81) rfl) ?_
          refine FL.nil ?_
          refine FW.ret ?_
          obtain rfl := Option.some.inj hp
          exact ⟨.inr rfl, res1 rfl rfl ⟨_, _, _, _, rfl, S141, els84⟩⟩
        · exact x80.elim
    · exact x22.elim

@[reducible] def p_slices_SortFunc_int_int (H0 : GH) (w0 : World) (Ha : GH) (L : List MO) (v0 : Value) (n0 : Nat) (r : (List Int)) : Ending → World → Prop :=
  fun e w' => ∃ H' : GH, ∃ c0k : List Value, e = .returned (Value.tuple #[]) ∧ (St H0 w0 H' w' (.row 3 1 v0 n0 c0k :: L) ∧ Inc Ha H') ∧ Els (up w0.heap.size H') eI 1 c0k r
theorem w_slices_SortFunc_int_int {H0 Ha : GH} {w0 wa : World} {L : List MO} {v0 : Value} {n0 : Nat} {k0 : List Value} (S0 : St H0 w0 Ha wa (.row 3 1 v0 n0 k0 :: L)) (a0 : List Int) (p0 : Els (up w0.heap.size Ha) eI 1 k0 a0) (v1 : Value) (a1 : Int → Int → Option Int) (p1 : Fn_I_I_to_I Tryz.prog Ha v1 a1) {r : (List Int)} (hp : (PF.slices_SortFunc_int_int a0 a1) = some r) :
    Calls Tryz.prog 65 #[v0, v1] wa (p_slices_SortFunc_int_int H0 w0 Ha L v0 n0 r) := by
  refine (St.sortF (l := .row 3 1 v0 n0 k0 :: L) (i := 0) upI S0 rfl p0 (fun H2 w2 hi hs2 c x hc d y hd r hr => by cases eI_open hc; cases eI_open hd; exact p1 H2 w2 hi hs2 x y r hr) (fun p cap fv w => AnyF.slices_SortFunc_none (P := Tryz.prog) (ρ := Tryz.sort65_ren) { Tryz.sort65 with } p cap fv w) (fun α _ enc h1 cf hO g cb blk off cap d w eg hc hH hb hs => Any.slices_SortFunc Tryz.sort65 enc h1 cf hO g cb blk off cap d w eg hc hH hb hs) hp).mono ?_
  rintro e w' ⟨rfl, c', h1, h2⟩
  exact ⟨_, _, rfl, ⟨h1, Inc.rfl _⟩, h2⟩

theorem w_cmp_isNaN_int {Ha : GH} {wa : World} (hs : Sl Ha wa) (a0 : Int) :
    Calls Tryz.prog 99 #[Value.int .i64 a0] wa (Sc Ha wa (Value.bool (PF.cmp_isNaN_int a0))) := by
  obtain ⟨r, hp⟩ : ∃ r, (PF.cmp_isNaN_int a0) = r := ⟨_, rfl⟩
  rw [hp]
  unfold PF.cmp_isNaN_int at hp
  have S0 := St.init hs
  refine calls_go (N := 6) (args := [Value.int .i64 a0]) Tryz.func99 rfl rfl rfl ?_
  refine FW.seq ?_
  refine FW.region ?_
  refine FL.val rfl rfl rfl (E.assign (v := Value.bool false) rfl) ?_
  refine FL.nil ?_
  refine FW.seq ?_
  refine FW.region ?_
  refine FL.val rfl rfl rfl (E.move (v := Value.int .i64 a0) rfl) ?_
  refine FL.val rfl rfl rfl (E.move (v := Value.int .i64 a0) rfl) ?_
  refine FL.val rfl rfl rfl (E.neq rfl rfl) ?_
  refine FL.val rfl rfl rfl (E.assign (v := Value.bool (!(a0 == a0))) rfl) ?_
  refine FL.nil ?_
  refine FW.ret ?_
  obtain rfl := hp
  exact ⟨.inr rfl, res1 rfl rfl ⟨rfl, S0.back⟩⟩

theorem w_cmp_Compare_int {Ha : GH} {wa : World} (hs : Sl Ha wa) (a0 : Int) (a1 : Int) :
    Calls Tryz.prog 84 #[Value.int .i64 a0, Value.int .i64 a1] wa (Sc Ha wa (Value.int .i64 (PF.cmp_Compare_int a0 a1))) := by
  obtain ⟨r, hp⟩ : ∃ r, (PF.cmp_Compare_int a0 a1) = r := ⟨_, rfl⟩
  rw [hp]
  unfold PF.cmp_Compare_int at hp
  have S0 := St.init hs
  refine calls_go (N := 20) (args := [Value.int .i64 a0, Value.int .i64 a1]) Tryz.func84 rfl rfl rfl ?_
  refine FW.seq ?_
  refine FW.region ?_
  refine FL.val rfl rfl rfl (E.assign (v := Value.int .i64 0) rfl) ?_
  refine FL.nil ?_
  refine FW.seq ?_
  refine FW.region ?_
  refine FL.val rfl rfl rfl (E.move (v := Value.int .i64 a0) rfl) ?_
  refine FL.call rfl rfl rfl (E.call Tryz.call99 (A1 rfl)) (w_cmp_isNaN_int S0.sl a0) ?_
  rintro e w21 ⟨rfl, r22⟩
  refine ⟨_, rfl, ?_⟩
  have S23 := S0.call r22
  refine FL.val rfl rfl rfl (E.assign (v := Value.bool (PF.cmp_isNaN_int a0)) rfl) ?_
  refine FL.nil ?_
  refine FW.seq ?_
  refine FW.region ?_
  refine FL.val rfl rfl rfl (E.move (v := Value.int .i64 a1) rfl) ?_
  refine FL.call rfl rfl rfl (E.call Tryz.call99 (A1 rfl)) (w_cmp_isNaN_int S23.sl a1) ?_
  rintro e w24 ⟨rfl, r25⟩
  refine ⟨_, rfl, ?_⟩
  have S26 := S23.call r25
  refine FL.val rfl rfl rfl (E.assign (v := Value.bool (PF.cmp_isNaN_int a1)) rfl) ?_
  refine FL.nil ?_
  refine FW.seq ?_
  refine FW.seq ?_
  refine FW.region ?_
  refine FL.val rfl rfl rfl (E.move (v := Value.bool (PF.cmp_isNaN_int a0)) rfl) ?_
  refine FL.nil ?_
  rcases ifT hp with ⟨c27, hp⟩ | ⟨c27, hp⟩
  ·
    refine FW.condT rfl c27 ?_
    refine FW.seq ?_
    refine FW.seq ?_
    refine FW.region ?_
    refine FL.val rfl rfl rfl (E.move (v := Value.bool (PF.cmp_isNaN_int a1)) rfl) ?_
    refine FL.nil ?_
    rcases ifT hp with ⟨c28, hp⟩ | ⟨c28, hp⟩
    ·
      refine FW.condT rfl c28 ?_
      refine FW.seq ?_
      refine FW.region ?_
      refine FL.val rfl rfl rfl (E.assign (v := Value.int .i64 0) rfl) ?_
      refine FL.nil ?_
      refine FW.ret ?_
      obtain rfl := hp
      exact ⟨.inr rfl, res1 rfl rfl ⟨rfl, S26.back⟩⟩
    ·
      refine FW.condF rfl c28 ?_
      refine FW.skip ?_
      refine FW.seq ?_
      refine FW.region ?_
      refine FL.val rfl rfl rfl (E.assign (v := Value.int .i64 (-1)) rfl) ?_
      refine FL.nil ?_
      refine FW.ret ?_
      obtain rfl := hp
      exact ⟨.inr rfl, res1 rfl rfl ⟨rfl, S26.back⟩⟩
  ·
    refine FW.condF rfl c27 ?_
    refine FW.skip ?_
    refine FW.seq ?_
    refine FW.seq ?_
    refine FW.region ?_
    refine FL.val rfl rfl rfl (E.move (v := Value.bool (PF.cmp_isNaN_int a1)) rfl) ?_
    refine FL.nil ?_
    rcases ifT hp with ⟨c29, hp⟩ | ⟨c29, hp⟩
    ·
      refine FW.condT rfl c29 ?_
      refine FW.seq ?_
      refine FW.region ?_
      refine FL.val rfl rfl rfl (E.assign (v := Value.int .i64 1) rfl) ?_
      refine FL.nil ?_
      refine FW.ret ?_
      obtain rfl := hp
      exact ⟨.inr rfl, res1 rfl rfl ⟨rfl, S26.back⟩⟩
    ·
      refine FW.condF rfl c29 ?_
      refine FW.skip ?_
      refine FW.seq ?_
      refine FW.seq ?_
      refine FW.region ?_
      refine FL.val rfl rfl rfl (E.move (v := Value.int .i64 a0) rfl) ?_
      refine FL.val rfl rfl rfl (E.move (v := Value.int .i64 a1) rfl) ?_
      refine FL.val rfl rfl rfl (E.lss rfl rfl) ?_
      refine FL.nil ?_
      rcases ifT hp with ⟨c30, hp⟩ | ⟨c30, hp⟩
      ·
        refine FW.condT rfl c30 ?_
        refine FW.seq ?_
        refine FW.region ?_
        refine FL.val rfl rfl rfl (E.assign (v := Value.int .i64 (-1)) rfl) ?_
        refine FL.nil ?_
        refine FW.ret ?_
        obtain rfl := hp
        exact ⟨.inr rfl, res1 rfl rfl ⟨rfl, S26.back⟩⟩
      ·
        refine FW.condF rfl c30 ?_
        refine FW.skip ?_
        refine FW.seq ?_
        refine FW.seq ?_
        refine FW.region ?_
        refine FL.val rfl rfl rfl (E.move (v := Value.int .i64 a0) rfl) ?_
        refine FL.val rfl rfl rfl (E.move (v := Value.int .i64 a1) rfl) ?_
        refine FL.val rfl rfl rfl (E.gtr rfl rfl) ?_
        refine FL.nil ?_
        rcases ifT hp with ⟨c31, hp⟩ | ⟨c31, hp⟩
        ·
          refine FW.condT rfl c31 ?_
          refine FW.seq ?_
          refine FW.region ?_
          refine FL.val rfl rfl rfl (E.assign (v := Value.int .i64 1) rfl) ?_
          refine FL.nil ?_
          refine FW.ret ?_
          obtain rfl := hp
          exact ⟨.inr rfl, res1 rfl rfl ⟨rfl, S26.back⟩⟩
        ·
          refine FW.condF rfl c31 ?_
          refine FW.skip ?_
          refine FW.seq ?_
          refine FW.region ?_
          refine FL.val rfl rfl rfl (E.assign (v := Value.int .i64 0) rfl) ?_
          refine FL.nil ?_
          refine FW.ret ?_
          obtain rfl := hp
          exact ⟨.inr rfl, res1 rfl rfl ⟨rfl, S26.back⟩⟩

theorem w_cmp_Or_int {Ha : GH} {wa : World} (hs : Sl Ha wa) (v0 : Value) (a0 : List Int) (p0 : RSl Ha eI 1 v0 a0) {r : Int} (hp : (PF.cmp_Or_int a0) = some r) :
    Calls Tryz.prog 83 #[v0] wa (Sc Ha wa (Value.int .i64 r)) := by
  unfold PF.cmp_Or_int at hp
  have S0 := St.init hs
  refine calls_go (N := 18) (args := [v0]) Tryz.func83 rfl rfl rfl ?_
  refine FW.seq ?_
  refine FW.region ?_
  refine FL.val rfl rfl rfl (E.assign (v := Value.int .i64 0) rfl) ?_
  refine FL.nil ?_
  refine FW.seq ?_
  refine FW.region ?_
  refine FL.val rfl rfl rfl (E.assign (v := Value.int .i64 0) rfl) ?_
  refine FL.nil ?_
  refine FW.seq ?_
  refine FW.seq ?_
  refine FW.region ?_
  refine FL.val rfl rfl rfl (E.move (v := v0) rfl) ?_
  refine FL.val rfl rfl rfl (E.lenP te41 rfl p0) ?_
  refine FL.val rfl rfl rfl (E.move (v := Value.int .i64 0) rfl) ?_
  refine FL.nil ?_
  obtain ⟨q22, hq, hp⟩ := bndR hp
  refine FW.block ?_
  refine FW.mono (FW.forL (S := Unit) (X := Int) (fun (i22 : Nat) (s22 : Unit) f w => ∃ H : GH, St Ha wa H w [] ∧ Inc Ha H ∧ f 8 = Value.int .i64 ((i22 : Nat) : Int) ∧ f 3 = Value.int .i64 0 ∧ f 6 = v0 ∧ f 7 = Value.int .i64 (len a0)) (fun q e f w => match q with | .go s22 => e = Exit.exit 0 ∧ (∃ H : GH, St Ha wa H w [] ∧ Inc Ha H ∧ f 3 = Value.int .i64 0) | .rt x => ((e = Exit.ret) ∧ (fun e f w => (e = Exit.normal ∨ e = Exit.ret) ∧ ∀ a, Fr 18 a f → ∃ v, (results Tryz.f83 a.tmps).run Tryz.prog w = .ok v w ∧ (Sc Ha wa (Value.int .i64 x)) (.returned v) w) e f w)) hq ⟨_, S0, (Inc.rfl _), rfl, rfl, rfl, rfl⟩ ?_ ?_) ?_
  ·
    clear hp hq
    rintro i22 y21 s22 f43 w42 ⟨H39, S40, i41, k44, k45, k46, k47⟩ hx22 o55 hp
    refine FW.seq ?_
    refine FW.region ?_
    refine FL.val rfl rfl rfl (E.lssT k44 k47 (lss_len hx22)) ?_
    refine FL.nil ?_
    refine FW.seq ?_
    refine FW.condT rfl rfl ?_
    refine FW.skip ?_
    refine FW.seq ?_
    refine FW.block ?_
    refine FW.seq ?_
    refine FW.region ?_
    obtain ⟨p48, cs49, pt50, l51, at52, rel53⟩ := p0.at (ix_nat hx22)
    obtain rfl := eI_open rel53
    refine FL.val rfl rfl rfl (E.indexAddr te41 k46 k44 pt50) ?_
    refine FL.val rfl rfl rfl (E.load rfl (run_load0 Tryz.isAgg3 ((at52.mono i41).now S40.sl) rfl)) ?_
    refine FL.val rfl rfl rfl (E.assign (v := Value.int .i64 y21) rfl) ?_
    refine FL.nil ?_
    refine FW.seq ?_
    refine FW.region ?_
    refine FL.val rfl rfl rfl (E.move (v := Value.int .i64 y21) rfl) ?_
    refine FL.val rfl rfl rfl (E.move k45) ?_
    refine FL.val rfl rfl rfl (E.neq rfl rfl) ?_
    refine FL.nil ?_
    rcases ifB hp with ⟨c54, hp⟩ | ⟨c54, hp⟩
    ·
      refine FW.condT rfl c54 ?_
      refine FW.seq ?_
      refine FW.region ?_
      refine FL.val rfl rfl rfl (E.move (v := Value.int .i64 y21) rfl) ?_
      refine FL.val rfl rfl rfl (E.assign (v := Value.int .i64 y21) rfl) ?_
      refine FL.nil ?_
      refine FW.ret ?_
      obtain rfl := Option.some.inj hp
      exact ⟨nofun, rfl, ⟨.inr rfl, res1 rfl rfl ⟨rfl, S40.back⟩⟩⟩
    ·
      refine FW.condF rfl c54 ?_
      refine FW.skip ?_
      refine FW.region ?_
      refine FL.val rfl rfl rfl (E.add k44 rfl) ?_
      refine FL.val rfl rfl rfl (E.move (v := Value.int .i64 (wr (((i22 : Nat) : Int) + 1))) rfl) ?_
      refine FL.nil ?_
      obtain rfl := Option.some.inj hp
      exact ⟨rfl, ⟨_, S40, i41, (nat_succ rfl (lt_of_get hx22) (p0.mono i41).le), k45, k46, k47⟩⟩
  ·
    clear hp hq
    rintro s22 f66 w65 ⟨H62, S63, i64, k67, k68, k69, k70⟩
    refine FW.seq ?_
    refine FW.region ?_
    refine FL.val rfl rfl rfl (E.lss k67 k70) ?_
    refine FL.nil ?_
    refine FW.seq ?_
    refine FW.condF rfl dlt_len ?_
    refine FW.exit ?_
    exact ⟨nofun, rfl, ⟨_, S63, i64, k68⟩⟩
  ·
    clear hq
    intro e f60 w59 hD
    rcases q22 with s22 | x22
    ·
      obtain ⟨rfl, hD⟩ := hD
      obtain ⟨H56, S57, i58, k61⟩ := hD
      replace hp := el_go hp
      refine FW.seq ?_
      refine FW.region ?_
      refine FL.val rfl rfl rfl (E.move k61) ?_
      refine FL.val rfl rfl rfl (E.assign (v := Value.int .i64 0) rfl) ?_
      refine FL.nil ?_
      refine FW.ret ?_
      obtain rfl := Option.some.inj hp
      exact ⟨.inr rfl, res1 rfl rfl ⟨rfl, S57.back⟩⟩
    ·
      obtain ⟨he, hL⟩ := hD
      replace hp := el_rt hp
      obtain rfl := Option.some.inj hp
      subst he
      exact hL

theorem w_impl_compareLiterals {Ha : GH} {wa : World} (hs : Sl Ha wa) (a0 : Int) (a1 : Int) {r : Int} (hp : (PF.impl_compareLiterals a0 a1) = some r) :
    Calls Tryz.prog 66 #[Value.int .i64 a0, Value.int .i64 a1] wa (Sc Ha wa (Value.int .i64 r)) := by
  unfold PF.impl_compareLiterals at hp
  have S0 := St.init hs
  refine calls_go (N := 15) (args := [Value.int .i64 a0, Value.int .i64 a1]) Tryz.func66 rfl rfl rfl ?_
  refine FW.seq ?_
  refine FW.region ?_
  refine FL.val rfl rfl rfl (E.assign (v := Value.int .i64 0) rfl) ?_
  refine FL.nil ?_
  refine FW.seq ?_
  refine FW.region ?_
  refine FL.val rfl rfl rfl (E.move (v := Value.int .i64 a0) rfl) ?_
  refine FL.call rfl rfl rfl (E.call Tryz.call71 (A1 rfl)) (w_impl_abs S0.sl a0) ?_
  rintro e w21 ⟨rfl, r22⟩
  refine ⟨_, rfl, ?_⟩
  have S23 := S0.call r22
  refine FL.val rfl rfl rfl (E.move (v := Value.int .i64 a1) rfl) ?_
  refine FL.call rfl rfl rfl (E.call Tryz.call71 (A1 rfl)) (w_impl_abs S23.sl a1) ?_
  rintro e w24 ⟨rfl, r25⟩
  refine ⟨_, rfl, ?_⟩
  have S26 := S23.call r25
  refine FL.call rfl rfl rfl (E.call Tryz.call84 (A2 rfl rfl)) (w_cmp_Compare_int S26.sl (PF.impl_abs a0) (PF.impl_abs a1)) ?_
  rintro e w27 ⟨rfl, r28⟩
  refine ⟨_, rfl, ?_⟩
  have S29 := S26.call r28
  refine FL.val rfl rfl rfl (E.move (v := Value.int .i64 a1) rfl) ?_
  refine FL.val rfl rfl rfl (E.move (v := Value.int .i64 a0) rfl) ?_
  refine FL.call rfl rfl rfl (E.call Tryz.call84 (A2 rfl rfl)) (w_cmp_Compare_int S29.sl a1 a0) ?_
  rintro e w30 ⟨rfl, r31⟩
  refine ⟨_, rfl, ?_⟩
  have S32 := S29.call r31
  obtain ⟨v33, w34, run35, S36⟩ := S32.buildSlice (P := Tryz.prog) te41 [Value.int .i64 (PF.cmp_Compare_int (PF.impl_abs a0) (PF.impl_abs a1)), Value.int .i64 (PF.cmp_Compare_int a1 a0)] (parts := #[(0, Value.int .i64 (PF.cmp_Compare_int (PF.impl_abs a0) (PF.impl_abs a1))), (1, Value.int .i64 (PF.cmp_Compare_int a1 a0))]) (cells := [Value.int .i64 (PF.cmp_Compare_int (PF.impl_abs a0) (PF.impl_abs a1)), Value.int .i64 (PF.cmp_Compare_int a1 a0)]) rfl (szs_cons rfl (szs_cons rfl szs_nil)) (fc_cons rfl (fc_cons rfl fc_nil)) (ones_cons rfl (ones_cons rfl ones_nil)) (Nat.le_of_ble_eq_true rfl)
  have els37 : Els (up wa.heap.size Ha) eI 1 [Value.int .i64 (PF.cmp_Compare_int (PF.impl_abs a0) (PF.impl_abs a1)), Value.int .i64 (PF.cmp_Compare_int a1 a0)] [(PF.cmp_Compare_int (PF.impl_abs a0) (PF.impl_abs a1)), (PF.cmp_Compare_int a1 a0)] := (Els.snoc (H := (up wa.heap.size Ha)) (E := eI) (k := 1) (c := [Value.int .i64 (PF.cmp_Compare_int a1 a0)]) (x := (PF.cmp_Compare_int a1 a0)) (Els.snoc (H := (up wa.heap.size Ha)) (E := eI) (k := 1) (c := [Value.int .i64 (PF.cmp_Compare_int (PF.impl_abs a0) (PF.impl_abs a1))]) (x := (PF.cmp_Compare_int (PF.impl_abs a0) (PF.impl_abs a1))) Els.nil rfl rfl) rfl rfl)
  refine FL.val rfl rfl rfl (E.buildSlice (B2 rfl rfl) run35) ?_
  obtain ⟨H38, S39, i40, h41, nv42⟩ := S36.sealRowU (i := 0) (l' := []) rfl els37 (by decide) rfl
  obtain ⟨r43, hr44, hp⟩ := bnd hp
  refine FL.call rfl rfl rfl (E.call Tryz.call83 (A1 rfl)) (w_cmp_Or_int S39.sl v33 [(PF.cmp_Compare_int (PF.impl_abs a0) (PF.impl_abs a1)), (PF.cmp_Compare_int a1 a0)] (h41.mono upI) hr44) ?_
  rintro e w45 ⟨rfl, r46⟩
  refine ⟨_, rfl, ?_⟩
  have r46 := Run.lend i40 S36.sl r46
  have S47 := S36.call r46
  refine FL.val rfl rfl rfl (E.assign (v := Value.int .i64 r43) rfl) ?_
  refine FL.nil ?_
  refine FW.ret ?_
  obtain rfl := Option.some.inj hp
  exact ⟨.inr rfl, res1 rfl rfl ⟨rfl, S47.back⟩⟩

@[reducible] def p_slices_Compact_int_int (H0 : GH) (w0 : World) (Ha : GH) (L : List MO) (r : (List Int)) : Ending → World → Prop :=
  fun e w' => ∃ H' : GH, ∃ v0r : Value, ∃ n0r : Nat, ∃ c0r : List Value, e = .returned (v0r) ∧ (St H0 w0 H' w' (.row 3 1 v0r n0r c0r :: L) ∧ Inc Ha H') ∧ Els (up w0.heap.size H') eI 1 c0r r
theorem w_slices_Compact_int_int {H0 Ha : GH} {w0 wa : World} {L : List MO} {v0 : Value} {n0 : Nat} {k0 : List Value} (S0 : St H0 w0 Ha wa (.row 3 1 v0 n0 k0 :: L)) (a0 : List Int) (p0 : Els (up w0.heap.size Ha) eI 1 k0 a0) {r : (List Int)} (hp : (PF.slices_Compact_int_int a0) = some r) :
    Calls Tryz.prog 67 #[v0] wa (p_slices_Compact_int_int H0 w0 Ha L r) := by
  cases hp
  refine (St.compactF (l := .row 3 1 v0 n0 k0 :: L) (i := 0) S0 rfl p0 (enc := Value.int .i64) (fun _ => rfl) (fun _ _ _ h => by cases eI_open h; rfl) (fun _ _ => rfl) 0 (fun w => compact_none Tryz.comp67 w) (fun blk off cap d w hH hs hc => AnyE.slices_Compact Tryz.comp67 (Value.int .i64) (fun _ => rfl) (EqlAt.intD _ _ _) (NeqAt.intD _ _ _) 0 (fun w => Tryz.zeroValue3 w) blk off cap d w hH hs hc)).mono ?_
  rintro e w' ⟨v', n', c', rfl, h1, h2⟩
  exact ⟨_, _, _, _, rfl, ⟨h1, Inc.rfl _⟩, h2⟩

@[reducible] def p_impl_clause (Ha : GH) (wa : World) (r : ((List Int) × Bool)) : Ending → World → Prop :=
  fun e w' => ∃ H' : GH, ∃ v0 : Value, ∃ n0 : Nat, ∃ c0 : List Value, e = .returned (Value.tuple #[v0, Value.bool r.2]) ∧ St Ha wa H' w' [.row 3 1 v0 n0 c0] ∧ Els (up wa.heap.size H') eI 1 c0 r.1
theorem w_impl_clause {Ha : GH} {wa : World} (hs : Sl Ha wa) (v0 : Value) (a0 : List Int) (p0 : RSl Ha eI 1 v0 a0) {r : ((List Int) × Bool)} (hp : (PF.impl_clause a0) = some r) :
    Calls Tryz.prog 48 #[v0] wa (p_impl_clause Ha wa r) := by
  unfold PF.impl_clause at hp
  have S0 := St.init hs
  refine calls_go (N := 30) (args := [v0]) Tryz.func48 rfl rfl rfl ?_
  refine FW.seq ?_
  refine FW.region ?_
  refine FL.val rfl rfl rfl (E.assign (v := Value.slice none 0 0) rfl) ?_
  refine FL.val rfl rfl rfl (E.assign (v := Value.bool false) rfl) ?_
  refine FL.nil ?_
  refine FW.seq ?_
  refine FW.region ?_
  refine FL.val rfl rfl rfl (E.move (v := v0) rfl) ?_
  obtain ⟨r21, hr22, hp⟩ := bnd hp
  refine FL.call rfl rfl rfl (E.call Tryz.call51 (A1 rfl)) (w_slices_Clone_int_int S0.sl v0 a0 p0 hr22) ?_
  rintro e w24 ⟨H23, v27, n28, cs29, rfl, r26, els30⟩
  refine ⟨_, rfl, ?_⟩
  have els30 := els30.mono (up_le S0.size)
  have S25 := S0.join (l' := [.row 3 1 v27 n28 cs29]) r26 rfl
  refine FL.val rfl rfl rfl (E.assign (v := v27) rfl) ?_
  refine FL.nil ?_
  refine FW.seq ?_
  refine FW.region ?_
  refine FL.val rfl rfl rfl (E.move (v := v27) rfl) ?_
  obtain ⟨r31, hr32, hp⟩ := bnd hp
  refine FL.call rfl rfl rfl (E.call Tryz.call65 (A2 rfl rfl)) (w_slices_SortFunc_int_int (L := []) S25 r21 els30 (Value.func (.func 66) #[] #[]) (fun x0 x1 => PF.impl_compareLiterals x0 x1) (fun H2 w2 hi2 hs2 x0 x1 r hr => ⟨66, #[], rfl, Tryz.call66, w_impl_compareLiterals hs2 x0 x1  hr⟩) hr32) ?_
  rintro e w34 ⟨H33, cs37, rfl, ⟨S35, i36⟩, els38⟩
  refine ⟨_, rfl, ?_⟩
  have S35 : St Ha wa H33 w34 [.row 3 1 v27 n28 cs37] := S35
  refine FL.nil ?_
  refine FW.seq ?_
  refine FW.region ?_
  refine FL.val rfl rfl rfl (E.move (v := v27) rfl) ?_
  obtain ⟨r39, hr40, hp⟩ := bnd hp
  refine FL.call rfl rfl rfl (E.call Tryz.call67 (A1 rfl)) (w_slices_Compact_int_int (L := []) S35 r31 els38 hr40) ?_
  rintro e w42 ⟨H41, v45, n46, cs47, rfl, ⟨S43, i44⟩, els48⟩
  refine ⟨_, rfl, ?_⟩
  have S43 : St Ha wa H41 w42 [.row 3 1 v45 n46 cs47] := S43
  refine FL.val rfl rfl rfl (E.assign (v := v45) rfl) ?_
  refine FL.nil ?_
  refine FW.seq ?_
  refine FW.seq ?_
  refine FW.region ?_
  refine FL.val rfl rfl rfl (E.assign (v := Value.int .i64 1) rfl) ?_
  refine FL.nil ?_
  obtain ⟨q49, hq, hp⟩ := bndR hp
  refine FW.block ?_
  refine FW.mono (FW.iter (S := Int) (X := ((List Int) × Bool)) (fun (s49 : Int) f w => ∃ H : GH, St Ha wa H w [.row 3 1 v45 n46 cs47] ∧ Inc H41 H ∧ f 4 = v45 ∧ f 5 = Value.int .i64 s49) (fun q e f w => match q with | .go s49 => e = Exit.exit 0 ∧ (∃ H : GH, St Ha wa H w [.row 3 1 v45 n46 cs47] ∧ Inc H41 H ∧ f 4 = v45) | .rt x => ((e = Exit.ret) ∧ (fun e f w => (e = Exit.normal ∨ e = Exit.ret) ∧ ∀ a, Fr 30 a f → ∃ v, (results Tryz.f48 a.tmps).run Tryz.prog w = .ok v w ∧ (p_impl_clause Ha wa x) (.returned v) w) e f w)) hq ⟨_, S43, (Inc.rfl _), rfl, rfl⟩ ?_) ?_
  ·
    clear hp hq
    rintro s49 f83 w82 ⟨H79, S80, i81, k84, k85⟩ o108 hp
    refine FW.seq ?_
    refine FW.seq ?_
    refine FW.region ?_
    refine FL.val rfl rfl rfl (E.move k85) ?_
    refine FL.val rfl rfl rfl (E.move k84) ?_
    refine FL.val rfl rfl rfl (E.lenO te41 rfl S80 (i := 0) rfl els48 (by decide)) ?_
    refine FL.val rfl rfl rfl (E.lss rfl rfl) ?_
    refine FL.nil ?_
    rcases ifB hp with ⟨c86, hp⟩ | ⟨c86, hp⟩
    ·
      refine FW.condT rfl c86 ?_
      refine FW.skip ?_
      refine FW.seq ?_
      refine FW.block ?_
      refine FW.seq ?_
      refine FW.draw (fun w' => Run w82.heap.size H79 w82 H79 w') (by kernel_rfl) (by kernel_rfl) (run_drew S80.sl) ?_
      refine FD.val rfl rfl rfl (fun w' hw' => (E.move k84)) ?_
      refine FD.val rfl rfl rfl (fun w' hw' => (E.move k85)) ?_
      obtain ⟨x94, hx95, hp⟩ := bnd hp
      obtain ⟨p88, cs89, pt90, l91, at92, rel93⟩ := S80.row_at (i := 0) rfl els48 (by decide) hx95
      obtain rfl := eI_open rel93
      refine FD.val rfl rfl rfl (fun w' hw' => (E.indexAddr te41 rfl rfl pt90)) ?_
      refine FD.val rfl rfl rfl (fun w' hw' => (E.load rfl (run_load0 Tryz.isAgg3 (at92.cls hw') rfl))) ?_
      refine FD.val rfl rfl rfl (fun w' hw' => (E.move k84)) ?_
      refine FD.val rfl rfl rfl (fun w' hw' => (E.move k85)) ?_
      refine FD.val rfl rfl rfl (fun w' hw' => (E.sub rfl rfl)) ?_
      obtain ⟨x102, hx103, hp⟩ := bnd hp
      obtain ⟨p96, cs97, pt98, l99, at100, rel101⟩ := S80.row_at (i := 0) rfl els48 (by decide) hx103
      obtain rfl := eI_open rel101
      refine FD.val rfl rfl rfl (fun w' hw' => (E.indexAddr te41 rfl rfl pt98)) ?_
      refine FD.val rfl rfl rfl (fun w' hw' => (E.load rfl (run_load0 Tryz.isAgg3 (at100.cls hw') rfl))) ?_
      refine FD.val rfl rfl rfl (fun w' hw' => (E.neg rfl)) ?_
      refine FD.val rfl rfl rfl (fun w' hw' => (E.eql rfl rfl)) ?_
      refine FD.nil ?_
      intro w104 r106
      have S105 := S80.call r106
      rcases ifB hp with ⟨c107, hp⟩ | ⟨c107, hp⟩
      ·
        refine FW.condT rfl c107 ?_
        refine FW.seq ?_
        refine FW.region ?_
        refine FL.val rfl rfl rfl (E.assign (v := Value.slice none 0 0) rfl) ?_
        refine FL.val rfl rfl rfl (E.assign (v := Value.bool false) rfl) ?_
        refine FL.nil ?_
        refine FW.ret ?_
        obtain rfl := Option.some.inj hp
        exact ⟨nofun, rfl, ⟨.inr rfl, res2 rfl rfl rfl ⟨_, _, _, _, rfl, ((S105.nil 3 1).sel [0] (by decide) rfl), Els.nil⟩⟩⟩
      ·
        refine FW.condF rfl c107 ?_
        refine FW.skip ?_
        refine FW.region ?_
        refine FL.val rfl rfl rfl (E.move k85) ?_
        refine FL.val rfl rfl rfl (E.add rfl rfl) ?_
        refine FL.val rfl rfl rfl (E.assign (v := Value.int .i64 (wr (s49 + 1))) rfl) ?_
        refine FL.nil ?_
        obtain rfl := Option.some.inj hp
        exact ⟨rfl, ⟨_, S105, i81, k84, rfl⟩⟩
    ·
      refine FW.condF rfl c86 ?_
      refine FW.exit ?_
      obtain rfl := Option.some.inj hp
      exact ⟨nofun, rfl, ⟨_, S80, i81, k84⟩⟩
  ·
    clear hq
    intro e f113 w112 hD
    rcases q49 with s49 | x49
    ·
      obtain ⟨rfl, hD⟩ := hD
      obtain ⟨H109, S110, i111, k114⟩ := hD
      replace hp := el_go hp
      refine FW.seq ?_
      refine FW.region ?_
      refine FL.val rfl rfl rfl (E.move k114) ?_
      refine FL.val rfl rfl rfl (E.assign (v := v45) rfl) ?_
      refine FL.val rfl rfl rfl (E.assign (v := Value.bool true) rfl) ?_
      refine FL.nil ?_
      refine FW.ret ?_
      obtain rfl := Option.some.inj hp
      exact ⟨.inr rfl, res2 rfl rfl rfl ⟨_, _, _, _, rfl, S110, (els48.mono (up_mono i111))⟩⟩
    ·
      obtain ⟨he, hL⟩ := hD
      replace hp := el_rt hp
      obtain rfl := Option.some.inj hp
      subst he
      exact hL

@[reducible] def p_impl_resolve (Ha : GH) (wa : World) (r : ((List Int) × Bool)) : Ending → World → Prop :=
  fun e w' => ∃ H' : GH, ∃ v0 : Value, ∃ n0 : Nat, ∃ c0 : List Value, e = .returned (Value.tuple #[v0, Value.bool r.2]) ∧ St Ha wa H' w' [.row 3 1 v0 n0 c0] ∧ Els (up wa.heap.size H') eI 1 c0 r.1
theorem w_impl_resolve {Ha : GH} {wa : World} (hs : Sl Ha wa) (v0 : Value) (a0 : List Int) (p0 : RSl Ha eI 1 v0 a0) (v1 : Value) (a1 : List Int) (p1 : RSl Ha eI 1 v1 a1) (a2 : Int) {r : ((List Int) × Bool)} (hp : (PF.impl_resolve a0 a1 a2) = some r) :
    Calls Tryz.prog 26 #[v0, v1, Value.int .i64 a2] wa (p_impl_resolve Ha wa r) := by
  unfold PF.impl_resolve at hp
  have S0 := St.init hs
  refine calls_go (N := 30) (args := [v0, v1, Value.int .i64 a2]) Tryz.func26 rfl rfl rfl ?_
  refine FW.seq ?_
  refine FW.region ?_
  refine FL.val rfl rfl rfl (E.assign (v := Value.slice none 0 0) rfl) ?_
  refine FL.val rfl rfl rfl (E.assign (v := Value.bool false) rfl) ?_
  refine FL.nil ?_
  refine FW.seq ?_
  refine FW.seq ?_
  refine FW.region ?_
  refine FL.val rfl rfl rfl (E.move (v := v0) rfl) ?_
  refine FL.val rfl rfl rfl (E.move (v := Value.int .i64 a2) rfl) ?_
  obtain ⟨r21, hr22, hp⟩ := bnd hp
  refine FL.call rfl rfl rfl (E.call Tryz.call47 (A2 rfl rfl)) (w_slices_Contains_int_int S0.sl v0 a0 p0 a2 hr22) ?_
  rintro e w23 ⟨rfl, r24⟩
  refine ⟨_, rfl, ?_⟩
  have S25 := S0.call r24
  refine FL.val rfl rfl rfl (E.not rfl) ?_
  refine FL.val rfl rfl rfl (E.move (v := Value.bool (!r21)) rfl) ?_
  obtain ⟨t31, hqt31, hp⟩ := bnd hp
  refine FL.cut 6 (fun f w => ∃ H : GH, St Ha wa H w [] ∧ Inc Ha H ∧ f 0 = v0 ∧ f 1 = v1 ∧ f 2 = Value.int .i64 a2 ∧ f 18 = Value.bool t31) ?_ ?_
  ·
    clear hp; have hp := hqt31; clear hqt31
    rcases ifB hp with ⟨c37, hp⟩ | ⟨c37, hp⟩
    ·
      refine FL.skip (wF_no rfl rfl rfl c37) rfl ?_
      refine FL.skip (wF_no rfl rfl rfl c37) rfl ?_
      refine FL.skip (wF_no rfl rfl rfl c37) rfl ?_
      refine FL.skip (wF_no rfl rfl rfl c37) rfl ?_
      refine FL.skip (wF_no rfl rfl rfl c37) rfl ?_
      obtain rfl := Option.some.inj hp
      refine FL.val rfl rfl rfl (E.pickT rfl c37 rfl) ?_
      exact FL.nil ⟨rfl, _, S25, (Inc.rfl _), rfl, rfl, rfl, rfl⟩
    ·
      refine FL.val (wF_yes rfl rfl rfl c37) rfl rfl (E.move (v := v1) rfl) ?_
      refine FL.val (wF_yes rfl rfl rfl c37) rfl rfl (E.move (v := Value.int .i64 a2) rfl) ?_
      refine FL.val (wF_yes rfl rfl rfl c37) rfl rfl (E.neg rfl) ?_
      obtain ⟨r38, hr39, hp⟩ := bnd hp
      refine FL.call (wF_yes rfl rfl rfl c37) rfl rfl (E.call Tryz.call47 (A2 rfl rfl)) (w_slices_Contains_int_int S25.sl v1 a1 p1 (wr (-a2)) hr39) ?_
      rintro e w40 ⟨rfl, r41⟩
      refine ⟨_, rfl, ?_⟩
      have S42 := S25.call r41
      refine FL.val (wF_yes rfl rfl rfl c37) rfl rfl (E.not rfl) ?_
      obtain rfl := Option.some.inj hp
      refine FL.val rfl rfl rfl (E.pickF rfl c37 rfl) ?_
      exact FL.nil ⟨rfl, _, S42, (Inc.rfl _), rfl, rfl, rfl, rfl⟩
  rintro f36 w35 ⟨H32, S33, i34, k43, k44, k45, k46⟩
  refine FL.nil ?_
  rcases ifB hp with ⟨c47, hp⟩ | ⟨c47, hp⟩
  ·
    refine FW.condT k46 c47 ?_
    refine FW.seq ?_
    refine FW.region ?_
    refine FL.val rfl rfl rfl (E.assign (v := Value.slice none 0 0) rfl) ?_
    refine FL.val rfl rfl rfl (E.assign (v := Value.bool false) rfl) ?_
    refine FL.nil ?_
    refine FW.ret ?_
    obtain rfl := Option.some.inj hp
    exact ⟨.inr rfl, res2 rfl rfl rfl ⟨_, _, _, _, rfl, (S33.nil 3 1), Els.nil⟩⟩
  ·
    refine FW.condF k46 c47 ?_
    refine FW.skip ?_
    refine FW.seq ?_
    refine FW.region ?_
    refine FL.val rfl rfl rfl (E.move k43) ?_
    refine FL.val rfl rfl rfl (E.move k45) ?_
    obtain ⟨r48, hr49, hp⟩ := bnd hp
    refine FL.call rfl rfl rfl (E.call Tryz.call50 (A2 rfl rfl)) (w_impl_withoutVar S33.sl v0 a0 (p0.mono i34) a2 hr49) ?_
    rintro e w51 ⟨H50, v54, n55, cs56, rfl, r53, els57⟩
    refine ⟨_, rfl, ?_⟩
    have els57 := els57.mono (up_le S33.size)
    have S52 := S33.join (l' := [.row 3 1 v54 n55 cs56]) r53 rfl
    refine FL.val rfl rfl rfl (E.move k44) ?_
    refine FL.val rfl rfl rfl (E.move k45) ?_
    obtain ⟨r58, hr59, hp⟩ := bnd hp
    refine FL.call rfl rfl rfl (E.call Tryz.call50 (A2 rfl rfl)) (w_impl_withoutVar S52.sl v1 a1 (p1.mono (i34.tr r53.run.inc)) a2 hr59) ?_
    rintro e w61 ⟨H60, v64, n65, cs66, rfl, r63, els67⟩
    refine ⟨_, rfl, ?_⟩
    have els67 := els67.mono (up_le S52.size)
    have S62 := S52.join (l' := [.row 3 1 v64 n65 cs66, .row 3 1 v54 n55 cs56]) r63 rfl
    obtain ⟨H68, S69, i70, h71, nv72⟩ := S62.sealRowU (i := 1) (l' := [.row 3 1 v64 n65 cs66]) rfl (els57.mono (up_mono r63.run.inc)) (by decide) rfl
    obtain ⟨H73, S74, i75, h76, nv77⟩ := S69.sealRowU (i := 0) (l' := []) rfl (els67.mono (up_mono i70)) (by decide) rfl
    obtain ⟨v78, w79, run80, S81⟩ := S74.buildSlice (P := Tryz.prog) te22 [v54, v64] (parts := #[(0, v54), (1, v64)]) (cells := [v54, v64]) rfl (szs_cons (cells_size h71.cells) (szs_cons (cells_size h76.cells) szs_nil)) (fc_cons h71.cells (fc_cons h76.cells fc_nil)) (ones_cons h71.one (ones_cons h76.one ones_nil)) (Nat.le_of_ble_eq_true rfl)
    have els82 : Els (up wa.heap.size H73) (eL eI 1) 1 [v54, v64] [r48, r58] := (Els.snoc (H := (up wa.heap.size H73)) (E := (eL eI 1)) (k := 1) (c := [v64]) (x := r58) (Els.snoc (H := (up wa.heap.size H73)) (E := (eL eI 1)) (k := 1) (c := [v54]) (x := r48) Els.nil rfl ⟨_, rfl, (h71.mono (up_mono i75))⟩) rfl ⟨_, rfl, h76⟩)
    refine FL.val rfl rfl rfl (E.buildSlice (B2 rfl rfl) run80) ?_
    obtain ⟨H83, S84, i85, h86, nv87⟩ := S81.sealRowU (i := 0) (l' := []) rfl els82 (by decide) rfl
    obtain ⟨r88, hr89, hp⟩ := bnd hp
    refine FL.call rfl rfl rfl (E.call Tryz.call49 (A1 rfl)) (w_slices_Concat_int_int S84.sl v78 [r48, r58] (h86.mono upI) hr89) ?_
    rintro e w91 ⟨H90, v96, n97, cs98, rfl, r93, els99⟩
    refine ⟨_, rfl, ?_⟩
    obtain ⟨H94, r93, hU95⟩ := St.lendX i85 S81.sl r93
    have els99 := els99.mono (hU95.tr (up_le S81.size))
    have S92 := S81.join (l' := [.row 3 1 v96 n97 cs98, .row 41 1 v78 2 [v54, v64]]) r93 rfl
    obtain ⟨H100, S101, i102, h103, nv104⟩ := S92.sealRowU (i := 0) (l' := [.row 41 1 v78 2 [v54, v64]]) rfl els99 (by decide) rfl
    obtain ⟨r105, hr106, hp⟩ := bnd hp
    refine FL.call rfl rfl rfl (E.call Tryz.call48 (A1 rfl)) (w_impl_clause S101.sl v96 r88 (h103.mono upI) hr106) ?_
    rintro e w108 ⟨H107, v113, n114, cs115, rfl, r110, els116⟩
    refine ⟨_, rfl, ?_⟩
    obtain ⟨H111, r110, hU112⟩ := St.lendX i102 S92.sl r110
    have els116 := els116.mono (hU112.tr (up_le S92.size))
    have S109 := S92.join (l' := [.row 3 1 v113 n114 cs115, .row 3 1 v96 n97 cs98, .row 41 1 v78 2 [v54, v64]]) r110 rfl
    refine FL.val rfl rfl rfl (E.extract (i := 0) rfl rfl) ?_
    refine FL.val rfl rfl rfl (E.extract (i := 1) rfl rfl) ?_
    refine FL.val rfl rfl rfl (E.assign (v := v113) rfl) ?_
    refine FL.val rfl rfl rfl (E.assign (v := Value.bool r105.2) rfl) ?_
    refine FL.nil ?_
    refine FW.ret ?_
    obtain rfl := Option.some.inj hp
    exact ⟨.inr rfl, res2 rfl rfl rfl ⟨_, _, _, _, rfl, (S109.sel [0] (by decide) rfl), els116⟩⟩

theorem w_impl_correct {Ha : GH} {wa : World} (hs : Sl Ha wa) (a0 : Cnf) (v0_1 : Value) (p0_1 : RSl Ha (eL eI 1) 1 v0_1 a0.clauses) (v1 : Value) (a1 : List ResStep) (p1 : RSl Ha eResStep 4 v1 a1) (a2 : Int) {r : Bool} (hp : (PF.impl_correct a0 a1 a2) = some r) :
    Calls Tryz.prog 63 #[Value.agg #[Value.int .i64 a0.vars, v0_1], v1, Value.int .i64 a2] wa (Sc Ha wa (Value.bool r)) := by
  unfold PF.impl_correct at hp
  have S0 := St.init hs
  refine calls_go (N := 105) (args := [Value.agg #[Value.int .i64 a0.vars, v0_1], v1, Value.int .i64 a2]) Tryz.func63 rfl rfl rfl ?_
  refine FW.seq ?_
  refine FW.region ?_
  obtain ⟨b21, w22, run23, S24⟩ := S0.box (P := Tryz.prog) 31 [Value.int .i64 a0.vars, v0_1] (v := Value.agg #[Value.int .i64 a0.vars, v0_1]) rfl (ones_cons rfl (ones_cons p0_1.one ones_nil))
  refine FL.val rfl rfl rfl (E.box rfl run23) ?_
  obtain ⟨H25, S26, i27, at28⟩ := S24.sealBox (i := 0) (l' := []) rfl rfl
  refine FL.val rfl rfl rfl (E.assign (v := Value.bool false) rfl) ?_
  refine FL.nil ?_
  refine FW.seq ?_
  refine FW.region ?_
  refine FL.val rfl rfl rfl (E.move (v := v1) rfl) ?_
  refine FL.val rfl rfl rfl (E.move (v := Value.int .i64 a2) rfl) ?_
  obtain ⟨x35, hx36, hp⟩ := bnd hp
  obtain ⟨p29, cs30, pt31, l32, at33, rel34⟩ := p1.at hx36
  obtain ⟨v37, rfl, h38⟩ := eResStep_open rel34
  refine FL.val rfl rfl rfl (E.indexAddr te28 rfl rfl pt31) ?_
  refine FL.val rfl rfl rfl (E.load rfl (run_loadA Tryz.isAgg50 Tryz.sizeOf50 ((at33.mono i27).now S26.sl) rfl)) ?_
  obtain ⟨b39, w40, run41, S42⟩ := S26.alloc (P := Tryz.prog) 50 [Value.slice none 0 0, Value.int .i64 0, Value.int .i64 0, Value.int .i64 0] Tryz.zeroValue50 rfl (ones_cons rfl (ones_cons rfl (ones_cons rfl (ones_cons rfl ones_nil))))
  refine FL.val rfl rfl rfl (E.alloc run41) ?_
  obtain ⟨w43, run44, S45⟩ := S42.store0 (P := Tryz.prog) (t := 50) (i := 0) (cs' := [v37, Value.int .i64 x35.left, Value.int .i64 x35.right, Value.int .i64 x35.pivot]) (l' := [.box b39 50 [v37, Value.int .i64 x35.left, Value.int .i64 x35.right, Value.int .i64 x35.pivot]]) (v := Value.agg #[v37, Value.int .i64 x35.left, Value.int .i64 x35.right, Value.int .i64 x35.pivot]) (c := [v37, Value.int .i64 x35.left, Value.int .i64 x35.right, Value.int .i64 x35.pivot]) rfl Tryz.sizeOf50 rfl rfl (ones_cons h38.one (ones_cons rfl (ones_cons rfl (ones_cons rfl ones_nil)))) (Nat.le_of_ble_eq_true rfl) rfl rfl
  refine FL.act rfl rfl (E.store rfl rfl run44) ?_
  obtain ⟨H46, S47, i48, at49⟩ := S45.sealBox (i := 0) (l' := []) rfl rfl
  refine FL.nil ?_
  refine FW.seq ?_
  refine FW.seq ?_
  refine FW.region ?_
  refine FL.val rfl rfl rfl (E.fieldAddr tf31_0 rfl) ?_
  refine FL.val rfl rfl rfl (E.load rfl (run_load1 Tryz.isAgg3 ((at28.mono i48).now S47.sl) rfl)) ?_
  refine FL.val rfl rfl rfl (E.fieldAddr tf50_0 rfl) ?_
  refine FL.val rfl rfl rfl (E.load rfl (run_load1 Tryz.isAgg41 (at49.now S47.sl) rfl)) ?_
  obtain ⟨r50, hr51, hp⟩ := bnd hp
  refine FL.call rfl rfl rfl (E.call Tryz.call61 (A2 rfl rfl)) (w_impl_IsClause S47.sl a0.vars v37 x35.clause (h38.mono (i27.tr i48)) hr51) ?_
  rintro e w52 ⟨rfl, r53⟩
  refine ⟨_, rfl, ?_⟩
  have S54 := S47.call r53
  refine FL.val rfl rfl rfl (E.not rfl) ?_
  refine FL.nil ?_
  rcases ifB hp with ⟨c55, hp⟩ | ⟨c55, hp⟩
  ·
    refine FW.condT rfl c55 ?_
    refine FW.seq ?_
    refine FW.region ?_
    refine FL.val rfl rfl rfl (E.assign (v := Value.bool false) rfl) ?_
    refine FL.nil ?_
    refine FW.ret ?_
    obtain rfl := Option.some.inj hp
    exact ⟨.inr rfl, res1 rfl rfl ⟨rfl, S54.back⟩⟩
  ·
    refine FW.condF rfl c55 ?_
    refine FW.skip ?_
    refine FW.seq ?_
    refine FW.seq ?_
    refine FW.region ?_
    refine FL.val rfl rfl rfl (E.fieldAddr tf50_1 rfl) ?_
    refine FL.val rfl rfl rfl (E.load rfl (run_load1 Tryz.isAgg3 (at49.now S54.sl) rfl)) ?_
    refine FL.val rfl rfl rfl (E.eql rfl rfl) ?_
    refine FL.nil ?_
    rcases ifB hp with ⟨c56, hp⟩ | ⟨c56, hp⟩
    ·
      refine FW.condT rfl c56 ?_
      refine FW.seq ?_
      refine FW.draw (fun w' => Run w52.heap.size H46 w52 H46 w') (by kernel_rfl) (by kernel_rfl) (run_drew S54.sl) ?_
      refine FD.val rfl rfl rfl (fun w' hw' => (E.fieldAddr tf50_3 rfl)) ?_
      refine FD.val rfl rfl rfl (fun w' hw' => (E.load rfl (run_load1 Tryz.isAgg3 (at49.now (S54.call hw').sl) rfl))) ?_
      refine FD.val rfl rfl rfl (fun w' hw' => (E.eql rfl rfl)) ?_
      refine FD.val rfl rfl rfl (fun w' hw' => (E.move (v := Value.bool (x35.pivot == 0)) rfl)) ?_
      refine FD.cut 8 (fun f => f 3 = Value.pointer (some ⟨b21, 0, none⟩) ∧ f 7 = Value.pointer (some ⟨b39, 0, none⟩) ∧ f 36 = Value.bool (bif (x35.pivot == 0) then (PF.impl_within x35.right 0 (wr ((len a0.clauses) - 1))) else false)) ?_ ?_
      ·
        rcases bcase (x35.pivot == 0) with c64 | c64
        ·
          refine FD.val (wF_yes rfl rfl rfl c64) rfl rfl (fun w' hw' => (E.fieldAddr tf50_2 rfl)) ?_
          refine FD.val (wF_yes rfl rfl rfl c64) rfl rfl (fun w' hw' => (E.load rfl (run_load1 Tryz.isAgg3 (at49.now (S54.call hw').sl) rfl))) ?_
          refine FD.val (wF_yes rfl rfl rfl c64) rfl rfl (fun w' hw' => (E.fieldAddr tf31_1 rfl)) ?_
          refine FD.val (wF_yes rfl rfl rfl c64) rfl rfl (fun w' hw' => (E.load rfl (run_load1 Tryz.isAgg22 ((at28.mono i48).now (S54.call hw').sl) rfl))) ?_
          refine FD.val (wF_yes rfl rfl rfl c64) rfl rfl (fun w' hw' => (E.lenP te22 rfl p0_1)) ?_
          refine FD.val (wF_yes rfl rfl rfl c64) rfl rfl (fun w' hw' => (E.sub rfl rfl)) ?_
          refine FD.call (wF_yes rfl rfl rfl c64) rfl rfl (fun w' hw' => (E.call Tryz.call46 (A3 rfl rfl rfl))) (fun w' hw' => Calls.cls hw' (w_impl_within (S54.call hw').sl x35.right 0 (wr ((len a0.clauses) - 1)))) ?_
          refine FD.val rfl rfl rfl (fun w' hw' => (E.pickT rfl c64 rfl)) ?_
          exact FD.nil ⟨rfl, rfl, (congrArg Value.bool (bifT c64).symm)⟩
        ·
          refine FD.skip (wF_no rfl rfl rfl c64) rfl ?_
          refine FD.skip (wF_no rfl rfl rfl c64) rfl ?_
          refine FD.skip (wF_no rfl rfl rfl c64) rfl ?_
          refine FD.skip (wF_no rfl rfl rfl c64) rfl ?_
          refine FD.skip (wF_no rfl rfl rfl c64) rfl ?_
          refine FD.skip (wF_no rfl rfl rfl c64) rfl ?_
          refine FD.skip (wF_no rfl rfl rfl c64) rfl ?_
          refine FD.val rfl rfl rfl (fun w' hw' => (E.pickF rfl c64 rfl)) ?_
          exact FD.nil ⟨rfl, rfl, (congrArg Value.bool (bifF c64).symm)⟩
      rintro f63 ⟨k65, k66, k67⟩
      refine FD.val rfl rfl rfl (fun w' hw' => (E.move k67)) ?_
      obtain ⟨t80, hqt80, hp⟩ := bnd hp
      refine FD.cut 10 (fun f => f 47 = Value.bool t80) ?_ ?_
      ·
        clear hp; have hp := hqt80; clear hqt80
        rcases ifB hp with ⟨c86, hp⟩ | ⟨c86, hp⟩
        ·
          refine FD.val (wF_yes rfl rfl rfl c86) rfl rfl (fun w' hw' => (E.fieldAddr tf31_1 k65)) ?_
          refine FD.val (wF_yes rfl rfl rfl c86) rfl rfl (fun w' hw' => (E.load rfl (run_load1 Tryz.isAgg22 ((at28.mono i48).now (S54.call hw').sl) rfl))) ?_
          refine FD.val (wF_yes rfl rfl rfl c86) rfl rfl (fun w' hw' => (E.fieldAddr tf50_2 k66)) ?_
          refine FD.val (wF_yes rfl rfl rfl c86) rfl rfl (fun w' hw' => (E.load rfl (run_load1 Tryz.isAgg3 (at49.now (S54.call hw').sl) rfl))) ?_
          obtain ⟨x93, hx94, hp⟩ := bnd hp
          obtain ⟨p87, cs88, pt89, l90, at91, rel92⟩ := p0_1.at hx94
          obtain ⟨v95, rfl, h96⟩ := eL_open rel92
          refine FD.val (wF_yes rfl rfl rfl c86) rfl rfl (fun w' hw' => (E.indexAddr te22 rfl rfl pt89)) ?_
          refine FD.val (wF_yes rfl rfl rfl c86) rfl rfl (fun w' hw' => (E.load rfl (run_load0 Tryz.isAgg41 ((at91.mono (i27.tr i48)).now (S54.call hw').sl) rfl))) ?_
          refine FD.val (wF_yes rfl rfl rfl c86) rfl rfl (fun w' hw' => (E.fieldAddr tf50_0 k66)) ?_
          refine FD.val (wF_yes rfl rfl rfl c86) rfl rfl (fun w' hw' => (E.load rfl (run_load1 Tryz.isAgg41 (at49.now (S54.call hw').sl) rfl))) ?_
          obtain ⟨r97, hr98, hp⟩ := bnd hp
          refine FD.call (wF_yes rfl rfl rfl c86) rfl rfl (fun w' hw' => (E.call Tryz.call78 (A2 rfl rfl))) (fun w' hw' => Calls.cls hw' (w_slices_Equal_int_int (S54.call hw').sl v95 x93 (h96.mono (i27.tr i48)) v37 x35.clause (h38.mono (i27.tr i48)) hr98)) ?_
          obtain rfl := Option.some.inj hp
          refine FD.val rfl rfl rfl (fun w' hw' => (E.pickT rfl c86 rfl)) ?_
          exact FD.nil rfl
        ·
          refine FD.skip (wF_no rfl rfl rfl c86) rfl ?_
          refine FD.skip (wF_no rfl rfl rfl c86) rfl ?_
          refine FD.skip (wF_no rfl rfl rfl c86) rfl ?_
          refine FD.skip (wF_no rfl rfl rfl c86) rfl ?_
          refine FD.skip (wF_no rfl rfl rfl c86) rfl ?_
          refine FD.skip (wF_no rfl rfl rfl c86) rfl ?_
          refine FD.skip (wF_no rfl rfl rfl c86) rfl ?_
          refine FD.skip (wF_no rfl rfl rfl c86) rfl ?_
          refine FD.skip (wF_no rfl rfl rfl c86) rfl ?_
          obtain rfl := Option.some.inj hp
          refine FD.val rfl rfl rfl (fun w' hw' => (E.pickF rfl c86 rfl)) ?_
          exact FD.nil rfl
      intro f85 k99
      refine FD.val rfl rfl rfl (fun w' hw' => (E.assign k99)) ?_
      refine FD.nil ?_
      intro w100 r102
      have S101 := S54.call r102
      refine FW.ret ?_
      obtain rfl := Option.some.inj hp
      exact ⟨.inr rfl, res1 rfl rfl ⟨rfl, S101.back⟩⟩
    ·
      refine FW.condF rfl c56 ?_
      refine FW.skip ?_
      refine FW.seq ?_
      refine FW.region ?_
      refine FL.val rfl rfl rfl (E.load rfl (run_loadA Tryz.isAgg31 Tryz.sizeOf31 ((at28.mono i48).now S54.sl) rfl)) ?_
      refine FL.val rfl rfl rfl (E.move (v := v1) rfl) ?_
      refine FL.val rfl rfl rfl (E.move (v := Value.int .i64 a2) rfl) ?_
      refine FL.val rfl rfl rfl (E.fieldAddr tf50_1 rfl) ?_
      refine FL.val rfl rfl rfl (E.load rfl (run_load1 Tryz.isAgg3 (at49.now S54.sl) rfl)) ?_
      obtain ⟨r103, hr104, hp⟩ := bnd hp
      refine FL.call rfl rfl rfl (E.call Tryz.call79 (A4 rfl rfl rfl rfl)) (w_impl_earlier S54.sl a0 v0_1 (p0_1.mono (i27.tr i48)) v1 a1 (p1.mono (i27.tr i48)) a2 x35.left hr104) ?_
      rintro e w106 ⟨H105, v109, rfl, r108, h110⟩
      refine ⟨_, rfl, ?_⟩
      have S107 := S54.call r108
      refine FL.val rfl rfl rfl (E.move (v := Value.tuple #[v109, Value.bool r103.2]) rfl) ?_
      refine FL.val rfl rfl rfl (E.extract (i := 0) rfl rfl) ?_
      refine FL.val rfl rfl rfl (E.extract (i := 1) rfl rfl) ?_
      refine FL.val rfl rfl rfl (E.assign (v := v109) rfl) ?_
      refine FL.val rfl rfl rfl (E.assign (v := Value.bool r103.2) rfl) ?_
      refine FL.nil ?_
      refine FW.seq ?_
      refine FW.seq ?_
      refine FW.region ?_
      refine FL.val rfl rfl rfl (E.move (v := Value.bool r103.2) rfl) ?_
      refine FL.val rfl rfl rfl (E.not rfl) ?_
      refine FL.nil ?_
      rcases ifB hp with ⟨c111, hp⟩ | ⟨c111, hp⟩
      ·
        refine FW.condT rfl c111 ?_
        refine FW.seq ?_
        refine FW.region ?_
        refine FL.val rfl rfl rfl (E.assign (v := Value.bool false) rfl) ?_
        refine FL.nil ?_
        refine FW.ret ?_
        obtain rfl := Option.some.inj hp
        exact ⟨.inr rfl, res1 rfl rfl ⟨rfl, S107.back⟩⟩
      ·
        refine FW.condF rfl c111 ?_
        refine FW.skip ?_
        refine FW.seq ?_
        refine FW.seq ?_
        refine FW.region ?_
        refine FL.val rfl rfl rfl (E.fieldAddr tf50_2 rfl) ?_
        refine FL.val rfl rfl rfl (E.load rfl (run_load1 Tryz.isAgg3 ((at49.mono r108.inc).now S107.sl) rfl)) ?_
        refine FL.val rfl rfl rfl (E.eql rfl rfl) ?_
        refine FL.nil ?_
        rcases ifB hp with ⟨c112, hp⟩ | ⟨c112, hp⟩
        ·
          refine FW.condT rfl c112 ?_
          refine FW.seq ?_
          refine FW.region ?_
          refine FL.val rfl rfl rfl (E.fieldAddr tf50_3 rfl) ?_
          refine FL.val rfl rfl rfl (E.load rfl (run_load1 Tryz.isAgg3 ((at49.mono r108.inc).now S107.sl) rfl)) ?_
          refine FL.val rfl rfl rfl (E.eql rfl rfl) ?_
          refine FL.val rfl rfl rfl (E.move (v := Value.bool (x35.pivot == 0)) rfl) ?_
          obtain ⟨t118, hqt118, hp⟩ := bnd hp
          refine FL.cut 5 (fun f w => ∃ H : GH, St Ha wa H w [] ∧ Inc H105 H ∧ f 70 = Value.bool t118) ?_ ?_
          ·
            clear hp; have hp := hqt118; clear hqt118
            rcases ifB hp with ⟨c124, hp⟩ | ⟨c124, hp⟩
            ·
              refine FL.val (wF_yes rfl rfl rfl c124) rfl rfl (E.move (v := v109) rfl) ?_
              refine FL.val (wF_yes rfl rfl rfl c124) rfl rfl (E.fieldAddr tf50_0 rfl) ?_
              refine FL.val (wF_yes rfl rfl rfl c124) rfl rfl (E.load rfl (run_load1 Tryz.isAgg41 ((at49.mono r108.inc).now S107.sl) rfl)) ?_
              obtain ⟨r125, hr126, hp⟩ := bnd hp
              refine FL.call (wF_yes rfl rfl rfl c124) rfl rfl (E.call Tryz.call80 (A2 rfl rfl)) (w_impl_part S107.sl v109 r103.1 h110 v37 x35.clause (h38.mono ((i27.tr i48).tr r108.inc)) hr126) ?_
              rintro e w127 ⟨rfl, r128⟩
              refine ⟨_, rfl, ?_⟩
              have S129 := S107.call r128
              obtain rfl := Option.some.inj hp
              refine FL.val rfl rfl rfl (E.pickT rfl c124 rfl) ?_
              exact FL.nil ⟨rfl, _, S129, (Inc.rfl _), rfl⟩
            ·
              refine FL.skip (wF_no rfl rfl rfl c124) rfl ?_
              refine FL.skip (wF_no rfl rfl rfl c124) rfl ?_
              refine FL.skip (wF_no rfl rfl rfl c124) rfl ?_
              refine FL.skip (wF_no rfl rfl rfl c124) rfl ?_
              obtain rfl := Option.some.inj hp
              refine FL.val rfl rfl rfl (E.pickF rfl c124 rfl) ?_
              exact FL.nil ⟨rfl, _, S107, (Inc.rfl _), rfl⟩
          rintro f123 w122 ⟨H119, S120, i121, k130⟩
          refine FL.val rfl rfl rfl (E.assign k130) ?_
          refine FL.nil ?_
          refine FW.ret ?_
          obtain rfl := Option.some.inj hp
          exact ⟨.inr rfl, res1 rfl rfl ⟨rfl, S120.back⟩⟩
        ·
          refine FW.condF rfl c112 ?_
          refine FW.skip ?_
          refine FW.seq ?_
          refine FW.region ?_
          refine FL.val rfl rfl rfl (E.load rfl (run_loadA Tryz.isAgg31 Tryz.sizeOf31 ((at28.mono (i48.tr r108.inc)).now S107.sl) rfl)) ?_
          refine FL.val rfl rfl rfl (E.move (v := v1) rfl) ?_
          refine FL.val rfl rfl rfl (E.move (v := Value.int .i64 a2) rfl) ?_
          refine FL.val rfl rfl rfl (E.fieldAddr tf50_2 rfl) ?_
          refine FL.val rfl rfl rfl (E.load rfl (run_load1 Tryz.isAgg3 ((at49.mono r108.inc).now S107.sl) rfl)) ?_
          obtain ⟨r131, hr132, hp⟩ := bnd hp
          refine FL.call rfl rfl rfl (E.call Tryz.call79 (A4 rfl rfl rfl rfl)) (w_impl_earlier S107.sl a0 v0_1 (p0_1.mono ((i27.tr i48).tr r108.inc)) v1 a1 (p1.mono ((i27.tr i48).tr r108.inc)) a2 x35.right hr132) ?_
          rintro e w134 ⟨H133, v137, rfl, r136, h138⟩
          refine ⟨_, rfl, ?_⟩
          have S135 := S107.call r136
          refine FL.val rfl rfl rfl (E.move (v := Value.tuple #[v137, Value.bool r131.2]) rfl) ?_
          refine FL.val rfl rfl rfl (E.extract (i := 0) rfl rfl) ?_
          refine FL.val rfl rfl rfl (E.extract (i := 1) rfl rfl) ?_
          refine FL.val rfl rfl rfl (E.assign (v := v137) rfl) ?_
          refine FL.val rfl rfl rfl (E.assign (v := Value.bool r131.2) rfl) ?_
          refine FL.nil ?_
          refine FW.seq ?_
          refine FW.seq ?_
          refine FW.region ?_
          refine FL.val rfl rfl rfl (E.move (v := Value.bool r131.2) rfl) ?_
          refine FL.val rfl rfl rfl (E.not rfl) ?_
          refine FL.val rfl rfl rfl (E.move (v := Value.bool (!r131.2)) rfl) ?_
          refine FL.cut 7 (fun f w => ∃ H : GH, St Ha wa H w [] ∧ Inc H133 H ∧ f 7 = Value.pointer (some ⟨b39, 0, none⟩) ∧ f 8 = v109 ∧ f 10 = v137 ∧ f 89 = Value.bool (bif (!r131.2) then true else (!(PF.impl_isVar a0.vars x35.pivot)))) ?_ ?_
          ·
            rcases bcase (!r131.2) with c148 | c148
            ·
              refine FL.skip (wF_no rfl rfl rfl c148) rfl ?_
              refine FL.skip (wF_no rfl rfl rfl c148) rfl ?_
              refine FL.skip (wF_no rfl rfl rfl c148) rfl ?_
              refine FL.skip (wF_no rfl rfl rfl c148) rfl ?_
              refine FL.skip (wF_no rfl rfl rfl c148) rfl ?_
              refine FL.skip (wF_no rfl rfl rfl c148) rfl ?_
              refine FL.val rfl rfl rfl (E.pickT rfl c148 rfl) ?_
              exact FL.nil ⟨rfl, _, S135, (Inc.rfl _), rfl, rfl, rfl, (congrArg Value.bool (bifT c148).symm)⟩
            ·
              refine FL.val (wF_yes rfl rfl rfl c148) rfl rfl (E.fieldAddr tf31_0 rfl) ?_
              refine FL.val (wF_yes rfl rfl rfl c148) rfl rfl (E.load rfl (run_load1 Tryz.isAgg3 ((at28.mono ((i48.tr r108.inc).tr r136.inc)).now S135.sl) rfl)) ?_
              refine FL.val (wF_yes rfl rfl rfl c148) rfl rfl (E.fieldAddr tf50_3 rfl) ?_
              refine FL.val (wF_yes rfl rfl rfl c148) rfl rfl (E.load rfl (run_load1 Tryz.isAgg3 ((at49.mono (r108.inc.tr r136.inc)).now S135.sl) rfl)) ?_
              refine FL.call (wF_yes rfl rfl rfl c148) rfl rfl (E.call Tryz.call25 (A2 rfl rfl)) (w_impl_isVar S135.sl a0.vars x35.pivot) ?_
              rintro e w149 ⟨rfl, r150⟩
              refine ⟨_, rfl, ?_⟩
              have S151 := S135.call r150
              refine FL.val (wF_yes rfl rfl rfl c148) rfl rfl (E.not rfl) ?_
              refine FL.val rfl rfl rfl (E.pickF rfl c148 rfl) ?_
              exact FL.nil ⟨rfl, _, S151, (Inc.rfl _), rfl, rfl, rfl, (congrArg Value.bool (bifF c148).symm)⟩
          rintro f147 w146 ⟨H143, S144, i145, k152, k153, k154, k155⟩
          refine FL.nil ?_
          rcases ifB hp with ⟨c156, hp⟩ | ⟨c156, hp⟩
          ·
            refine FW.condT k155 c156 ?_
            refine FW.seq ?_
            refine FW.region ?_
            refine FL.val rfl rfl rfl (E.assign (v := Value.bool false) rfl) ?_
            refine FL.nil ?_
            refine FW.ret ?_
            obtain rfl := Option.some.inj hp
            exact ⟨.inr rfl, res1 rfl rfl ⟨rfl, S144.back⟩⟩
          ·
            refine FW.condF k155 c156 ?_
            refine FW.skip ?_
            refine FW.seq ?_
            refine FW.region ?_
            refine FL.val rfl rfl rfl (E.move k153) ?_
            refine FL.val rfl rfl rfl (E.move k154) ?_
            refine FL.val rfl rfl rfl (E.fieldAddr tf50_3 k152) ?_
            refine FL.val rfl rfl rfl (E.load rfl (run_load1 Tryz.isAgg3 ((at49.mono ((r108.inc.tr r136.inc).tr i145)).now S144.sl) rfl)) ?_
            obtain ⟨r157, hr158, hp⟩ := bnd hp
            refine FL.call rfl rfl rfl (E.call Tryz.call26 (A3 rfl rfl rfl)) (w_impl_resolve S144.sl v109 r103.1 (h110.mono (r136.inc.tr i145)) v137 r131.1 (h138.mono i145) x35.pivot hr158) ?_
            rintro e w160 ⟨H159, v163, n164, cs165, rfl, r162, els166⟩
            refine ⟨_, rfl, ?_⟩
            have els166 := els166.mono (up_le S144.size)
            have S161 := S144.join (l' := [.row 3 1 v163 n164 cs165]) r162 rfl
            refine FL.val rfl rfl rfl (E.move (v := Value.tuple #[v163, Value.bool r157.2]) rfl) ?_
            refine FL.val rfl rfl rfl (E.extract (i := 0) rfl rfl) ?_
            refine FL.val rfl rfl rfl (E.extract (i := 1) rfl rfl) ?_
            refine FL.val rfl rfl rfl (E.assign (v := v163) rfl) ?_
            refine FL.val rfl rfl rfl (E.assign (v := Value.bool r157.2) rfl) ?_
            refine FL.nil ?_
            refine FW.seq ?_
            refine FW.region ?_
            refine FL.val rfl rfl rfl (E.move (v := Value.bool r157.2) rfl) ?_
            refine FL.val rfl rfl rfl (E.move (v := Value.bool r157.2) rfl) ?_
            obtain ⟨t177, hqt177, hp⟩ := bnd hp
            refine FL.cut 5 (fun f w => ∃ H : GH, St Ha wa H w [.row 3 1 v163 n164 cs165] ∧ Inc H159 H ∧ f 104 = Value.bool t177) ?_ ?_
            ·
              clear hp; have hp := hqt177; clear hqt177
              rcases ifB hp with ⟨c183, hp⟩ | ⟨c183, hp⟩
              ·
                refine FL.val (wF_yes rfl rfl rfl c183) rfl rfl (E.move (v := v163) rfl) ?_
                refine FL.val (wF_yes rfl rfl rfl c183) rfl rfl (E.fieldAddr tf50_0 k152) ?_
                refine FL.val (wF_yes rfl rfl rfl c183) rfl rfl (E.load rfl (run_load1 Tryz.isAgg41 ((at49.mono (((r108.inc.tr r136.inc).tr i145).tr r162.run.inc)).now S161.sl) rfl)) ?_
                obtain ⟨H184, S185, i186, h187, nv188⟩ := S161.sealRowU (i := 0) (l' := []) rfl els166 (by decide) rfl
                obtain ⟨r189, hr190, hp⟩ := bnd hp
                refine FL.call (wF_yes rfl rfl rfl c183) rfl rfl (E.call Tryz.call78 (A2 rfl rfl)) (w_slices_Equal_int_int S185.sl v163 r157.1 (h187.mono upI) v37 x35.clause (h38.mono ((((((i27.tr i48).tr r108.inc).tr r136.inc).tr i145).tr r162.run.inc).tr i186)) hr190) ?_
                rintro e w191 ⟨rfl, r192⟩
                refine ⟨_, rfl, ?_⟩
                have r192 := Run.lend i186 S161.sl r192
                have S193 := S161.call r192
                obtain rfl := Option.some.inj hp
                refine FL.val rfl rfl rfl (E.pickT rfl c183 rfl) ?_
                exact FL.nil ⟨rfl, _, S193, (Inc.rfl _), rfl⟩
              ·
                refine FL.skip (wF_no rfl rfl rfl c183) rfl ?_
                refine FL.skip (wF_no rfl rfl rfl c183) rfl ?_
                refine FL.skip (wF_no rfl rfl rfl c183) rfl ?_
                refine FL.skip (wF_no rfl rfl rfl c183) rfl ?_
                obtain rfl := Option.some.inj hp
                refine FL.val rfl rfl rfl (E.pickF rfl c183 rfl) ?_
                exact FL.nil ⟨rfl, _, S161, (Inc.rfl _), rfl⟩
            rintro f182 w181 ⟨H178, S179, i180, k194⟩
            refine FL.val rfl rfl rfl (E.assign k194) ?_
            refine FL.nil ?_
            refine FW.ret ?_
            obtain rfl := Option.some.inj hp
            exact ⟨.inr rfl, res1 rfl rfl ⟨rfl, S179.back⟩⟩

theorem w_impl_firstWrong {Ha : GH} {wa : World} (hs : Sl Ha wa) (a0 : Cnf) (v0_1 : Value) (p0_1 : RSl Ha (eL eI 1) 1 v0_1 a0.clauses) (v1 : Value) (a1 : List ResStep) (p1 : RSl Ha eResStep 4 v1 a1) {r : Int} (hp : (PF.impl_firstWrong a0 a1) = some r) :
    Calls Tryz.prog 45 #[Value.agg #[Value.int .i64 a0.vars, v0_1], v1] wa (Sc Ha wa (Value.int .i64 r)) := by
  unfold PF.impl_firstWrong at hp
  have S0 := St.init hs
  refine calls_go (N := 18) (args := [Value.agg #[Value.int .i64 a0.vars, v0_1], v1]) Tryz.func45 rfl rfl rfl ?_
  refine FW.seq ?_
  refine FW.region ?_
  obtain ⟨b21, w22, run23, S24⟩ := S0.box (P := Tryz.prog) 31 [Value.int .i64 a0.vars, v0_1] (v := Value.agg #[Value.int .i64 a0.vars, v0_1]) rfl (ones_cons rfl (ones_cons p0_1.one ones_nil))
  refine FL.val rfl rfl rfl (E.box rfl run23) ?_
  obtain ⟨H25, S26, i27, at28⟩ := S24.sealBox (i := 0) (l' := []) rfl rfl
  refine FL.val rfl rfl rfl (E.assign (v := Value.int .i64 0) rfl) ?_
  refine FL.nil ?_
  refine FW.seq ?_
  refine FW.seq ?_
  refine FW.region ?_
  refine FL.val rfl rfl rfl (E.move (v := v1) rfl) ?_
  refine FL.val rfl rfl rfl (E.lenP te28 rfl p1) ?_
  refine FL.val rfl rfl rfl (E.move (v := Value.int .i64 0) rfl) ?_
  refine FL.nil ?_
  obtain ⟨q30, hq, hp⟩ := bndR hp
  refine FW.block ?_
  refine FW.mono (FW.forL (S := Unit) (X := Int) (fun (i30 : Nat) (s30 : Unit) f w => ∃ H : GH, St Ha wa H w [] ∧ Inc H25 H ∧ f 8 = Value.int .i64 ((i30 : Nat) : Int) ∧ f 1 = v1 ∧ f 2 = Value.pointer (some ⟨b21, 0, none⟩) ∧ f 7 = Value.int .i64 (len a1)) (fun q e f w => match q with | .go s30 => e = Exit.exit 0 ∧ (∃ H : GH, St Ha wa H w [] ∧ Inc H25 H) | .rt x => ((e = Exit.ret) ∧ (fun e f w => (e = Exit.normal ∨ e = Exit.ret) ∧ ∀ a, Fr 18 a f → ∃ v, (results Tryz.f45 a.tmps).run Tryz.prog w = .ok v w ∧ (Sc Ha wa (Value.int .i64 x)) (.returned v) w) e f w)) hq ⟨_, S26, (Inc.rfl _), rfl, rfl, rfl, rfl⟩ ?_ ?_) ?_
  ·
    clear hp hq
    rintro i30 y29 s30 f50 w49 ⟨H46, S47, i48, k51, k52, k53, k54⟩ hx30 o61 hp
    refine FW.seq ?_
    refine FW.region ?_
    refine FL.val rfl rfl rfl (E.lssT k51 k54 (lss_len hx30)) ?_
    refine FL.nil ?_
    refine FW.seq ?_
    refine FW.condT rfl rfl ?_
    refine FW.skip ?_
    refine FW.seq ?_
    refine FW.block ?_
    refine FW.seq ?_
    refine FW.region ?_
    refine FL.val rfl rfl rfl (E.move k51) ?_
    refine FL.val rfl rfl rfl (E.assign (v := Value.int .i64 ((i30 : Nat) : Int)) rfl) ?_
    refine FL.nil ?_
    refine FW.seq ?_
    refine FW.region ?_
    refine FL.val rfl rfl rfl (E.load k53 (run_loadA Tryz.isAgg31 Tryz.sizeOf31 ((at28.mono i48).now S47.sl) rfl)) ?_
    refine FL.val rfl rfl rfl (E.move k52) ?_
    refine FL.val rfl rfl rfl (E.move (v := Value.int .i64 ((i30 : Nat) : Int)) rfl) ?_
    obtain ⟨r55, hr56, hp⟩ := bnd hp
    refine FL.call rfl rfl rfl (E.call Tryz.call63 (A3 rfl rfl rfl)) (w_impl_correct S47.sl a0 v0_1 (p0_1.mono (i27.tr i48)) v1 a1 (p1.mono (i27.tr i48)) ((i30 : Nat) : Int) hr56) ?_
    rintro e w57 ⟨rfl, r58⟩
    refine ⟨_, rfl, ?_⟩
    have S59 := S47.call r58
    refine FL.val rfl rfl rfl (E.not rfl) ?_
    refine FL.nil ?_
    rcases ifB hp with ⟨c60, hp⟩ | ⟨c60, hp⟩
    ·
      refine FW.condT rfl c60 ?_
      refine FW.seq ?_
      refine FW.region ?_
      refine FL.val rfl rfl rfl (E.move (v := Value.int .i64 ((i30 : Nat) : Int)) rfl) ?_
      refine FL.val rfl rfl rfl (E.assign (v := Value.int .i64 ((i30 : Nat) : Int)) rfl) ?_
      refine FL.nil ?_
      refine FW.ret ?_
      obtain rfl := Option.some.inj hp
      exact ⟨nofun, rfl, ⟨.inr rfl, res1 rfl rfl ⟨rfl, S59.back⟩⟩⟩
    ·
      refine FW.condF rfl c60 ?_
      refine FW.skip ?_
      refine FW.region ?_
      refine FL.val rfl rfl rfl (E.add k51 rfl) ?_
      refine FL.val rfl rfl rfl (E.move (v := Value.int .i64 (wr (((i30 : Nat) : Int) + 1))) rfl) ?_
      refine FL.nil ?_
      obtain rfl := Option.some.inj hp
      exact ⟨rfl, ⟨_, S59, i48, (nat_succ rfl (lt_of_get hx30) (p1.mono (i27.tr i48)).le), k52, k53, k54⟩⟩
  ·
    clear hp hq
    rintro s30 f71 w70 ⟨H67, S68, i69, k72, k73, k74, k75⟩
    refine FW.seq ?_
    refine FW.region ?_
    refine FL.val rfl rfl rfl (E.lss k72 k75) ?_
    refine FL.nil ?_
    refine FW.seq ?_
    refine FW.condF rfl dlt_len ?_
    refine FW.exit ?_
    exact ⟨nofun, rfl, ⟨_, S68, i69⟩⟩
  ·
    clear hq
    intro e f66 w65 hD
    rcases q30 with s30 | x30
    ·
      obtain ⟨rfl, hD⟩ := hD
      obtain ⟨H62, S63, i64⟩ := hD
      replace hp := el_go hp
      refine FW.seq ?_
      refine FW.region ?_
      refine FL.val rfl rfl rfl (E.assign (v := Value.int .i64 (-1)) rfl) ?_
      refine FL.nil ?_
      refine FW.ret ?_
      obtain rfl := Option.some.inj hp
      exact ⟨.inr rfl, res1 rfl rfl ⟨rfl, S63.back⟩⟩
    ·
      obtain ⟨he, hL⟩ := hD
      replace hp := el_rt hp
      obtain rfl := Option.some.inj hp
      subst he
      exact hL

theorem w_impl_IsDerivation {Ha : GH} {wa : World} (hs : Sl Ha wa) (a0 : Cnf) (v0_1 : Value) (p0_1 : RSl Ha (eL eI 1) 1 v0_1 a0.clauses) (v1 : Value) (a1 : List ResStep) (p1 : RSl Ha eResStep 4 v1 a1) {r : Bool} (hp : (PF.impl_IsDerivation a0 a1) = some r) :
    Calls Tryz.prog 24 #[Value.agg #[Value.int .i64 a0.vars, v0_1], v1] wa (Sc Ha wa (Value.bool r)) := by
  unfold PF.impl_IsDerivation at hp
  have S0 := St.init hs
  refine calls_go (N := 18) (args := [Value.agg #[Value.int .i64 a0.vars, v0_1], v1]) Tryz.func24 rfl rfl rfl ?_
  refine FW.seq ?_
  refine FW.region ?_
  obtain ⟨b21, w22, run23, S24⟩ := S0.box (P := Tryz.prog) 31 [Value.int .i64 a0.vars, v0_1] (v := Value.agg #[Value.int .i64 a0.vars, v0_1]) rfl (ones_cons rfl (ones_cons p0_1.one ones_nil))
  refine FL.val rfl rfl rfl (E.box rfl run23) ?_
  obtain ⟨H25, S26, i27, at28⟩ := S24.sealBox (i := 0) (l' := []) rfl rfl
  refine FL.val rfl rfl rfl (E.assign (v := Value.bool false) rfl) ?_
  refine FL.nil ?_
  refine FW.seq ?_
  refine FW.region ?_
  refine FL.val rfl rfl rfl (E.load rfl (run_loadA Tryz.isAgg31 Tryz.sizeOf31 (at28.now S26.sl) rfl)) ?_
  obtain ⟨r29, hr30, hp⟩ := bnd hp
  refine FL.call rfl rfl rfl (E.call Tryz.call44 (A1 rfl)) (w_impl_IsCnf S26.sl a0 v0_1 (p0_1.mono i27) hr30) ?_
  rintro e w31 ⟨rfl, r32⟩
  refine ⟨_, rfl, ?_⟩
  have S33 := S26.call r32
  refine FL.val rfl rfl rfl (E.move (v := Value.bool r29) rfl) ?_
  refine FL.cut 4 (fun f w => ∃ H : GH, St Ha wa H w [] ∧ Inc H25 H ∧ f 1 = v1 ∧ f 2 = Value.pointer (some ⟨b21, 0, none⟩) ∧ f 11 = Value.bool (bif r29 then (decide ((len a1) ≤ 200)) else false)) ?_ ?_
  ·
    rcases bcase r29 with c40 | c40
    ·
      refine FL.val (wF_yes rfl rfl rfl c40) rfl rfl (E.move (v := v1) rfl) ?_
      refine FL.val (wF_yes rfl rfl rfl c40) rfl rfl (E.lenP te28 rfl p1) ?_
      refine FL.val (wF_yes rfl rfl rfl c40) rfl rfl (E.leq rfl rfl) ?_
      refine FL.val rfl rfl rfl (E.pickT rfl c40 rfl) ?_
      exact FL.nil ⟨rfl, _, S33, (Inc.rfl _), rfl, rfl, (congrArg Value.bool (bifT c40).symm)⟩
    ·
      refine FL.skip (wF_no rfl rfl rfl c40) rfl ?_
      refine FL.skip (wF_no rfl rfl rfl c40) rfl ?_
      refine FL.skip (wF_no rfl rfl rfl c40) rfl ?_
      refine FL.val rfl rfl rfl (E.pickF rfl c40 rfl) ?_
      exact FL.nil ⟨rfl, _, S33, (Inc.rfl _), rfl, rfl, (congrArg Value.bool (bifF c40).symm)⟩
  rintro f39 w38 ⟨H35, S36, i37, k41, k42, k43⟩
  refine FL.val rfl rfl rfl (E.move k43) ?_
  obtain ⟨t49, hqt49, hp⟩ := bnd hp
  refine FL.cut 5 (fun f w => ∃ H : GH, St Ha wa H w [] ∧ Inc H35 H ∧ f 17 = Value.bool t49) ?_ ?_
  ·
    clear hp; have hp := hqt49; clear hqt49
    rcases ifB hp with ⟨c55, hp⟩ | ⟨c55, hp⟩
    ·
      refine FL.val (wF_yes rfl rfl rfl c55) rfl rfl (E.load k42 (run_loadA Tryz.isAgg31 Tryz.sizeOf31 ((at28.mono i37).now S36.sl) rfl)) ?_
      refine FL.val (wF_yes rfl rfl rfl c55) rfl rfl (E.move k41) ?_
      obtain ⟨r56, hr57, hp⟩ := bnd hp
      refine FL.call (wF_yes rfl rfl rfl c55) rfl rfl (E.call Tryz.call45 (A2 rfl rfl)) (w_impl_firstWrong S36.sl a0 v0_1 (p0_1.mono (i27.tr i37)) v1 a1 (p1.mono (i27.tr i37)) hr57) ?_
      rintro e w58 ⟨rfl, r59⟩
      refine ⟨_, rfl, ?_⟩
      have S60 := S36.call r59
      refine FL.val (wF_yes rfl rfl rfl c55) rfl rfl (E.lss rfl rfl) ?_
      obtain rfl := Option.some.inj hp
      refine FL.val rfl rfl rfl (E.pickT rfl c55 rfl) ?_
      exact FL.nil ⟨rfl, _, S60, (Inc.rfl _), rfl⟩
    ·
      refine FL.skip (wF_no rfl rfl rfl c55) rfl ?_
      refine FL.skip (wF_no rfl rfl rfl c55) rfl ?_
      refine FL.skip (wF_no rfl rfl rfl c55) rfl ?_
      refine FL.skip (wF_no rfl rfl rfl c55) rfl ?_
      obtain rfl := Option.some.inj hp
      refine FL.val rfl rfl rfl (E.pickF rfl c55 rfl) ?_
      exact FL.nil ⟨rfl, _, S36, (Inc.rfl _), rfl⟩
  rintro f54 w53 ⟨H50, S51, i52, k61⟩
  refine FL.val rfl rfl rfl (E.assign k61) ?_
  refine FL.nil ?_
  refine FW.ret ?_
  obtain rfl := Option.some.inj hp
  exact ⟨.inr rfl, res1 rfl rfl ⟨rfl, S51.back⟩⟩

@[reducible] def p_impl_last_impl_ResStep (Ha : GH) (wa : World) (r : ResStep) : Ending → World → Prop :=
  fun e w' => ∃ H' : GH, ∃ v0_0 : Value, e = .returned (Value.agg #[v0_0, Value.int .i64 r.left, Value.int .i64 r.right, Value.int .i64 r.pivot]) ∧ Run wa.heap.size Ha wa H' w' ∧ RSl H' eI 1 v0_0 r.clause
theorem w_impl_last_impl_ResStep {Ha : GH} {wa : World} (hs : Sl Ha wa) (v0 : Value) (a0 : List ResStep) (p0 : RSl Ha eResStep 4 v0 a0) {r : ResStep} (hp : (PF.impl_last_impl_ResStep a0) = some r) :
    Calls Tryz.prog 27 #[v0] wa (p_impl_last_impl_ResStep Ha wa r) := by
  unfold PF.impl_last_impl_ResStep at hp
  have S0 := St.init hs
  refine calls_go (N := 9) (args := [v0]) Tryz.func27 rfl rfl rfl ?_
  refine FW.seq ?_
  refine FW.region ?_
  obtain ⟨b21, w22, run23, S24⟩ := S0.alloc (P := Tryz.prog) 50 [Value.slice none 0 0, Value.int .i64 0, Value.int .i64 0, Value.int .i64 0] Tryz.zeroValue50 rfl (ones_cons rfl (ones_cons rfl (ones_cons rfl (ones_cons rfl ones_nil))))
  refine FL.val rfl rfl rfl (E.alloc run23) ?_
  refine FL.nil ?_
  refine FW.seq ?_
  refine FW.region ?_
  refine FL.val rfl rfl rfl (E.move (v := v0) rfl) ?_
  refine FL.val rfl rfl rfl (E.move (v := v0) rfl) ?_
  refine FL.val rfl rfl rfl (E.lenP te28 rfl p0) ?_
  refine FL.val rfl rfl rfl (E.sub rfl rfl) ?_
  obtain ⟨x31, hx32, hp⟩ := bnd hp
  obtain ⟨p25, cs26, pt27, l28, at29, rel30⟩ := p0.at hx32
  obtain ⟨v33, rfl, h34⟩ := eResStep_open rel30
  refine FL.val rfl rfl rfl (E.indexAddr te28 rfl rfl pt27) ?_
  refine FL.val rfl rfl rfl (E.load rfl (run_loadA Tryz.isAgg50 Tryz.sizeOf50 (at29.now S24.sl) rfl)) ?_
  obtain ⟨w35, run36, S37⟩ := S24.store0 (P := Tryz.prog) (t := 50) (i := 0) (cs' := [v33, Value.int .i64 x31.left, Value.int .i64 x31.right, Value.int .i64 x31.pivot]) (l' := [.box b21 50 [v33, Value.int .i64 x31.left, Value.int .i64 x31.right, Value.int .i64 x31.pivot]]) (v := Value.agg #[v33, Value.int .i64 x31.left, Value.int .i64 x31.right, Value.int .i64 x31.pivot]) (c := [v33, Value.int .i64 x31.left, Value.int .i64 x31.right, Value.int .i64 x31.pivot]) rfl Tryz.sizeOf50 rfl rfl (ones_cons h34.one (ones_cons rfl (ones_cons rfl (ones_cons rfl ones_nil)))) (Nat.le_of_ble_eq_true rfl) rfl rfl
  refine FL.act rfl rfl (E.store rfl rfl run36) ?_
  obtain ⟨H38, S39, i40, at41⟩ := S37.sealBox (i := 0) (l' := []) rfl rfl
  refine FL.nil ?_
  refine FW.ret ?_
  obtain rfl := Option.some.inj hp
  exact ⟨.inr rfl, resC rfl rfl (loadVar_A Tryz.isAgg50 Tryz.sizeOf50 (at41.now S39.sl) rfl) ⟨_, _, rfl, S39.run, (h34.mono i40)⟩⟩

@[reducible] def p_impl_cloneSteps (Ha : GH) (wa : World) (r : (List ResStep)) : Ending → World → Prop :=
  fun e w' => ∃ H' : GH, ∃ v0 : Value, ∃ n0 : Nat, ∃ c0 : List Value, e = .returned (v0) ∧ St Ha wa H' w' [.row 50 4 v0 n0 c0] ∧ Els (up wa.heap.size H') eResStep 4 c0 r ∧ (bl c0).Nodup
theorem w_impl_cloneSteps {Ha : GH} {wa : World} (hs : Sl Ha wa) (v0 : Value) (a0 : List ResStep) (p0 : RSl Ha eResStep 4 v0 a0) {r : (List ResStep)} (hp : (PF.impl_cloneSteps a0) = some r) :
    Calls Tryz.prog 28 #[v0] wa (p_impl_cloneSteps Ha wa r) := by
  unfold PF.impl_cloneSteps at hp
  have S0 := St.init hs
  refine calls_go (N := 22) (args := [v0]) Tryz.func28 rfl rfl rfl ?_
  refine FW.seq ?_
  refine FW.region ?_
  refine FL.val rfl rfl rfl (E.assign (v := Value.slice none 0 0) rfl) ?_
  refine FL.nil ?_
  refine FW.seq ?_
  refine FW.region ?_
  refine FL.val rfl rfl rfl (E.assign (v := Value.slice none 0 0) rfl) ?_
  refine FL.nil ?_
  refine FW.seq ?_
  refine FW.seq ?_
  refine FW.region ?_
  refine FL.val rfl rfl rfl (E.move (v := v0) rfl) ?_
  refine FL.val rfl rfl rfl (E.lenP te28 rfl p0) ?_
  refine FL.val rfl rfl rfl (E.move (v := Value.int .i64 0) rfl) ?_
  refine FL.nil ?_
  obtain ⟨q22, hq, hp⟩ := bndR hp
  refine FW.block ?_
  refine FW.mono (FW.forL (S := (List ResStep)) (X := Empty) (fun (i22 : Nat) (s22 : (List ResStep)) f w => ∃ H : GH, ∃ v23 : Value, ∃ n24 : Nat, ∃ cs25 : List Value, St Ha wa H w [.row 50 4 v23 n24 cs25] ∧ Inc Ha H ∧ Els (up wa.heap.size H) eResStep 4 cs25 s22 ∧ (bl cs25).Nodup ∧ f 8 = Value.int .i64 ((i22 : Nat) : Int) ∧ f 3 = v23 ∧ f 6 = v0 ∧ f 7 = Value.int .i64 (len a0)) (fun (q : Rs (List ResStep) Empty) e f w => match q with | .go s22 => e = Exit.exit 0 ∧ (∃ H : GH, ∃ v23 : Value, ∃ n24 : Nat, ∃ cs25 : List Value, St Ha wa H w [.row 50 4 v23 n24 cs25] ∧ Inc Ha H ∧ Els (up wa.heap.size H) eResStep 4 cs25 s22 ∧ (bl cs25).Nodup ∧ f 3 = v23) | .rt x => x.elim) hq ⟨_, _, _, _, (S0.nil 50 4), (Inc.rfl _), Els.nil, List.nodup_nil, rfl, rfl, rfl, rfl⟩ ?_ ?_) ?_
  ·
    clear hp hq
    rintro i22 y21 s22 f96 w95 ⟨H92, v23, n24, cs25, S93, i94, els26, nd27, k97, k98, k99, k100⟩ hx22 o156 hp
    refine FW.seq ?_
    refine FW.region ?_
    refine FL.val rfl rfl rfl (E.lssT k97 k100 (lss_len hx22)) ?_
    refine FL.nil ?_
    refine FW.seq ?_
    refine FW.condT rfl rfl ?_
    refine FW.skip ?_
    refine FW.seq ?_
    refine FW.block ?_
    refine FW.seq ?_
    refine FW.region ?_
    obtain ⟨p101, cs102, pt103, l104, at105, rel106⟩ := p0.at (ix_nat hx22)
    obtain ⟨v107, rfl, h108⟩ := eResStep_open rel106
    refine FL.val rfl rfl rfl (E.indexAddr te28 k99 k97 pt103) ?_
    refine FL.val rfl rfl rfl (E.load rfl (run_loadA Tryz.isAgg50 Tryz.sizeOf50 ((at105.mono i94).now S93.sl) rfl)) ?_
    obtain ⟨b109, w110, run111, S112⟩ := S93.alloc (P := Tryz.prog) 50 [Value.slice none 0 0, Value.int .i64 0, Value.int .i64 0, Value.int .i64 0] Tryz.zeroValue50 rfl (ones_cons rfl (ones_cons rfl (ones_cons rfl (ones_cons rfl ones_nil))))
    refine FL.val rfl rfl rfl (E.alloc run111) ?_
    obtain ⟨w113, run114, S115⟩ := S112.store0 (P := Tryz.prog) (t := 50) (i := 0) (cs' := [v107, Value.int .i64 y21.left, Value.int .i64 y21.right, Value.int .i64 y21.pivot]) (l' := [.box b109 50 [v107, Value.int .i64 y21.left, Value.int .i64 y21.right, Value.int .i64 y21.pivot], .row 50 4 v23 n24 cs25]) (v := Value.agg #[v107, Value.int .i64 y21.left, Value.int .i64 y21.right, Value.int .i64 y21.pivot]) (c := [v107, Value.int .i64 y21.left, Value.int .i64 y21.right, Value.int .i64 y21.pivot]) rfl Tryz.sizeOf50 rfl rfl (ones_cons h108.one (ones_cons rfl (ones_cons rfl (ones_cons rfl ones_nil)))) (Nat.le_of_ble_eq_true rfl) rfl rfl
    refine FL.act rfl rfl (E.store rfl rfl run114) ?_
    refine FL.nil ?_
    refine FW.seq ?_
    refine FW.region ?_
    refine FL.val rfl rfl rfl (E.fieldAddr tf50_0 rfl) ?_
    refine FL.val rfl rfl rfl (E.load rfl (run_load1 Tryz.isAgg41 (S115.box_now (i := 0) rfl) rfl)) ?_
    obtain ⟨r116, hr117, hp⟩ := bnd hp
    refine FL.call rfl rfl rfl (E.call Tryz.call51 (A1 rfl)) (w_slices_Clone_int_int S115.sl v107 y21.clause (h108.mono i94) hr117) ?_
    rintro e w119 ⟨H118, v122, n123, cs124, rfl, r121, els125⟩
    refine ⟨_, rfl, ?_⟩
    have els125 := els125.mono (up_le S115.size)
    have S120 := S115.join (l' := [.row 3 1 v122 n123 cs124, .box b109 50 [v107, Value.int .i64 y21.left, Value.int .i64 y21.right, Value.int .i64 y21.pivot], .row 50 4 v23 n24 cs25]) r121 rfl
    refine FL.val rfl rfl rfl (E.fieldAddr tf50_0 rfl) ?_
    obtain ⟨H126, S127, i128, h129, nv130⟩ := S120.sealRowU (i := 0) (l' := [.box b109 50 [v107, Value.int .i64 y21.left, Value.int .i64 y21.right, Value.int .i64 y21.pivot], .row 50 4 v23 n24 cs25]) rfl els125 (by decide) rfl
    obtain ⟨w131, run132, S133⟩ := S127.store (P := Tryz.prog) (t := 41) (i := 0) (j := 0) (cs' := [v122, Value.int .i64 y21.left, Value.int .i64 y21.right, Value.int .i64 y21.pivot]) (l' := [.box b109 50 [v122, Value.int .i64 y21.left, Value.int .i64 y21.right, Value.int .i64 y21.pivot], .row 50 4 v23 n24 cs25]) (v := v122) (c := [v122]) rfl Tryz.sizeOf41 h129.cells rfl (ones_cons h129.one ones_nil) (Nat.le_of_ble_eq_true rfl) rfl rfl
    refine FL.act rfl rfl (E.store rfl rfl run132) ?_
    obtain ⟨H134, S135, i136, at137⟩ := S133.sealBox (i := 0) (l' := [.row 50 4 v23 n24 cs25]) rfl rfl
    refine FL.nil ?_
    refine FW.region ?_
    refine FL.val rfl rfl rfl (E.move k98) ?_
    refine FL.val rfl rfl rfl (E.load rfl (run_loadA Tryz.isAgg50 Tryz.sizeOf50 (at137.now S135.sl) rfl)) ?_
    obtain ⟨v138, w139, run140, S141⟩ := S135.buildSlice (P := Tryz.prog) te28 [Value.agg #[v122, Value.int .i64 y21.left, Value.int .i64 y21.right, Value.int .i64 y21.pivot]] (parts := #[(0, Value.agg #[v122, Value.int .i64 y21.left, Value.int .i64 y21.right, Value.int .i64 y21.pivot])]) (cells := [v122, Value.int .i64 y21.left, Value.int .i64 y21.right, Value.int .i64 y21.pivot]) rfl (szs_cons rfl szs_nil) (fc_cons rfl fc_nil) (ones_cons h129.one (ones_cons rfl (ones_cons rfl (ones_cons rfl ones_nil)))) (Nat.le_of_ble_eq_true rfl)
    have els142 : Els (up wa.heap.size H134) eResStep 4 [v122, Value.int .i64 y21.left, Value.int .i64 y21.right, Value.int .i64 y21.pivot] [(ResStep.mk r116 y21.left y21.right y21.pivot)] := (Els.snoc (H := (up wa.heap.size H134)) (E := eResStep) (k := 4) (c := [v122, Value.int .i64 y21.left, Value.int .i64 y21.right, Value.int .i64 y21.pivot]) (x := (ResStep.mk r116 y21.left y21.right y21.pivot)) Els.nil rfl ⟨_, rfl, (h129.mono (up_mono i136))⟩)
    have nd143 : (bl [v122, Value.int .i64 y21.left, Value.int .i64 y21.right, Value.int .i64 y21.pivot]).Nodup := by exact nd_one v122
    refine FL.val rfl rfl rfl (E.buildSlice (B1 rfl) run140) ?_
    obtain ⟨xs144, hz145, hp⟩ := bnd hp
    obtain ⟨v146, w149, n147, cs148, run150, S151, els152, ce153⟩ := S141.appendO (P := Tryz.prog) te28 (i := 1) (j := 0) rfl (els26.mono (up_mono ((r121.run.inc.tr i128).tr i136))) rfl els142 hz145
    have S151 : St Ha wa H134 w149 [.row 50 4 v138 1 [v122, Value.int .i64 y21.left, Value.int .i64 y21.right, Value.int .i64 y21.pivot], .row 50 4 v146 n147 cs148] := S151
    have nd154 : (bl cs148).Nodup := by rw [ce153]; exact nd_app nd27 nd143 (Els.dom (els26.mono (upI.tr r121.run.inc))) (by exact nv130)
    have S155 : St Ha wa H134 w149 [.row 50 4 v146 n147 cs148] := S151.drop 0
    refine FL.val rfl rfl rfl (E.append rfl rfl run150) ?_
    refine FL.val rfl rfl rfl (E.assign (v := v146) rfl) ?_
    refine FL.nil ?_
    refine FW.region ?_
    refine FL.val rfl rfl rfl (E.add k97 rfl) ?_
    refine FL.val rfl rfl rfl (E.move (v := Value.int .i64 (wr (((i22 : Nat) : Int) + 1))) rfl) ?_
    refine FL.nil ?_
    obtain rfl := Option.some.inj hp
    exact ⟨rfl, ⟨_, _, _, _, S155, (((i94.tr r121.run.inc).tr i128).tr i136), els152, nd154, (nat_succ rfl (lt_of_get hx22) (p0.mono (((i94.tr r121.run.inc).tr i128).tr i136)).le), rfl, k99, k100⟩⟩
  ·
    clear hp hq
    rintro s22 f167 w166 ⟨H163, v23, n24, cs25, S164, i165, els26, nd27, k168, k169, k170, k171⟩
    refine FW.seq ?_
    refine FW.region ?_
    refine FL.val rfl rfl rfl (E.lss k168 k171) ?_
    refine FL.nil ?_
    refine FW.seq ?_
    refine FW.condF rfl dlt_len ?_
    refine FW.exit ?_
    exact ⟨nofun, rfl, ⟨_, _, _, _, S164, i165, els26, nd27, k169⟩⟩
  ·
    clear hq
    intro e f161 w160 hD
    rcases q22 with s22 | x22
    ·
      obtain ⟨rfl, hD⟩ := hD
      obtain ⟨H157, v23, n24, cs25, S158, i159, els26, nd27, k162⟩ := hD
      replace hp := el_go hp
      refine FW.seq ?_
      refine FW.region ?_
      refine FL.val rfl rfl rfl (E.move k162) ?_
      refine FL.val rfl rfl rfl (E.assign (v := v23) rfl) ?_
      refine FL.nil ?_
      refine FW.ret ?_
      obtain rfl := Option.some.inj hp
      exact ⟨.inr rfl, res1 rfl rfl ⟨_, _, _, _, rfl, S158, els26, nd27⟩⟩
    · exact x22.elim

theorem w_impl_ResStep_isResolvent {Ha : GH} {wa : World} (hs : Sl Ha wa) (a0 : ResStep) (v0_0 : Value) (p0_0 : RSl Ha eI 1 v0_0 a0.clause) :
    Calls Tryz.prog 52 #[Value.agg #[v0_0, Value.int .i64 a0.left, Value.int .i64 a0.right, Value.int .i64 a0.pivot]] wa (Sc Ha wa (Value.bool (PF.impl_ResStep_isResolvent a0))) := by
  obtain ⟨r, hp⟩ : ∃ r, (PF.impl_ResStep_isResolvent a0) = r := ⟨_, rfl⟩
  rw [hp]
  unfold PF.impl_ResStep_isResolvent at hp
  have S0 := St.init hs
  refine calls_go (N := 11) (args := [Value.agg #[v0_0, Value.int .i64 a0.left, Value.int .i64 a0.right, Value.int .i64 a0.pivot]]) Tryz.func52 rfl rfl rfl ?_
  refine FW.seq ?_
  refine FW.region ?_
  obtain ⟨b21, w22, run23, S24⟩ := S0.box (P := Tryz.prog) 50 [v0_0, Value.int .i64 a0.left, Value.int .i64 a0.right, Value.int .i64 a0.pivot] (v := Value.agg #[v0_0, Value.int .i64 a0.left, Value.int .i64 a0.right, Value.int .i64 a0.pivot]) rfl (ones_cons p0_0.one (ones_cons rfl (ones_cons rfl (ones_cons rfl ones_nil))))
  refine FL.val rfl rfl rfl (E.box rfl run23) ?_
  obtain ⟨H25, S26, i27, at28⟩ := S24.sealBox (i := 0) (l' := []) rfl rfl
  refine FL.val rfl rfl rfl (E.assign (v := Value.bool false) rfl) ?_
  refine FL.nil ?_
  refine FW.seq ?_
  refine FW.region ?_
  refine FL.val rfl rfl rfl (E.fieldAddr tf50_1 rfl) ?_
  refine FL.val rfl rfl rfl (E.load rfl (run_load1 Tryz.isAgg3 (at28.now S26.sl) rfl)) ?_
  refine FL.val rfl rfl rfl (E.geq rfl rfl) ?_
  refine FL.val rfl rfl rfl (E.move (v := Value.bool (decide (0 ≤ a0.left))) rfl) ?_
  refine FL.cut 4 (fun f w => ∃ H : GH, St Ha wa H w [] ∧ Inc H25 H ∧ f 10 = Value.bool (bif (decide (0 ≤ a0.left)) then (decide (0 ≤ a0.right)) else false)) ?_ ?_
  ·
    rcases bcase (decide (0 ≤ a0.left)) with c35 | c35
    ·
      refine FL.val (wF_yes rfl rfl rfl c35) rfl rfl (E.fieldAddr tf50_2 rfl) ?_
      refine FL.val (wF_yes rfl rfl rfl c35) rfl rfl (E.load rfl (run_load1 Tryz.isAgg3 (at28.now S26.sl) rfl)) ?_
      refine FL.val (wF_yes rfl rfl rfl c35) rfl rfl (E.geq rfl rfl) ?_
      refine FL.val rfl rfl rfl (E.pickT rfl c35 rfl) ?_
      exact FL.nil ⟨rfl, _, S26, (Inc.rfl _), (congrArg Value.bool (bifT c35).symm)⟩
    ·
      refine FL.skip (wF_no rfl rfl rfl c35) rfl ?_
      refine FL.skip (wF_no rfl rfl rfl c35) rfl ?_
      refine FL.skip (wF_no rfl rfl rfl c35) rfl ?_
      refine FL.val rfl rfl rfl (E.pickF rfl c35 rfl) ?_
      exact FL.nil ⟨rfl, _, S26, (Inc.rfl _), (congrArg Value.bool (bifF c35).symm)⟩
  rintro f34 w33 ⟨H30, S31, i32, k36⟩
  refine FL.val rfl rfl rfl (E.assign k36) ?_
  refine FL.nil ?_
  refine FW.ret ?_
  obtain rfl := hp
  exact ⟨.inr rfl, res1 rfl rfl ⟨rfl, S31.back⟩⟩

theorem w_impl_ResStep_isAxiom {Ha : GH} {wa : World} (hs : Sl Ha wa) (a0 : ResStep) (v0_0 : Value) (p0_0 : RSl Ha eI 1 v0_0 a0.clause) :
    Calls Tryz.prog 53 #[Value.agg #[v0_0, Value.int .i64 a0.left, Value.int .i64 a0.right, Value.int .i64 a0.pivot]] wa (Sc Ha wa (Value.bool (PF.impl_ResStep_isAxiom a0))) := by
  obtain ⟨r, hp⟩ : ∃ r, (PF.impl_ResStep_isAxiom a0) = r := ⟨_, rfl⟩
  rw [hp]
  unfold PF.impl_ResStep_isAxiom at hp
  have S0 := St.init hs
  refine calls_go (N := 6) (args := [Value.agg #[v0_0, Value.int .i64 a0.left, Value.int .i64 a0.right, Value.int .i64 a0.pivot]]) Tryz.func53 rfl rfl rfl ?_
  refine FW.seq ?_
  refine FW.region ?_
  obtain ⟨b21, w22, run23, S24⟩ := S0.box (P := Tryz.prog) 50 [v0_0, Value.int .i64 a0.left, Value.int .i64 a0.right, Value.int .i64 a0.pivot] (v := Value.agg #[v0_0, Value.int .i64 a0.left, Value.int .i64 a0.right, Value.int .i64 a0.pivot]) rfl (ones_cons p0_0.one (ones_cons rfl (ones_cons rfl (ones_cons rfl ones_nil))))
  refine FL.val rfl rfl rfl (E.box rfl run23) ?_
  obtain ⟨H25, S26, i27, at28⟩ := S24.sealBox (i := 0) (l' := []) rfl rfl
  refine FL.val rfl rfl rfl (E.assign (v := Value.bool false) rfl) ?_
  refine FL.nil ?_
  refine FW.seq ?_
  refine FW.region ?_
  refine FL.val rfl rfl rfl (E.fieldAddr tf50_1 rfl) ?_
  refine FL.val rfl rfl rfl (E.load rfl (run_load1 Tryz.isAgg3 (at28.now S26.sl) rfl)) ?_
  refine FL.val rfl rfl rfl (E.lss rfl rfl) ?_
  refine FL.val rfl rfl rfl (E.assign (v := Value.bool (decide (a0.left < 0))) rfl) ?_
  refine FL.nil ?_
  refine FW.ret ?_
  obtain rfl := hp
  exact ⟨.inr rfl, res1 rfl rfl ⟨rfl, S26.back⟩⟩

@[reducible] def p_impl_ResStep_moved (Ha : GH) (wa : World) (r : ResStep) : Ending → World → Prop :=
  fun e w' => ∃ H' : GH, ∃ v0_0 : Value, e = .returned (Value.agg #[v0_0, Value.int .i64 r.left, Value.int .i64 r.right, Value.int .i64 r.pivot]) ∧ Run wa.heap.size Ha wa H' w' ∧ RSl (up wa.heap.size H') eI 1 v0_0 r.clause
theorem w_impl_ResStep_moved {Ha : GH} {wa : World} (hs : Sl Ha wa) (a0 : ResStep) (v0_0 : Value) (p0_0 : RSl Ha eI 1 v0_0 a0.clause) (v1 : Value) (a1 : Int → Option Int) (p1 : Fn_I_to_I Tryz.prog Ha v1 a1) {r : ResStep} (hp : (PF.impl_ResStep_moved a0 a1) = some r) :
    Calls Tryz.prog 29 #[Value.agg #[v0_0, Value.int .i64 a0.left, Value.int .i64 a0.right, Value.int .i64 a0.pivot], v1] wa (p_impl_ResStep_moved Ha wa r) := by
  unfold PF.impl_ResStep_moved at hp
  have S0 := St.init hs
  refine calls_go (N := 25) (args := [Value.agg #[v0_0, Value.int .i64 a0.left, Value.int .i64 a0.right, Value.int .i64 a0.pivot], v1]) Tryz.func29 rfl rfl rfl ?_
  refine FW.seq ?_
  refine FW.region ?_
  obtain ⟨b21, w22, run23, S24⟩ := S0.box (P := Tryz.prog) 50 [v0_0, Value.int .i64 a0.left, Value.int .i64 a0.right, Value.int .i64 a0.pivot] (v := Value.agg #[v0_0, Value.int .i64 a0.left, Value.int .i64 a0.right, Value.int .i64 a0.pivot]) rfl (ones_cons p0_0.one (ones_cons rfl (ones_cons rfl (ones_cons rfl ones_nil))))
  refine FL.val rfl rfl rfl (E.box rfl run23) ?_
  obtain ⟨b25, w26, run27, S28⟩ := S24.alloc (P := Tryz.prog) 50 [Value.slice none 0 0, Value.int .i64 0, Value.int .i64 0, Value.int .i64 0] Tryz.zeroValue50 rfl (ones_cons rfl (ones_cons rfl (ones_cons rfl (ones_cons rfl ones_nil))))
  refine FL.val rfl rfl rfl (E.alloc run27) ?_
  refine FL.nil ?_
  refine FW.seq ?_
  refine FW.region ?_
  refine FL.val rfl rfl rfl (E.fieldAddr tf50_0 rfl) ?_
  refine FL.val rfl rfl rfl (E.load rfl (run_load1 Tryz.isAgg41 (S28.box_now (i := 1) rfl) rfl)) ?_
  obtain ⟨r29, hr30, hp⟩ := bnd hp
  refine FL.call rfl rfl rfl (E.call Tryz.call51 (A1 rfl)) (w_slices_Clone_int_int S28.sl v0_0 a0.clause p0_0 hr30) ?_
  rintro e w32 ⟨H31, v35, n36, cs37, rfl, r34, els38⟩
  refine ⟨_, rfl, ?_⟩
  have els38 := els38.mono (up_le S28.size)
  have S33 := S28.join (l' := [.row 3 1 v35 n36 cs37, .box b25 50 [Value.slice none 0 0, Value.int .i64 0, Value.int .i64 0, Value.int .i64 0], .box b21 50 [v0_0, Value.int .i64 a0.left, Value.int .i64 a0.right, Value.int .i64 a0.pivot]]) r34 rfl
  refine FL.val rfl rfl rfl (E.fieldAddr tf50_0 rfl) ?_
  obtain ⟨H39, S40, i41, h42, nv43⟩ := S33.sealRowU (i := 0) (l' := [.box b25 50 [Value.slice none 0 0, Value.int .i64 0, Value.int .i64 0, Value.int .i64 0], .box b21 50 [v0_0, Value.int .i64 a0.left, Value.int .i64 a0.right, Value.int .i64 a0.pivot]]) rfl els38 (by decide) rfl
  obtain ⟨w44, run45, S46⟩ := S40.store (P := Tryz.prog) (t := 41) (i := 1) (j := 0) (cs' := [v35, Value.int .i64 a0.left, Value.int .i64 a0.right, Value.int .i64 a0.pivot]) (l' := [.box b25 50 [Value.slice none 0 0, Value.int .i64 0, Value.int .i64 0, Value.int .i64 0], .box b21 50 [v35, Value.int .i64 a0.left, Value.int .i64 a0.right, Value.int .i64 a0.pivot]]) (v := v35) (c := [v35]) rfl Tryz.sizeOf41 h42.cells rfl (ones_cons h42.one ones_nil) (Nat.le_of_ble_eq_true rfl) rfl rfl
  refine FL.act rfl rfl (E.store rfl rfl run45) ?_
  refine FL.nil ?_
  refine FW.seq ?_
  refine FW.seq ?_
  refine FW.region ?_
  refine FL.val rfl rfl rfl (E.load rfl (run_loadA Tryz.isAgg50 Tryz.sizeOf50 (S46.box_now (i := 1) rfl) rfl)) ?_
  refine FL.call rfl rfl rfl (E.call Tryz.call52 (A1 rfl)) (w_impl_ResStep_isResolvent S46.sl (ResStep.mk r29 a0.left a0.right a0.pivot) v35 (h42.mono upI)) ?_
  rintro e w47 ⟨rfl, r48⟩
  refine ⟨_, rfl, ?_⟩
  have S49 := S46.call r48
  refine FL.nil ?_
  obtain ⟨q65, hq, hp⟩ := bndR hp
  refine FW.joinE (S := ((List Int) × Int × Int × Int)) (X := Empty) (q := q65) (fun s64 f w => ∃ H : GH, ∃ v67 : Value, St Ha wa H w [.box b25 50 [Value.slice none 0 0, Value.int .i64 0, Value.int .i64 0, Value.int .i64 0], .box b21 50 [v67, Value.int .i64 s64.2.1, Value.int .i64 s64.2.2.1, Value.int .i64 s64.2.2.2]] ∧ Inc H39 H ∧ RSl (up wa.heap.size H) eI 1 v67 s64.1 ∧ f 1 = v1 ∧ f 2 = Value.pointer (some (⟨b21, 0, none⟩ : Addr)) ∧ f 4 = Value.pointer (some (⟨b25, 0, none⟩ : Addr))) (fun (_ : Empty) _ _ _ => False) ?_ ?_ ?_
  ·
    clear hp; have hp := hq; clear hq
    rcases ifB hp with ⟨c69, hp⟩ | ⟨c69, hp⟩
    ·
      refine FW.condT rfl c69 ?_
      refine FW.region ?_
      refine FL.val rfl rfl rfl (E.move (v := v1) rfl) ?_
      refine FL.val rfl rfl rfl (E.fieldAddr tf50_2 rfl) ?_
      refine FL.val rfl rfl rfl (E.load rfl (run_load1 Tryz.isAgg3 (S49.box_now (i := 1) rfl) rfl)) ?_
      obtain ⟨r70, hr71, hp⟩ := bnd hp
      obtain ⟨fi75, cs76, hv77, he78, hc79⟩ := (p1.mono (r34.run.inc.tr i41)) H39 w47 (Inc.rfl _) S49.sl a0.right r70 hr71
      refine FL.call rfl rfl rfl (E.callV he78 (Eq.trans rfl hv77) (appA (A1 rfl) cs76)) hc79 ?_
      rintro e w72 ⟨rfl, r73⟩
      refine ⟨_, rfl, ?_⟩
      have S74 := S49.call r73
      refine FL.val rfl rfl rfl (E.fieldAddr tf50_2 rfl) ?_
      obtain ⟨w80, run81, S82⟩ := S74.store (P := Tryz.prog) (t := 3) (i := 1) (j := 2) (cs' := [v35, Value.int .i64 a0.left, Value.int .i64 r70, Value.int .i64 a0.pivot]) (l' := [.box b25 50 [Value.slice none 0 0, Value.int .i64 0, Value.int .i64 0, Value.int .i64 0], .box b21 50 [v35, Value.int .i64 a0.left, Value.int .i64 r70, Value.int .i64 a0.pivot]]) (v := Value.int .i64 r70) (c := [Value.int .i64 r70]) rfl Tryz.sizeOf3 rfl rfl (ones_cons rfl ones_nil) (Nat.le_of_ble_eq_true rfl) rfl rfl
      refine FL.act rfl rfl (E.store rfl rfl run81) ?_
      refine FL.nil ?_
      obtain rfl := Option.some.inj hp
      exact ⟨rfl, ⟨_, _, S82, (Inc.rfl _), h42, rfl, rfl, rfl⟩⟩
    ·
      refine FW.condF rfl c69 ?_
      refine FW.skip ?_
      obtain rfl := Option.some.inj hp
      exact ⟨rfl, ⟨_, _, S49, (Inc.rfl _), h42, rfl, rfl, rfl⟩⟩
  ·
    rintro s64 rfl f87 w86 ⟨H83, v67, S84, i85, h68, k88, k89, k90⟩
    replace hp := el_go hp
    refine FW.seq ?_
    refine FW.seq ?_
    refine FW.region ?_
    refine FL.val rfl rfl rfl (E.load k89 (run_loadA Tryz.isAgg50 Tryz.sizeOf50 (S84.box_now (i := 1) rfl) rfl)) ?_
    refine FL.call rfl rfl rfl (E.call Tryz.call53 (A1 rfl)) (w_impl_ResStep_isAxiom S84.sl (ResStep.mk s64.1 s64.2.1 s64.2.2.1 s64.2.2.2) v67 (h68.mono upI)) ?_
    rintro e w91 ⟨rfl, r92⟩
    refine ⟨_, rfl, ?_⟩
    have S93 := S84.call r92
    refine FL.val rfl rfl rfl (E.not rfl) ?_
    refine FL.nil ?_
    rcases ifB hp with ⟨c94, hp⟩ | ⟨c94, hp⟩
    ·
      refine FW.condT rfl c94 ?_
      refine FW.region ?_
      refine FL.val rfl rfl rfl (E.move k88) ?_
      refine FL.val rfl rfl rfl (E.fieldAddr tf50_1 k89) ?_
      refine FL.val rfl rfl rfl (E.load rfl (run_load1 Tryz.isAgg3 (S93.box_now (i := 1) rfl) rfl)) ?_
      obtain ⟨r95, hr96, hp⟩ := bnd hp
      obtain ⟨fi100, cs101, hv102, he103, hc104⟩ := (p1.mono ((r34.run.inc.tr i41).tr i85)) H83 w91 (Inc.rfl _) S93.sl s64.2.1 r95 hr96
      refine FL.call rfl rfl rfl (E.callV he103 (Eq.trans rfl hv102) (appA (A1 rfl) cs101)) hc104 ?_
      rintro e w97 ⟨rfl, r98⟩
      refine ⟨_, rfl, ?_⟩
      have S99 := S93.call r98
      refine FL.val rfl rfl rfl (E.fieldAddr tf50_1 k89) ?_
      obtain ⟨w105, run106, S107⟩ := S99.store (P := Tryz.prog) (t := 3) (i := 1) (j := 1) (cs' := [v67, Value.int .i64 r95, Value.int .i64 s64.2.2.1, Value.int .i64 s64.2.2.2]) (l' := [.box b25 50 [Value.slice none 0 0, Value.int .i64 0, Value.int .i64 0, Value.int .i64 0], .box b21 50 [v67, Value.int .i64 r95, Value.int .i64 s64.2.2.1, Value.int .i64 s64.2.2.2]]) (v := Value.int .i64 r95) (c := [Value.int .i64 r95]) rfl Tryz.sizeOf3 rfl rfl (ones_cons rfl ones_nil) (Nat.le_of_ble_eq_true rfl) rfl rfl
      refine FL.act rfl rfl (E.store rfl rfl run106) ?_
      refine FL.nil ?_
      refine FW.seq ?_
      refine FW.region ?_
      refine FL.val rfl rfl rfl (E.load k89 (run_loadA Tryz.isAgg50 Tryz.sizeOf50 (S107.box_now (i := 1) rfl) rfl)) ?_
      obtain ⟨w108, run109, S110⟩ := S107.store0 (P := Tryz.prog) (t := 50) (i := 0) (cs' := [v67, Value.int .i64 r95, Value.int .i64 s64.2.2.1, Value.int .i64 s64.2.2.2]) (l' := [.box b25 50 [v67, Value.int .i64 r95, Value.int .i64 s64.2.2.1, Value.int .i64 s64.2.2.2], .box b21 50 [v67, Value.int .i64 r95, Value.int .i64 s64.2.2.1, Value.int .i64 s64.2.2.2]]) (v := Value.agg #[v67, Value.int .i64 r95, Value.int .i64 s64.2.2.1, Value.int .i64 s64.2.2.2]) (c := [v67, Value.int .i64 r95, Value.int .i64 s64.2.2.1, Value.int .i64 s64.2.2.2]) rfl Tryz.sizeOf50 rfl rfl (ones_cons h68.one (ones_cons rfl (ones_cons rfl (ones_cons rfl ones_nil)))) (Nat.le_of_ble_eq_true rfl) rfl rfl
      refine FL.act rfl rfl (E.store k90 rfl run109) ?_
      obtain ⟨H111, S112, i113, at114⟩ := S110.sealBox (i := 0) (l' := [.box b21 50 [v67, Value.int .i64 r95, Value.int .i64 s64.2.2.1, Value.int .i64 s64.2.2.2]]) rfl rfl
      refine FL.nil ?_
      refine FW.ret ?_
      obtain rfl := Option.some.inj hp
      exact ⟨.inr rfl, resC rfl k90 (loadVar_A Tryz.isAgg50 Tryz.sizeOf50 (at114.now S112.sl) rfl) ⟨_, _, rfl, S112.run, (h68.mono (up_mono i113))⟩⟩
    ·
      refine FW.condF rfl c94 ?_
      refine FW.skip ?_
      refine FW.seq ?_
      refine FW.region ?_
      refine FL.val rfl rfl rfl (E.load k89 (run_loadA Tryz.isAgg50 Tryz.sizeOf50 (S93.box_now (i := 1) rfl) rfl)) ?_
      obtain ⟨w115, run116, S117⟩ := S93.store0 (P := Tryz.prog) (t := 50) (i := 0) (cs' := [v67, Value.int .i64 s64.2.1, Value.int .i64 s64.2.2.1, Value.int .i64 s64.2.2.2]) (l' := [.box b25 50 [v67, Value.int .i64 s64.2.1, Value.int .i64 s64.2.2.1, Value.int .i64 s64.2.2.2], .box b21 50 [v67, Value.int .i64 s64.2.1, Value.int .i64 s64.2.2.1, Value.int .i64 s64.2.2.2]]) (v := Value.agg #[v67, Value.int .i64 s64.2.1, Value.int .i64 s64.2.2.1, Value.int .i64 s64.2.2.2]) (c := [v67, Value.int .i64 s64.2.1, Value.int .i64 s64.2.2.1, Value.int .i64 s64.2.2.2]) rfl Tryz.sizeOf50 rfl rfl (ones_cons h68.one (ones_cons rfl (ones_cons rfl (ones_cons rfl ones_nil)))) (Nat.le_of_ble_eq_true rfl) rfl rfl
      refine FL.act rfl rfl (E.store k90 rfl run116) ?_
      obtain ⟨H118, S119, i120, at121⟩ := S117.sealBox (i := 0) (l' := [.box b21 50 [v67, Value.int .i64 s64.2.1, Value.int .i64 s64.2.2.1, Value.int .i64 s64.2.2.2]]) rfl rfl
      refine FL.nil ?_
      refine FW.ret ?_
      obtain rfl := Option.some.inj hp
      exact ⟨.inr rfl, resC rfl k90 (loadVar_A Tryz.isAgg50 Tryz.sizeOf50 (at121.now S119.sl) rfl) ⟨_, _, rfl, S119.run, (h68.mono (up_mono i120))⟩⟩
  ·
    intro x66; exact x66.elim

theorem w_impl_ChainSteps_1 {Ha : GH} {wa : World} (hs : Sl Ha wa) (a0 : Int) (q0 : Addr) (b0 : Int) (c0 : CAt Ha q0 [Value.int .i64 b0]) :
    Calls Tryz.prog 30 #[Value.int .i64 a0, Value.pointer (some q0)] wa (Sc Ha wa (Value.int .i64 (PF.impl_ChainSteps_1 a0 b0))) := by
  obtain ⟨r, hp⟩ : ∃ r, (PF.impl_ChainSteps_1 a0 b0) = r := ⟨_, rfl⟩
  rw [hp]
  unfold PF.impl_ChainSteps_1 at hp
  have S0 := St.init hs
  refine calls_go (N := 7) (args := [Value.int .i64 a0, Value.pointer (some q0)]) Tryz.func30 rfl rfl rfl ?_
  refine FW.seq ?_
  refine FW.region ?_
  refine FL.val rfl rfl rfl (E.assign (v := Value.int .i64 0) rfl) ?_
  refine FL.nil ?_
  refine FW.seq ?_
  refine FW.region ?_
  refine FL.val rfl rfl rfl (E.move (v := Value.int .i64 a0) rfl) ?_
  refine FL.val rfl rfl rfl (E.load rfl (run_load0 Tryz.isAgg3 (c0.now S0.sl) rfl)) ?_
  refine FL.val rfl rfl rfl (E.add rfl rfl) ?_
  refine FL.val rfl rfl rfl (E.assign (v := Value.int .i64 (wr (a0 + b0))) rfl) ?_
  refine FL.nil ?_
  refine FW.ret ?_
  obtain rfl := hp
  exact ⟨.inr rfl, res1 rfl rfl ⟨rfl, S0.back⟩⟩

@[reducible] def p_impl_ChainSteps (Ha : GH) (wa : World) (r : ((List ResStep) × Bool)) : Ending → World → Prop :=
  fun e w' => ∃ H' : GH, ∃ v0 : Value, ∃ n0 : Nat, ∃ c0 : List Value, e = .returned (Value.tuple #[v0, Value.bool r.2]) ∧ St Ha wa H' w' [.row 50 4 v0 n0 c0] ∧ Els (up wa.heap.size H') eResStep 4 c0 r.1 ∧ (bl c0).Nodup
theorem w_impl_ChainSteps {Ha : GH} {wa : World} (hs : Sl Ha wa) (a0 : Cnf) (v0_1 : Value) (p0_1 : RSl Ha (eL eI 1) 1 v0_1 a0.clauses) (v1 : Value) (a1 : List ResStep) (p1 : RSl Ha eResStep 4 v1 a1) (v2 : Value) (a2 : List ResStep) (p2 : RSl Ha eResStep 4 v2 a2) (a3 : Int) {r : ((List ResStep) × Bool)} (hp : (PF.impl_ChainSteps a0 a1 a2 a3) = some r) :
    Calls Tryz.prog 9 #[Value.agg #[Value.int .i64 a0.vars, v0_1], v1, v2, Value.int .i64 a3] wa (p_impl_ChainSteps Ha wa r) := by
  unfold PF.impl_ChainSteps at hp
  have S0 := St.init hs
  refine calls_go (N := 91) (args := [Value.agg #[Value.int .i64 a0.vars, v0_1], v1, v2, Value.int .i64 a3]) Tryz.func9 rfl rfl rfl ?_
  refine FW.seq ?_
  refine FW.region ?_
  obtain ⟨b21, w22, run23, S24⟩ := S0.box (P := Tryz.prog) 31 [Value.int .i64 a0.vars, v0_1] (v := Value.agg #[Value.int .i64 a0.vars, v0_1]) rfl (ones_cons rfl (ones_cons p0_1.one ones_nil))
  refine FL.val rfl rfl rfl (E.box rfl run23) ?_
  obtain ⟨H25, S26, i27, at28⟩ := S24.sealBox (i := 0) (l' := []) rfl rfl
  refine FL.val rfl rfl rfl (E.assign (v := Value.slice none 0 0) rfl) ?_
  refine FL.val rfl rfl rfl (E.assign (v := Value.bool false) rfl) ?_
  refine FL.nil ?_
  refine FW.seq ?_
  refine FW.region ?_
  refine FL.val rfl rfl rfl (E.move (v := v1) rfl) ?_
  refine FL.val rfl rfl rfl (E.lenP te28 rfl p1) ?_
  obtain ⟨b29, w30, run31, S32⟩ := S26.alloc (P := Tryz.prog) 3 [Value.int .i64 0] Tryz.zeroValue3 rfl (ones_cons rfl ones_nil)
  refine FL.val rfl rfl rfl (E.alloc run31) ?_
  obtain ⟨w33, run34, S35⟩ := S32.store0 (P := Tryz.prog) (t := 3) (i := 0) (cs' := [Value.int .i64 (len a1)]) (l' := [.box b29 3 [Value.int .i64 (len a1)]]) (v := Value.int .i64 (len a1)) (c := [Value.int .i64 (len a1)]) rfl Tryz.sizeOf3 rfl rfl (ones_cons rfl ones_nil) (Nat.le_of_ble_eq_true rfl) rfl rfl
  refine FL.act rfl rfl (E.store rfl rfl run34) ?_
  obtain ⟨H36, S37, i38, at39⟩ := S35.sealBox (i := 0) (l' := []) rfl rfl
  refine FL.nil ?_
  refine FW.seq ?_
  refine FW.seq ?_
  refine FW.region ?_
  refine FL.val rfl rfl rfl (E.load rfl (run_loadA Tryz.isAgg31 Tryz.sizeOf31 ((at28.mono i38).now S37.sl) rfl)) ?_
  refine FL.val rfl rfl rfl (E.move (v := v1) rfl) ?_
  obtain ⟨r40, hr41, hp⟩ := bnd hp
  refine FL.call rfl rfl rfl (E.call Tryz.call24 (A2 rfl rfl)) (w_impl_IsDerivation S37.sl a0 v0_1 (p0_1.mono (i27.tr i38)) v1 a1 (p1.mono (i27.tr i38)) hr41) ?_
  rintro e w42 ⟨rfl, r43⟩
  refine ⟨_, rfl, ?_⟩
  have S44 := S37.call r43
  refine FL.val rfl rfl rfl (E.not rfl) ?_
  refine FL.val rfl rfl rfl (E.move (v := Value.bool (!r40)) rfl) ?_
  obtain ⟨t50, hqt50, hp⟩ := bnd hp
  refine FL.cut 5 (fun f w => ∃ H : GH, St Ha wa H w [] ∧ Inc H36 H ∧ f 1 = v1 ∧ f 2 = v2 ∧ f 3 = Value.int .i64 a3 ∧ f 4 = Value.pointer (some ⟨b21, 0, none⟩) ∧ f 10 = Value.pointer (some ⟨b29, 0, none⟩) ∧ f 27 = Value.bool t50) ?_ ?_
  ·
    clear hp; have hp := hqt50; clear hqt50
    rcases ifB hp with ⟨c56, hp⟩ | ⟨c56, hp⟩
    ·
      refine FL.skip (wF_no rfl rfl rfl c56) rfl ?_
      refine FL.skip (wF_no rfl rfl rfl c56) rfl ?_
      refine FL.skip (wF_no rfl rfl rfl c56) rfl ?_
      refine FL.skip (wF_no rfl rfl rfl c56) rfl ?_
      obtain rfl := Option.some.inj hp
      refine FL.val rfl rfl rfl (E.pickT rfl c56 rfl) ?_
      exact FL.nil ⟨rfl, _, S44, (Inc.rfl _), rfl, rfl, rfl, rfl, rfl, rfl⟩
    ·
      refine FL.val (wF_yes rfl rfl rfl c56) rfl rfl (E.load rfl (run_loadA Tryz.isAgg31 Tryz.sizeOf31 ((at28.mono i38).now S44.sl) rfl)) ?_
      refine FL.val (wF_yes rfl rfl rfl c56) rfl rfl (E.move (v := v2) rfl) ?_
      obtain ⟨r57, hr58, hp⟩ := bnd hp
      refine FL.call (wF_yes rfl rfl rfl c56) rfl rfl (E.call Tryz.call24 (A2 rfl rfl)) (w_impl_IsDerivation S44.sl a0 v0_1 (p0_1.mono (i27.tr i38)) v2 a2 (p2.mono (i27.tr i38)) hr58) ?_
      rintro e w59 ⟨rfl, r60⟩
      refine ⟨_, rfl, ?_⟩
      have S61 := S44.call r60
      refine FL.val (wF_yes rfl rfl rfl c56) rfl rfl (E.not rfl) ?_
      obtain rfl := Option.some.inj hp
      refine FL.val rfl rfl rfl (E.pickF rfl c56 rfl) ?_
      exact FL.nil ⟨rfl, _, S61, (Inc.rfl _), rfl, rfl, rfl, rfl, rfl, rfl⟩
  rintro f55 w54 ⟨H51, S52, i53, k62, k63, k64, k65, k66, k67⟩
  refine FL.val rfl rfl rfl (E.move k67) ?_
  refine FL.cut 3 (fun f w => ∃ H : GH, St Ha wa H w [] ∧ Inc H51 H ∧ f 1 = v1 ∧ f 2 = v2 ∧ f 3 = Value.int .i64 a3 ∧ f 4 = Value.pointer (some ⟨b21, 0, none⟩) ∧ f 10 = Value.pointer (some ⟨b29, 0, none⟩) ∧ f 31 = Value.bool (bif t50 then true else ((len a1) == 0))) ?_ ?_
  ·
    rcases bcase t50 with c74 | c74
    ·
      refine FL.skip (wF_no rfl rfl rfl c74) rfl ?_
      refine FL.skip (wF_no rfl rfl rfl c74) rfl ?_
      refine FL.val rfl rfl rfl (E.pickT rfl c74 rfl) ?_
      exact FL.nil ⟨rfl, _, S52, (Inc.rfl _), k62, k63, k64, k65, k66, (congrArg Value.bool (bifT c74).symm)⟩
    ·
      refine FL.val (wF_yes rfl rfl rfl c74) rfl rfl (E.load k66 (run_load0 Tryz.isAgg3 ((at39.mono i53).now S52.sl) rfl)) ?_
      refine FL.val (wF_yes rfl rfl rfl c74) rfl rfl (E.eql rfl rfl) ?_
      refine FL.val rfl rfl rfl (E.pickF rfl c74 rfl) ?_
      exact FL.nil ⟨rfl, _, S52, (Inc.rfl _), k62, k63, k64, k65, k66, (congrArg Value.bool (bifF c74).symm)⟩
  rintro f73 w72 ⟨H69, S70, i71, k75, k76, k77, k78, k79, k80⟩
  refine FL.val rfl rfl rfl (E.move k80) ?_
  refine FL.cut 4 (fun f w => ∃ H : GH, St Ha wa H w [] ∧ Inc H69 H ∧ f 1 = v1 ∧ f 2 = v2 ∧ f 3 = Value.int .i64 a3 ∧ f 4 = Value.pointer (some ⟨b21, 0, none⟩) ∧ f 10 = Value.pointer (some ⟨b29, 0, none⟩) ∧ f 36 = Value.bool (bif (bif t50 then true else ((len a1) == 0)) then true else ((len a2) == 0))) ?_ ?_
  ·
    rcases bcase (bif t50 then true else ((len a1) == 0)) with c87 | c87
    ·
      refine FL.skip (wF_no rfl rfl rfl c87) rfl ?_
      refine FL.skip (wF_no rfl rfl rfl c87) rfl ?_
      refine FL.skip (wF_no rfl rfl rfl c87) rfl ?_
      refine FL.val rfl rfl rfl (E.pickT rfl c87 rfl) ?_
      exact FL.nil ⟨rfl, _, S70, (Inc.rfl _), k75, k76, k77, k78, k79, (congrArg Value.bool (bifT c87).symm)⟩
    ·
      refine FL.val (wF_yes rfl rfl rfl c87) rfl rfl (E.move k76) ?_
      refine FL.val (wF_yes rfl rfl rfl c87) rfl rfl (E.lenP te28 rfl p2) ?_
      refine FL.val (wF_yes rfl rfl rfl c87) rfl rfl (E.eql rfl rfl) ?_
      refine FL.val rfl rfl rfl (E.pickF rfl c87 rfl) ?_
      exact FL.nil ⟨rfl, _, S70, (Inc.rfl _), k75, k76, k77, k78, k79, (congrArg Value.bool (bifF c87).symm)⟩
  rintro f86 w85 ⟨H82, S83, i84, k88, k89, k90, k91, k92, k93⟩
  refine FL.val rfl rfl rfl (E.move k93) ?_
  refine FL.cut 6 (fun f w => ∃ H : GH, St Ha wa H w [] ∧ Inc H82 H ∧ f 1 = v1 ∧ f 2 = v2 ∧ f 3 = Value.int .i64 a3 ∧ f 10 = Value.pointer (some ⟨b29, 0, none⟩) ∧ f 43 = Value.bool (bif (bif (bif t50 then true else ((len a1) == 0)) then true else ((len a2) == 0)) then true else (!(PF.impl_isVar a0.vars a3)))) ?_ ?_
  ·
    rcases bcase (bif (bif t50 then true else ((len a1) == 0)) then true else ((len a2) == 0)) with c103 | c103
    ·
      refine FL.skip (wF_no rfl rfl rfl c103) rfl ?_
      refine FL.skip (wF_no rfl rfl rfl c103) rfl ?_
      refine FL.skip (wF_no rfl rfl rfl c103) rfl ?_
      refine FL.skip (wF_no rfl rfl rfl c103) rfl ?_
      refine FL.skip (wF_no rfl rfl rfl c103) rfl ?_
      refine FL.val rfl rfl rfl (E.pickT rfl c103 rfl) ?_
      exact FL.nil ⟨rfl, _, S83, (Inc.rfl _), k88, k89, k90, k92, (congrArg Value.bool (bifT c103).symm)⟩
    ·
      refine FL.val (wF_yes rfl rfl rfl c103) rfl rfl (E.fieldAddr tf31_0 k91) ?_
      refine FL.val (wF_yes rfl rfl rfl c103) rfl rfl (E.load rfl (run_load1 Tryz.isAgg3 ((at28.mono (((i38.tr i53).tr i71).tr i84)).now S83.sl) rfl)) ?_
      refine FL.val (wF_yes rfl rfl rfl c103) rfl rfl (E.move k90) ?_
      refine FL.call (wF_yes rfl rfl rfl c103) rfl rfl (E.call Tryz.call25 (A2 rfl rfl)) (w_impl_isVar S83.sl a0.vars a3) ?_
      rintro e w104 ⟨rfl, r105⟩
      refine ⟨_, rfl, ?_⟩
      have S106 := S83.call r105
      refine FL.val (wF_yes rfl rfl rfl c103) rfl rfl (E.not rfl) ?_
      refine FL.val rfl rfl rfl (E.pickF rfl c103 rfl) ?_
      exact FL.nil ⟨rfl, _, S106, (Inc.rfl _), k88, k89, k90, k92, (congrArg Value.bool (bifF c103).symm)⟩
  rintro f102 w101 ⟨H98, S99, i100, k107, k108, k109, k110, k111⟩
  refine FL.val rfl rfl rfl (E.move k111) ?_
  refine FL.cut 7 (fun f w => ∃ H : GH, St Ha wa H w [] ∧ Inc H98 H ∧ f 1 = v1 ∧ f 2 = v2 ∧ f 3 = Value.int .i64 a3 ∧ f 10 = Value.pointer (some ⟨b29, 0, none⟩) ∧ f 51 = Value.bool (bif (bif (bif (bif t50 then true else ((len a1) == 0)) then true else ((len a2) == 0)) then true else (!(PF.impl_isVar a0.vars a3))) then true else (decide (200 < (wr ((wr ((len a1) + (len a2))) + 1)))))) ?_ ?_
  ·
    rcases bcase (bif (bif (bif t50 then true else ((len a1) == 0)) then true else ((len a2) == 0)) then true else (!(PF.impl_isVar a0.vars a3))) with c118 | c118
    ·
      refine FL.skip (wF_no rfl rfl rfl c118) rfl ?_
      refine FL.skip (wF_no rfl rfl rfl c118) rfl ?_
      refine FL.skip (wF_no rfl rfl rfl c118) rfl ?_
      refine FL.skip (wF_no rfl rfl rfl c118) rfl ?_
      refine FL.skip (wF_no rfl rfl rfl c118) rfl ?_
      refine FL.skip (wF_no rfl rfl rfl c118) rfl ?_
      refine FL.val rfl rfl rfl (E.pickT rfl c118 rfl) ?_
      exact FL.nil ⟨rfl, _, S99, (Inc.rfl _), k107, k108, k109, k110, (congrArg Value.bool (bifT c118).symm)⟩
    ·
      refine FL.val (wF_yes rfl rfl rfl c118) rfl rfl (E.load k110 (run_load0 Tryz.isAgg3 ((at39.mono (((i53.tr i71).tr i84).tr i100)).now S99.sl) rfl)) ?_
      refine FL.val (wF_yes rfl rfl rfl c118) rfl rfl (E.move k108) ?_
      refine FL.val (wF_yes rfl rfl rfl c118) rfl rfl (E.lenP te28 rfl p2) ?_
      refine FL.val (wF_yes rfl rfl rfl c118) rfl rfl (E.add rfl rfl) ?_
      refine FL.val (wF_yes rfl rfl rfl c118) rfl rfl (E.add rfl rfl) ?_
      refine FL.val (wF_yes rfl rfl rfl c118) rfl rfl (E.gtr rfl rfl) ?_
      refine FL.val rfl rfl rfl (E.pickF rfl c118 rfl) ?_
      exact FL.nil ⟨rfl, _, S99, (Inc.rfl _), k107, k108, k109, k110, (congrArg Value.bool (bifF c118).symm)⟩
  rintro f117 w116 ⟨H113, S114, i115, k119, k120, k121, k122, k123⟩
  refine FL.nil ?_
  rcases ifB hp with ⟨c124, hp⟩ | ⟨c124, hp⟩
  ·
    refine FW.condT k123 c124 ?_
    refine FW.seq ?_
    refine FW.region ?_
    refine FL.val rfl rfl rfl (E.assign (v := Value.slice none 0 0) rfl) ?_
    refine FL.val rfl rfl rfl (E.assign (v := Value.bool false) rfl) ?_
    refine FL.nil ?_
    refine FW.ret ?_
    obtain rfl := Option.some.inj hp
    exact ⟨.inr rfl, res2 rfl rfl rfl ⟨_, _, _, _, rfl, (S114.nil 50 4), Els.nil, List.nodup_nil⟩⟩
  ·
    refine FW.condF k123 c124 ?_
    refine FW.skip ?_
    refine FW.seq ?_
    refine FW.region ?_
    refine FL.val rfl rfl rfl (E.move k119) ?_
    obtain ⟨r125, hr126, hp⟩ := bnd hp
    refine FL.call rfl rfl rfl (E.call Tryz.call27 (A1 rfl)) (w_impl_last_impl_ResStep S114.sl v1 a1 (p1.mono ((((((i27.tr i38).tr i53).tr i71).tr i84).tr i100).tr i115)) hr126) ?_
    rintro e w128 ⟨H127, v131, rfl, r130, h132⟩
    refine ⟨_, rfl, ?_⟩
    have S129 := S114.call r130
    refine FL.val rfl rfl rfl (E.field (fd50_0 rfl) rfl) ?_
    refine FL.val rfl rfl rfl (E.move k120) ?_
    obtain ⟨r133, hr134, hp⟩ := bnd hp
    refine FL.call rfl rfl rfl (E.call Tryz.call27 (A1 rfl)) (w_impl_last_impl_ResStep S129.sl v2 a2 (p2.mono (((((((i27.tr i38).tr i53).tr i71).tr i84).tr i100).tr i115).tr r130.inc)) hr134) ?_
    rintro e w136 ⟨H135, v139, rfl, r138, h140⟩
    refine ⟨_, rfl, ?_⟩
    have S137 := S129.call r138
    refine FL.val rfl rfl rfl (E.field (fd50_0 rfl) rfl) ?_
    refine FL.val rfl rfl rfl (E.move k121) ?_
    obtain ⟨r141, hr142, hp⟩ := bnd hp
    refine FL.call rfl rfl rfl (E.call Tryz.call26 (A3 rfl rfl rfl)) (w_impl_resolve S137.sl v131 r125.clause (h132.mono r138.inc) v139 r133.clause h140 a3 hr142) ?_
    rintro e w144 ⟨H143, v147, n148, cs149, rfl, r146, els150⟩
    refine ⟨_, rfl, ?_⟩
    have els150 := els150.mono (up_le S137.size)
    have S145 := S137.join (l' := [.row 3 1 v147 n148 cs149]) r146 rfl
    refine FL.val rfl rfl rfl (E.move (v := Value.tuple #[v147, Value.bool r141.2]) rfl) ?_
    refine FL.val rfl rfl rfl (E.extract (i := 0) rfl rfl) ?_
    refine FL.val rfl rfl rfl (E.extract (i := 1) rfl rfl) ?_
    refine FL.val rfl rfl rfl (E.assign (v := v147) rfl) ?_
    refine FL.val rfl rfl rfl (E.assign (v := Value.bool r141.2) rfl) ?_
    refine FL.nil ?_
    refine FW.seq ?_
    refine FW.seq ?_
    refine FW.region ?_
    refine FL.val rfl rfl rfl (E.move (v := Value.bool r141.2) rfl) ?_
    refine FL.val rfl rfl rfl (E.not rfl) ?_
    refine FL.nil ?_
    rcases ifB hp with ⟨c151, hp⟩ | ⟨c151, hp⟩
    ·
      refine FW.condT rfl c151 ?_
      refine FW.seq ?_
      refine FW.region ?_
      refine FL.val rfl rfl rfl (E.assign (v := Value.slice none 0 0) rfl) ?_
      refine FL.val rfl rfl rfl (E.assign (v := Value.bool false) rfl) ?_
      refine FL.nil ?_
      refine FW.ret ?_
      obtain rfl := Option.some.inj hp
      exact ⟨.inr rfl, res2 rfl rfl rfl ⟨_, _, _, _, rfl, ((S145.nil 50 4).sel [0] (by decide) rfl), Els.nil, List.nodup_nil⟩⟩
    ·
      refine FW.condF rfl c151 ?_
      refine FW.skip ?_
      refine FW.seq ?_
      refine FW.region ?_
      refine FL.val rfl rfl rfl (E.move k119) ?_
      obtain ⟨r152, hr153, hp⟩ := bnd hp
      refine FL.call rfl rfl rfl (E.call Tryz.call28 (A1 rfl)) (w_impl_cloneSteps S145.sl v1 a1 (p1.mono (((((((((i27.tr i38).tr i53).tr i71).tr i84).tr i100).tr i115).tr r130.inc).tr r138.inc).tr r146.run.inc)) hr153) ?_
      rintro e w155 ⟨H154, v158, n159, cs160, rfl, r157, els161, nd162⟩
      refine ⟨_, rfl, ?_⟩
      have nv163 : New H143 cs160 := New.of_up S145.sl els161.dom
      have els161 := els161.mono (up_le S145.size)
      have S156 := S145.join (l' := [.row 50 4 v158 n159 cs160, .row 3 1 v147 n148 cs149]) r157 rfl
      refine FL.val rfl rfl rfl (E.assign (v := v158) rfl) ?_
      refine FL.nil ?_
      refine FW.seq ?_
      refine FW.seq ?_
      refine FW.region ?_
      refine FL.val rfl rfl rfl (E.move k120) ?_
      refine FL.val rfl rfl rfl (E.lenP te28 rfl p2) ?_
      refine FL.val rfl rfl rfl (E.move (v := Value.int .i64 0) rfl) ?_
      refine FL.nil ?_
      obtain ⟨q165, hq, hp⟩ := bndR hp
      refine FW.block ?_
      refine FW.mono (FW.forL (S := (List ResStep)) (X := Empty) (fun (i165 : Nat) (s165 : (List ResStep)) f w => ∃ H : GH, ∃ v166 : Value, ∃ n167 : Nat, ∃ cs168 : List Value, St Ha wa H w [.row 50 4 v166 n167 cs168, .row 3 1 v147 n148 cs149] ∧ Inc H154 H ∧ Els (up wa.heap.size H) eResStep 4 cs168 s165 ∧ (bl cs168).Nodup ∧ f 69 = Value.int .i64 ((i165 : Nat) : Int) ∧ f 3 = Value.int .i64 a3 ∧ f 10 = Value.pointer (some ⟨b29, 0, none⟩) ∧ f 11 = v147 ∧ f 13 = v166 ∧ f 67 = v2 ∧ f 68 = Value.int .i64 (len a2)) (fun (q : Rs (List ResStep) Empty) e f w => match q with | .go s165 => e = Exit.exit 0 ∧ (∃ H : GH, ∃ v166 : Value, ∃ n167 : Nat, ∃ cs168 : List Value, St Ha wa H w [.row 50 4 v166 n167 cs168, .row 3 1 v147 n148 cs149] ∧ Inc H154 H ∧ Els (up wa.heap.size H) eResStep 4 cs168 s165 ∧ (bl cs168).Nodup ∧ f 3 = Value.int .i64 a3 ∧ f 10 = Value.pointer (some ⟨b29, 0, none⟩) ∧ f 11 = v147 ∧ f 13 = v166) | .rt x => x.elim) hq ⟨_, _, _, _, S156, (Inc.rfl _), els161, nd162, rfl, k121, k122, rfl, rfl, rfl, rfl⟩ ?_ ?_) ?_
      ·
        clear hp hq
        rintro i165 y164 s165 f233 w232 ⟨H229, v166, n167, cs168, S230, i231, els169, nd170, k234, k235, k236, k237, k238, k239, k240⟩ hx165 o287 hp
        refine FW.seq ?_
        refine FW.region ?_
        refine FL.val rfl rfl rfl (E.lssT k234 k240 (lss_len hx165)) ?_
        refine FL.nil ?_
        refine FW.seq ?_
        refine FW.condT rfl rfl ?_
        refine FW.skip ?_
        refine FW.seq ?_
        refine FW.block ?_
        refine FW.seq ?_
        refine FW.region ?_
        obtain ⟨p241, cs242, pt243, l244, at245, rel246⟩ := p2.at (ix_nat hx165)
        obtain ⟨v247, rfl, h248⟩ := eResStep_open rel246
        refine FL.val rfl rfl rfl (E.indexAddr te28 k239 k234 pt243) ?_
        refine FL.val rfl rfl rfl (E.load rfl (run_loadA Tryz.isAgg50 Tryz.sizeOf50 ((at245.mono (((((((((((i27.tr i38).tr i53).tr i71).tr i84).tr i100).tr i115).tr r130.inc).tr r138.inc).tr r146.run.inc).tr r157.run.inc).tr i231)).now S230.sl) rfl)) ?_
        obtain ⟨b249, w250, run251, S252⟩ := S230.alloc (P := Tryz.prog) 50 [Value.slice none 0 0, Value.int .i64 0, Value.int .i64 0, Value.int .i64 0] Tryz.zeroValue50 rfl (ones_cons rfl (ones_cons rfl (ones_cons rfl (ones_cons rfl ones_nil))))
        refine FL.val rfl rfl rfl (E.alloc run251) ?_
        obtain ⟨w253, run254, S255⟩ := S252.store0 (P := Tryz.prog) (t := 50) (i := 0) (cs' := [v247, Value.int .i64 y164.left, Value.int .i64 y164.right, Value.int .i64 y164.pivot]) (l' := [.box b249 50 [v247, Value.int .i64 y164.left, Value.int .i64 y164.right, Value.int .i64 y164.pivot], .row 50 4 v166 n167 cs168, .row 3 1 v147 n148 cs149]) (v := Value.agg #[v247, Value.int .i64 y164.left, Value.int .i64 y164.right, Value.int .i64 y164.pivot]) (c := [v247, Value.int .i64 y164.left, Value.int .i64 y164.right, Value.int .i64 y164.pivot]) rfl Tryz.sizeOf50 rfl rfl (ones_cons h248.one (ones_cons rfl (ones_cons rfl (ones_cons rfl ones_nil)))) (Nat.le_of_ble_eq_true rfl) rfl rfl
        refine FL.act rfl rfl (E.store rfl rfl run254) ?_
        obtain ⟨H256, S257, i258, at259⟩ := S255.sealBox (i := 0) (l' := [.row 50 4 v166 n167 cs168, .row 3 1 v147 n148 cs149]) rfl rfl
        refine FL.nil ?_
        refine FW.region ?_
        refine FL.val rfl rfl rfl (E.move k238) ?_
        refine FL.val rfl rfl rfl (E.load rfl (run_loadA Tryz.isAgg50 Tryz.sizeOf50 (at259.now S257.sl) rfl)) ?_
        refine FL.val rfl rfl rfl (E.makeFunc A0 (A1 k236)) ?_
        obtain ⟨r260, hr261, hp⟩ := bnd hp
        refine FL.call rfl rfl rfl (E.call Tryz.call29 (A2 rfl rfl)) (w_impl_ResStep_moved S257.sl y164 v247 (h248.mono ((((((((((((i27.tr i38).tr i53).tr i71).tr i84).tr i100).tr i115).tr r130.inc).tr r138.inc).tr r146.run.inc).tr r157.run.inc).tr i231).tr i258)) (Value.func (.func 30) #[] #[Value.pointer (some ⟨b29, 0, none⟩)]) (fun x0 => some (PF.impl_ChainSteps_1 x0 (len a1))) (fun H2 w2 hi2 hs2 x0 r hr => ⟨30, #[Value.pointer (some ⟨b29, 0, none⟩)], rfl, Tryz.call30, by cases hr; exact w_impl_ChainSteps_1 hs2 x0 ⟨b29, 0, none⟩ (len a1) ((at39.mono ((((((((((i53.tr i71).tr i84).tr i100).tr i115).tr r130.inc).tr r138.inc).tr r146.run.inc).tr r157.run.inc).tr i231).tr i258)).mono hi2)⟩) hr261) ?_
        rintro e w263 ⟨H262, v266, rfl, r265, h267⟩
        refine ⟨_, rfl, ?_⟩
        have nv268 : New H256 [v266] := New.of_up S257.sl h267.dom
        have h267 := h267.mono (up_le S257.size)
        have S264 := S257.call r265
        obtain ⟨v269, w270, run271, S272⟩ := S264.buildSlice (P := Tryz.prog) te28 [Value.agg #[v266, Value.int .i64 r260.left, Value.int .i64 r260.right, Value.int .i64 r260.pivot]] (parts := #[(0, Value.agg #[v266, Value.int .i64 r260.left, Value.int .i64 r260.right, Value.int .i64 r260.pivot])]) (cells := [v266, Value.int .i64 r260.left, Value.int .i64 r260.right, Value.int .i64 r260.pivot]) rfl (szs_cons rfl szs_nil) (fc_cons rfl fc_nil) (ones_cons h267.one (ones_cons rfl (ones_cons rfl (ones_cons rfl ones_nil)))) (Nat.le_of_ble_eq_true rfl)
        have els273 : Els (up wa.heap.size H262) eResStep 4 [v266, Value.int .i64 r260.left, Value.int .i64 r260.right, Value.int .i64 r260.pivot] [r260] := (Els.snoc (H := (up wa.heap.size H262)) (E := eResStep) (k := 4) (c := [v266, Value.int .i64 r260.left, Value.int .i64 r260.right, Value.int .i64 r260.pivot]) (x := r260) Els.nil rfl ⟨_, rfl, h267⟩)
        have nd274 : (bl [v266, Value.int .i64 r260.left, Value.int .i64 r260.right, Value.int .i64 r260.pivot]).Nodup := by exact nd_one v266
        refine FL.val rfl rfl rfl (E.buildSlice (B1 rfl) run271) ?_
        obtain ⟨xs275, hz276, hp⟩ := bnd hp
        obtain ⟨v277, w280, n278, cs279, run281, S282, els283, ce284⟩ := S272.appendO (P := Tryz.prog) te28 (i := 1) (j := 0) rfl (els169.mono (up_mono (i258.tr r265.inc))) rfl els273 hz276
        have S282 : St Ha wa H262 w280 [.row 50 4 v269 1 [v266, Value.int .i64 r260.left, Value.int .i64 r260.right, Value.int .i64 r260.pivot], .row 50 4 v277 n278 cs279, .row 3 1 v147 n148 cs149] := S282
        have nd285 : (bl cs279).Nodup := by rw [ce284]; exact nd_app nd170 nd274 (Els.dom (els169.mono (upI.tr i258))) (by exact nv268)
        have S286 : St Ha wa H262 w280 [.row 50 4 v277 n278 cs279, .row 3 1 v147 n148 cs149] := S282.drop 0
        refine FL.val rfl rfl rfl (E.append rfl rfl run281) ?_
        refine FL.val rfl rfl rfl (E.assign (v := v277) rfl) ?_
        refine FL.nil ?_
        refine FW.region ?_
        refine FL.val rfl rfl rfl (E.add k234 rfl) ?_
        refine FL.val rfl rfl rfl (E.move (v := Value.int .i64 (wr (((i165 : Nat) : Int) + 1))) rfl) ?_
        refine FL.nil ?_
        obtain rfl := Option.some.inj hp
        exact ⟨rfl, ⟨_, _, _, _, S286, ((i231.tr i258).tr r265.inc), els283, nd285, (nat_succ rfl (lt_of_get hx165) (p2.mono (((((((((((((i27.tr i38).tr i53).tr i71).tr i84).tr i100).tr i115).tr r130.inc).tr r138.inc).tr r146.run.inc).tr r157.run.inc).tr i231).tr i258).tr r265.inc)).le), k235, k236, k237, rfl, k239, k240⟩⟩
      ·
        clear hp hq
        rintro s165 f324 w323 ⟨H320, v166, n167, cs168, S321, i322, els169, nd170, k325, k326, k327, k328, k329, k330, k331⟩
        refine FW.seq ?_
        refine FW.region ?_
        refine FL.val rfl rfl rfl (E.lss k325 k331) ?_
        refine FL.nil ?_
        refine FW.seq ?_
        refine FW.condF rfl dlt_len ?_
        refine FW.exit ?_
        exact ⟨nofun, rfl, ⟨_, _, _, _, S321, i322, els169, nd170, k326, k327, k328, k329⟩⟩
      ·
        clear hq
        intro e f292 w291 hD
        rcases q165 with s165 | x165
        ·
          obtain ⟨rfl, hD⟩ := hD
          obtain ⟨H288, v166, n167, cs168, S289, i290, els169, nd170, k293, k294, k295, k296⟩ := hD
          replace hp := el_go hp
          refine FW.seq ?_
          refine FW.region ?_
          refine FL.val rfl rfl rfl (E.move k296) ?_
          refine FL.val rfl rfl rfl (E.move k295) ?_
          refine FL.val rfl rfl rfl (E.load k294 (run_load0 Tryz.isAgg3 ((at39.mono (((((((((i53.tr i71).tr i84).tr i100).tr i115).tr r130.inc).tr r138.inc).tr r146.run.inc).tr r157.run.inc).tr i290)).now S289.sl) rfl)) ?_
          refine FL.val rfl rfl rfl (E.sub rfl rfl) ?_
          refine FL.val rfl rfl rfl (E.move k296) ?_
          refine FL.val rfl rfl rfl (E.lenO te28 rfl S289 (i := 0) rfl els169 (by decide)) ?_
          refine FL.val rfl rfl rfl (E.sub rfl rfl) ?_
          refine FL.val rfl rfl rfl (E.move k293) ?_
          obtain ⟨H297, S298, i299, h300, nv301⟩ := S289.sealRowU (i := 1) (l' := [.row 50 4 v166 n167 cs168]) rfl (els150.mono (up_mono (r157.run.inc.tr i290))) (by decide) rfl
          refine FL.val rfl rfl rfl (E.build (B4 rfl rfl rfl rfl) (run_build _ 50 #[(0, v147), (1, Value.int .i64 (wr ((len a1) - 1))), (2, Value.int .i64 (wr ((len s165) - 1))), (3, Value.int .i64 a3)] #[v147, Value.int .i64 (wr ((len a1) - 1)), Value.int .i64 (wr ((len s165) - 1)), Value.int .i64 a3] (by obtain ⟨_, _, rfl⟩ := RSl.ln (h300.mono upI); rfl))) ?_
          obtain ⟨v302, w303, run304, S305⟩ := S298.buildSlice (P := Tryz.prog) te28 [Value.agg #[v147, Value.int .i64 (wr ((len a1) - 1)), Value.int .i64 (wr ((len s165) - 1)), Value.int .i64 a3]] (parts := #[(0, Value.agg #[v147, Value.int .i64 (wr ((len a1) - 1)), Value.int .i64 (wr ((len s165) - 1)), Value.int .i64 a3])]) (cells := [v147, Value.int .i64 (wr ((len a1) - 1)), Value.int .i64 (wr ((len s165) - 1)), Value.int .i64 a3]) rfl (szs_cons rfl szs_nil) (fc_cons rfl fc_nil) (ones_cons h300.one (ones_cons rfl (ones_cons rfl (ones_cons rfl ones_nil)))) (Nat.le_of_ble_eq_true rfl)
          have els306 : Els (up wa.heap.size H297) eResStep 4 [v147, Value.int .i64 (wr ((len a1) - 1)), Value.int .i64 (wr ((len s165) - 1)), Value.int .i64 a3] [(ResStep.mk r141.1 (wr ((len a1) - 1)) (wr ((len s165) - 1)) a3)] := (Els.snoc (H := (up wa.heap.size H297)) (E := eResStep) (k := 4) (c := [v147, Value.int .i64 (wr ((len a1) - 1)), Value.int .i64 (wr ((len s165) - 1)), Value.int .i64 a3]) (x := (ResStep.mk r141.1 (wr ((len a1) - 1)) (wr ((len s165) - 1)) a3)) Els.nil rfl ⟨_, rfl, h300⟩)
          have nd307 : (bl [v147, Value.int .i64 (wr ((len a1) - 1)), Value.int .i64 (wr ((len s165) - 1)), Value.int .i64 a3]).Nodup := by exact nd_one v147
          refine FL.val rfl rfl rfl (E.buildSlice (B1 rfl) run304) ?_
          obtain ⟨xs308, hz309, hp⟩ := bnd hp
          obtain ⟨v310, w313, n311, cs312, run314, S315, els316, ce317⟩ := S305.appendO (P := Tryz.prog) te28 (i := 1) (j := 0) rfl (els169.mono (up_mono i299)) rfl els306 hz309
          have S315 : St Ha wa H297 w313 [.row 50 4 v302 1 [v147, Value.int .i64 (wr ((len a1) - 1)), Value.int .i64 (wr ((len s165) - 1)), Value.int .i64 a3], .row 50 4 v310 n311 cs312] := S315
          have nd318 : (bl cs312).Nodup := by rw [ce317]; exact nd_app nd170 nd307 (Els.dom (els169.mono (upI.tr (Inc.rfl _)))) (by exact nv301)
          have S319 : St Ha wa H297 w313 [.row 50 4 v310 n311 cs312] := S315.drop 0
          refine FL.val rfl rfl rfl (E.append rfl rfl run314) ?_
          refine FL.val rfl rfl rfl (E.assign (v := v310) rfl) ?_
          refine FL.val rfl rfl rfl (E.assign (v := Value.bool true) rfl) ?_
          refine FL.nil ?_
          refine FW.ret ?_
          obtain rfl := Option.some.inj hp
          exact ⟨.inr rfl, res2 rfl rfl rfl ⟨_, _, _, _, rfl, S319, els316, nd318⟩⟩
        · exact x165.elim

theorem w_laws_eqIntS {Ha : GH} {wa : World} (hs : Sl Ha wa) (v0 : Value) (a0 : List Int) (p0 : RSl Ha eI 1 v0 a0) (v1 : Value) (a1 : List Int) (p1 : RSl Ha eI 1 v1 a1) {r : Bool} (hp : (PF.laws_eqIntS a0 a1) = some r) :
    Calls Tryz.prog 54 #[v0, v1] wa (Sc Ha wa (Value.bool r)) := by
  unfold PF.laws_eqIntS at hp
  have S0 := St.init hs
  refine calls_go (N := 26) (args := [v0, v1]) Tryz.func54 rfl rfl rfl ?_
  refine FW.seq ?_
  refine FW.region ?_
  refine FL.val rfl rfl rfl (E.assign (v := Value.bool false) rfl) ?_
  refine FL.nil ?_
  refine FW.seq ?_
  refine FW.seq ?_
  refine FW.region ?_
  refine FL.val rfl rfl rfl (E.move (v := v0) rfl) ?_
  refine FL.val rfl rfl rfl (E.lenP te41 rfl p0) ?_
  refine FL.val rfl rfl rfl (E.move (v := v1) rfl) ?_
  refine FL.val rfl rfl rfl (E.lenP te41 rfl p1) ?_
  refine FL.val rfl rfl rfl (E.neq rfl rfl) ?_
  refine FL.nil ?_
  rcases ifB hp with ⟨c21, hp⟩ | ⟨c21, hp⟩
  ·
    refine FW.condT rfl c21 ?_
    refine FW.seq ?_
    refine FW.region ?_
    refine FL.val rfl rfl rfl (E.assign (v := Value.bool false) rfl) ?_
    refine FL.nil ?_
    refine FW.ret ?_
    obtain rfl := Option.some.inj hp
    exact ⟨.inr rfl, res1 rfl rfl ⟨rfl, S0.back⟩⟩
  ·
    refine FW.condF rfl c21 ?_
    refine FW.skip ?_
    refine FW.seq ?_
    refine FW.seq ?_
    refine FW.region ?_
    refine FL.val rfl rfl rfl (E.assign (v := Value.int .i64 0) rfl) ?_
    refine FL.nil ?_
    obtain ⟨q23, hq, hp⟩ := bndR hp
    refine FW.block ?_
    refine FW.mono (FW.forL (S := Unit) (X := Bool) (fun (i23 : Nat) (s23 : Unit) f w => ∃ H : GH, St Ha wa H w [] ∧ Inc Ha H ∧ f 5 = Value.int .i64 ((i23 : Nat) : Int) ∧ f 0 = v0 ∧ f 1 = v1) (fun q e f w => match q with | .go s23 => e = Exit.exit 0 ∧ (∃ H : GH, St Ha wa H w [] ∧ Inc Ha H) | .rt x => ((e = Exit.ret) ∧ (fun e f w => (e = Exit.normal ∨ e = Exit.ret) ∧ ∀ a, Fr 26 a f → ∃ v, (results Tryz.f54 a.tmps).run Tryz.prog w = .ok v w ∧ (Sc Ha wa (Value.bool x)) (.returned v) w) e f w)) hq ⟨_, S0, (Inc.rfl _), rfl, rfl, rfl⟩ ?_ ?_) ?_
    ·
      clear hp hq
      rintro i23 y22 s23 f55 w54 ⟨H51, S52, i53, k56, k57, k58⟩ hx23 o78 hp
      refine FW.seq ?_
      refine FW.seq ?_
      refine FW.region ?_
      refine FL.val rfl rfl rfl (E.move k56) ?_
      refine FL.val rfl rfl rfl (E.move k57) ?_
      refine FL.val rfl rfl rfl (E.lenP te41 rfl p0) ?_
      refine FL.val rfl rfl rfl (E.lssT rfl rfl (lss_len hx23)) ?_
      refine FL.nil ?_
      refine FW.condT rfl rfl ?_
      refine FW.skip ?_
      refine FW.seq ?_
      refine FW.block ?_
      refine FW.seq ?_
      refine FW.draw (fun w' => Run w54.heap.size H51 w54 H51 w') (by kernel_rfl) (by kernel_rfl) (run_drew S52.sl) ?_
      refine FD.val rfl rfl rfl (fun w' hw' => (E.move k57)) ?_
      refine FD.val rfl rfl rfl (fun w' hw' => (E.move k56)) ?_
      obtain ⟨p60, cs61, pt62, l63, at64, rel65⟩ := p0.at (ix_nat hx23)
      obtain rfl := eI_open rel65
      refine FD.val rfl rfl rfl (fun w' hw' => (E.indexAddr te41 rfl rfl pt62)) ?_
      refine FD.val rfl rfl rfl (fun w' hw' => (E.load rfl (run_load0 Tryz.isAgg3 ((at64.mono i53).now (S52.call hw').sl) rfl))) ?_
      refine FD.val rfl rfl rfl (fun w' hw' => (E.move k58)) ?_
      refine FD.val rfl rfl rfl (fun w' hw' => (E.move k56)) ?_
      obtain ⟨x72, hx73, hp⟩ := bnd hp
      obtain ⟨p66, cs67, pt68, l69, at70, rel71⟩ := p1.at hx73
      obtain rfl := eI_open rel71
      refine FD.val rfl rfl rfl (fun w' hw' => (E.indexAddr te41 rfl rfl pt68)) ?_
      refine FD.val rfl rfl rfl (fun w' hw' => (E.load rfl (run_load0 Tryz.isAgg3 ((at70.mono i53).now (S52.call hw').sl) rfl))) ?_
      refine FD.val rfl rfl rfl (fun w' hw' => (E.neq rfl rfl)) ?_
      refine FD.nil ?_
      intro w74 r76
      have S75 := S52.call r76
      rcases ifB hp with ⟨c77, hp⟩ | ⟨c77, hp⟩
      ·
        refine FW.condT rfl c77 ?_
        refine FW.seq ?_
        refine FW.region ?_
        refine FL.val rfl rfl rfl (E.assign (v := Value.bool false) rfl) ?_
        refine FL.nil ?_
        refine FW.ret ?_
        obtain rfl := Option.some.inj hp
        exact ⟨nofun, rfl, ⟨.inr rfl, res1 rfl rfl ⟨rfl, S75.back⟩⟩⟩
      ·
        refine FW.condF rfl c77 ?_
        refine FW.skip ?_
        refine FW.region ?_
        refine FL.val rfl rfl rfl (E.move k56) ?_
        refine FL.val rfl rfl rfl (E.add rfl rfl) ?_
        refine FL.val rfl rfl rfl (E.assign (v := Value.int .i64 (wr (((i23 : Nat) : Int) + 1))) rfl) ?_
        refine FL.nil ?_
        obtain rfl := Option.some.inj hp
        exact ⟨rfl, ⟨_, S75, i53, (nat_succ rfl (lt_of_get hx23) (p0.mono i53).le), k57, k58⟩⟩
    ·
      clear hp hq
      rintro s23 f88 w87 ⟨H84, S85, i86, k89, k90, k91⟩
      refine FW.seq ?_
      refine FW.seq ?_
      refine FW.region ?_
      refine FL.val rfl rfl rfl (E.move k89) ?_
      refine FL.val rfl rfl rfl (E.move k90) ?_
      refine FL.val rfl rfl rfl (E.lenP te41 rfl p0) ?_
      refine FL.val rfl rfl rfl (E.lss rfl rfl) ?_
      refine FL.nil ?_
      refine FW.condF rfl dlt_len ?_
      refine FW.exit ?_
      exact ⟨nofun, rfl, ⟨_, S85, i86⟩⟩
    ·
      clear hq
      intro e f83 w82 hD
      rcases q23 with s23 | x23
      ·
        obtain ⟨rfl, hD⟩ := hD
        obtain ⟨H79, S80, i81⟩ := hD
        replace hp := el_go hp
        refine FW.seq ?_
        refine FW.region ?_
        refine FL.val rfl rfl rfl (E.assign (v := Value.bool true) rfl) ?_
        refine FL.nil ?_
        refine FW.ret ?_
        obtain rfl := Option.some.inj hp
        exact ⟨.inr rfl, res1 rfl rfl ⟨rfl, S80.back⟩⟩
      ·
        obtain ⟨he, hL⟩ := hD
        replace hp := el_rt hp
        obtain rfl := Option.some.inj hp
        subst he
        exact hL

theorem w_laws_eqResStep {Ha : GH} {wa : World} (hs : Sl Ha wa) (a0 : ResStep) (v0_0 : Value) (p0_0 : RSl Ha eI 1 v0_0 a0.clause) (a1 : ResStep) (v1_0 : Value) (p1_0 : RSl Ha eI 1 v1_0 a1.clause) {r : Bool} (hp : (PF.laws_eqResStep a0 a1) = some r) :
    Calls Tryz.prog 31 #[Value.agg #[v0_0, Value.int .i64 a0.left, Value.int .i64 a0.right, Value.int .i64 a0.pivot], Value.agg #[v1_0, Value.int .i64 a1.left, Value.int .i64 a1.right, Value.int .i64 a1.pivot]] wa (Sc Ha wa (Value.bool r)) := by
  unfold PF.laws_eqResStep at hp
  have S0 := St.init hs
  refine calls_go (N := 26) (args := [Value.agg #[v0_0, Value.int .i64 a0.left, Value.int .i64 a0.right, Value.int .i64 a0.pivot], Value.agg #[v1_0, Value.int .i64 a1.left, Value.int .i64 a1.right, Value.int .i64 a1.pivot]]) Tryz.func31 rfl rfl rfl ?_
  refine FW.seq ?_
  refine FW.region ?_
  obtain ⟨b21, w22, run23, S24⟩ := S0.box (P := Tryz.prog) 50 [v0_0, Value.int .i64 a0.left, Value.int .i64 a0.right, Value.int .i64 a0.pivot] (v := Value.agg #[v0_0, Value.int .i64 a0.left, Value.int .i64 a0.right, Value.int .i64 a0.pivot]) rfl (ones_cons p0_0.one (ones_cons rfl (ones_cons rfl (ones_cons rfl ones_nil))))
  refine FL.val rfl rfl rfl (E.box rfl run23) ?_
  obtain ⟨H25, S26, i27, at28⟩ := S24.sealBox (i := 0) (l' := []) rfl rfl
  obtain ⟨b29, w30, run31, S32⟩ := S26.box (P := Tryz.prog) 50 [v1_0, Value.int .i64 a1.left, Value.int .i64 a1.right, Value.int .i64 a1.pivot] (v := Value.agg #[v1_0, Value.int .i64 a1.left, Value.int .i64 a1.right, Value.int .i64 a1.pivot]) rfl (ones_cons p1_0.one (ones_cons rfl (ones_cons rfl (ones_cons rfl ones_nil))))
  refine FL.val rfl rfl rfl (E.box rfl run31) ?_
  obtain ⟨H33, S34, i35, at36⟩ := S32.sealBox (i := 0) (l' := []) rfl rfl
  refine FL.val rfl rfl rfl (E.assign (v := Value.bool false) rfl) ?_
  refine FL.nil ?_
  refine FW.seq ?_
  refine FW.seq ?_
  refine FW.region ?_
  refine FL.val rfl rfl rfl (E.fieldAddr tf50_0 rfl) ?_
  refine FL.val rfl rfl rfl (E.load rfl (run_load1 Tryz.isAgg41 ((at28.mono i35).now S34.sl) rfl)) ?_
  refine FL.val rfl rfl rfl (E.fieldAddr tf50_0 rfl) ?_
  refine FL.val rfl rfl rfl (E.load rfl (run_load1 Tryz.isAgg41 (at36.now S34.sl) rfl)) ?_
  obtain ⟨r37, hr38, hp⟩ := bnd hp
  refine FL.call rfl rfl rfl (E.call Tryz.call54 (A2 rfl rfl)) (w_laws_eqIntS S34.sl v0_0 a0.clause (p0_0.mono (i27.tr i35)) v1_0 a1.clause (p1_0.mono (i27.tr i35)) hr38) ?_
  rintro e w39 ⟨rfl, r40⟩
  refine ⟨_, rfl, ?_⟩
  have S41 := S34.call r40
  refine FL.val rfl rfl rfl (E.not rfl) ?_
  refine FL.nil ?_
  rcases ifB hp with ⟨c42, hp⟩ | ⟨c42, hp⟩
  ·
    refine FW.condT rfl c42 ?_
    refine FW.seq ?_
    refine FW.region ?_
    refine FL.val rfl rfl rfl (E.assign (v := Value.bool false) rfl) ?_
    refine FL.nil ?_
    refine FW.ret ?_
    obtain rfl := Option.some.inj hp
    exact ⟨.inr rfl, res1 rfl rfl ⟨rfl, S41.back⟩⟩
  ·
    refine FW.condF rfl c42 ?_
    refine FW.skip ?_
    refine FW.seq ?_
    refine FW.seq ?_
    refine FW.region ?_
    refine FL.val rfl rfl rfl (E.fieldAddr tf50_1 rfl) ?_
    refine FL.val rfl rfl rfl (E.load rfl (run_load1 Tryz.isAgg3 ((at28.mono i35).now S41.sl) rfl)) ?_
    refine FL.val rfl rfl rfl (E.fieldAddr tf50_1 rfl) ?_
    refine FL.val rfl rfl rfl (E.load rfl (run_load1 Tryz.isAgg3 (at36.now S41.sl) rfl)) ?_
    refine FL.val rfl rfl rfl (E.neq rfl rfl) ?_
    refine FL.nil ?_
    rcases ifB hp with ⟨c43, hp⟩ | ⟨c43, hp⟩
    ·
      refine FW.condT rfl c43 ?_
      refine FW.seq ?_
      refine FW.region ?_
      refine FL.val rfl rfl rfl (E.assign (v := Value.bool false) rfl) ?_
      refine FL.nil ?_
      refine FW.ret ?_
      obtain rfl := Option.some.inj hp
      exact ⟨.inr rfl, res1 rfl rfl ⟨rfl, S41.back⟩⟩
    ·
      refine FW.condF rfl c43 ?_
      refine FW.skip ?_
      refine FW.seq ?_
      refine FW.seq ?_
      refine FW.region ?_
      refine FL.val rfl rfl rfl (E.fieldAddr tf50_2 rfl) ?_
      refine FL.val rfl rfl rfl (E.load rfl (run_load1 Tryz.isAgg3 ((at28.mono i35).now S41.sl) rfl)) ?_
      refine FL.val rfl rfl rfl (E.fieldAddr tf50_2 rfl) ?_
      refine FL.val rfl rfl rfl (E.load rfl (run_load1 Tryz.isAgg3 (at36.now S41.sl) rfl)) ?_
      refine FL.val rfl rfl rfl (E.neq rfl rfl) ?_
      refine FL.nil ?_
      rcases ifB hp with ⟨c44, hp⟩ | ⟨c44, hp⟩
      ·
        refine FW.condT rfl c44 ?_
        refine FW.seq ?_
        refine FW.region ?_
        refine FL.val rfl rfl rfl (E.assign (v := Value.bool false) rfl) ?_
        refine FL.nil ?_
        refine FW.ret ?_
        obtain rfl := Option.some.inj hp
        exact ⟨.inr rfl, res1 rfl rfl ⟨rfl, S41.back⟩⟩
      ·
        refine FW.condF rfl c44 ?_
        refine FW.skip ?_
        refine FW.seq ?_
        refine FW.seq ?_
        refine FW.region ?_
        refine FL.val rfl rfl rfl (E.fieldAddr tf50_3 rfl) ?_
        refine FL.val rfl rfl rfl (E.load rfl (run_load1 Tryz.isAgg3 ((at28.mono i35).now S41.sl) rfl)) ?_
        refine FL.val rfl rfl rfl (E.fieldAddr tf50_3 rfl) ?_
        refine FL.val rfl rfl rfl (E.load rfl (run_load1 Tryz.isAgg3 (at36.now S41.sl) rfl)) ?_
        refine FL.val rfl rfl rfl (E.neq rfl rfl) ?_
        refine FL.nil ?_
        rcases ifB hp with ⟨c45, hp⟩ | ⟨c45, hp⟩
        ·
          refine FW.condT rfl c45 ?_
          refine FW.seq ?_
          refine FW.region ?_
          refine FL.val rfl rfl rfl (E.assign (v := Value.bool false) rfl) ?_
          refine FL.nil ?_
          refine FW.ret ?_
          obtain rfl := Option.some.inj hp
          exact ⟨.inr rfl, res1 rfl rfl ⟨rfl, S41.back⟩⟩
        ·
          refine FW.condF rfl c45 ?_
          refine FW.skip ?_
          refine FW.seq ?_
          refine FW.region ?_
          refine FL.val rfl rfl rfl (E.assign (v := Value.bool true) rfl) ?_
          refine FL.nil ?_
          refine FW.ret ?_
          obtain rfl := Option.some.inj hp
          exact ⟨.inr rfl, res1 rfl rfl ⟨rfl, S41.back⟩⟩

theorem w_laws_eqResStepS {Ha : GH} {wa : World} (hs : Sl Ha wa) (v0 : Value) (a0 : List ResStep) (p0 : RSl Ha eResStep 4 v0 a0) (v1 : Value) (a1 : List ResStep) (p1 : RSl Ha eResStep 4 v1 a1) {r : Bool} (hp : (PF.laws_eqResStepS a0 a1) = some r) :
    Calls Tryz.prog 10 #[v0, v1] wa (Sc Ha wa (Value.bool r)) := by
  unfold PF.laws_eqResStepS at hp
  have S0 := St.init hs
  refine calls_go (N := 27) (args := [v0, v1]) Tryz.func10 rfl rfl rfl ?_
  refine FW.seq ?_
  refine FW.region ?_
  refine FL.val rfl rfl rfl (E.assign (v := Value.bool false) rfl) ?_
  refine FL.nil ?_
  refine FW.seq ?_
  refine FW.seq ?_
  refine FW.region ?_
  refine FL.val rfl rfl rfl (E.move (v := v0) rfl) ?_
  refine FL.val rfl rfl rfl (E.lenP te28 rfl p0) ?_
  refine FL.val rfl rfl rfl (E.move (v := v1) rfl) ?_
  refine FL.val rfl rfl rfl (E.lenP te28 rfl p1) ?_
  refine FL.val rfl rfl rfl (E.neq rfl rfl) ?_
  refine FL.nil ?_
  rcases ifB hp with ⟨c21, hp⟩ | ⟨c21, hp⟩
  ·
    refine FW.condT rfl c21 ?_
    refine FW.seq ?_
    refine FW.region ?_
    refine FL.val rfl rfl rfl (E.assign (v := Value.bool false) rfl) ?_
    refine FL.nil ?_
    refine FW.ret ?_
    obtain rfl := Option.some.inj hp
    exact ⟨.inr rfl, res1 rfl rfl ⟨rfl, S0.back⟩⟩
  ·
    refine FW.condF rfl c21 ?_
    refine FW.skip ?_
    refine FW.seq ?_
    refine FW.seq ?_
    refine FW.region ?_
    refine FL.val rfl rfl rfl (E.assign (v := Value.int .i64 0) rfl) ?_
    refine FL.nil ?_
    obtain ⟨q23, hq, hp⟩ := bndR hp
    refine FW.block ?_
    refine FW.mono (FW.forL (S := Unit) (X := Bool) (fun (i23 : Nat) (s23 : Unit) f w => ∃ H : GH, St Ha wa H w [] ∧ Inc Ha H ∧ f 5 = Value.int .i64 ((i23 : Nat) : Int) ∧ f 0 = v0 ∧ f 1 = v1) (fun q e f w => match q with | .go s23 => e = Exit.exit 0 ∧ (∃ H : GH, St Ha wa H w [] ∧ Inc Ha H) | .rt x => ((e = Exit.ret) ∧ (fun e f w => (e = Exit.normal ∨ e = Exit.ret) ∧ ∀ a, Fr 27 a f → ∃ v, (results Tryz.f10 a.tmps).run Tryz.prog w = .ok v w ∧ (Sc Ha wa (Value.bool x)) (.returned v) w) e f w)) hq ⟨_, S0, (Inc.rfl _), rfl, rfl, rfl⟩ ?_ ?_) ?_
    ·
      clear hp hq
      rintro i23 y22 s23 f61 w60 ⟨H57, S58, i59, k62, k63, k64⟩ hx23 o90 hp
      refine FW.seq ?_
      refine FW.seq ?_
      refine FW.region ?_
      refine FL.val rfl rfl rfl (E.move k62) ?_
      refine FL.val rfl rfl rfl (E.move k63) ?_
      refine FL.val rfl rfl rfl (E.lenP te28 rfl p0) ?_
      refine FL.val rfl rfl rfl (E.lssT rfl rfl (lss_len hx23)) ?_
      refine FL.nil ?_
      refine FW.condT rfl rfl ?_
      refine FW.skip ?_
      refine FW.seq ?_
      refine FW.block ?_
      refine FW.seq ?_
      refine FW.draw (fun w' => Run w60.heap.size H57 w60 H57 w') (by kernel_rfl) (by kernel_rfl) (run_drew S58.sl) ?_
      refine FD.val rfl rfl rfl (fun w' hw' => (E.move k63)) ?_
      refine FD.val rfl rfl rfl (fun w' hw' => (E.move k62)) ?_
      obtain ⟨p66, cs67, pt68, l69, at70, rel71⟩ := p0.at (ix_nat hx23)
      obtain ⟨v72, rfl, h73⟩ := eResStep_open rel71
      refine FD.val rfl rfl rfl (fun w' hw' => (E.indexAddr te28 rfl rfl pt68)) ?_
      refine FD.val rfl rfl rfl (fun w' hw' => (E.load rfl (run_loadA Tryz.isAgg50 Tryz.sizeOf50 ((at70.mono i59).now (S58.call hw').sl) rfl))) ?_
      refine FD.val rfl rfl rfl (fun w' hw' => (E.move k64)) ?_
      refine FD.val rfl rfl rfl (fun w' hw' => (E.move k62)) ?_
      obtain ⟨x80, hx81, hp⟩ := bnd hp
      obtain ⟨p74, cs75, pt76, l77, at78, rel79⟩ := p1.at hx81
      obtain ⟨v82, rfl, h83⟩ := eResStep_open rel79
      refine FD.val rfl rfl rfl (fun w' hw' => (E.indexAddr te28 rfl rfl pt76)) ?_
      refine FD.val rfl rfl rfl (fun w' hw' => (E.load rfl (run_loadA Tryz.isAgg50 Tryz.sizeOf50 ((at78.mono i59).now (S58.call hw').sl) rfl))) ?_
      obtain ⟨r84, hr85, hp⟩ := bnd hp
      refine FD.call rfl rfl rfl (fun w' hw' => (E.call Tryz.call31 (A2 rfl rfl))) (fun w' hw' => Calls.cls hw' (w_laws_eqResStep (S58.call hw').sl y22 v72 (h73.mono i59) x80 v82 (h83.mono i59) hr85)) ?_
      refine FD.val rfl rfl rfl (fun w' hw' => (E.not rfl)) ?_
      refine FD.nil ?_
      intro w86 r88
      have S87 := S58.call r88
      rcases ifB hp with ⟨c89, hp⟩ | ⟨c89, hp⟩
      ·
        refine FW.condT rfl c89 ?_
        refine FW.seq ?_
        refine FW.region ?_
        refine FL.val rfl rfl rfl (E.assign (v := Value.bool false) rfl) ?_
        refine FL.nil ?_
        refine FW.ret ?_
        obtain rfl := Option.some.inj hp
        exact ⟨nofun, rfl, ⟨.inr rfl, res1 rfl rfl ⟨rfl, S87.back⟩⟩⟩
      ·
        refine FW.condF rfl c89 ?_
        refine FW.skip ?_
        refine FW.region ?_
        refine FL.val rfl rfl rfl (E.move k62) ?_
        refine FL.val rfl rfl rfl (E.add rfl rfl) ?_
        refine FL.val rfl rfl rfl (E.assign (v := Value.int .i64 (wr (((i23 : Nat) : Int) + 1))) rfl) ?_
        refine FL.nil ?_
        obtain rfl := Option.some.inj hp
        exact ⟨rfl, ⟨_, S87, i59, (nat_succ rfl (lt_of_get hx23) (p0.mono i59).le), k63, k64⟩⟩
    ·
      clear hp hq
      rintro s23 f100 w99 ⟨H96, S97, i98, k101, k102, k103⟩
      refine FW.seq ?_
      refine FW.seq ?_
      refine FW.region ?_
      refine FL.val rfl rfl rfl (E.move k101) ?_
      refine FL.val rfl rfl rfl (E.move k102) ?_
      refine FL.val rfl rfl rfl (E.lenP te28 rfl p0) ?_
      refine FL.val rfl rfl rfl (E.lss rfl rfl) ?_
      refine FL.nil ?_
      refine FW.condF rfl dlt_len ?_
      refine FW.exit ?_
      exact ⟨nofun, rfl, ⟨_, S97, i98⟩⟩
    ·
      clear hq
      intro e f95 w94 hD
      rcases q23 with s23 | x23
      ·
        obtain ⟨rfl, hD⟩ := hD
        obtain ⟨H91, S92, i93⟩ := hD
        replace hp := el_go hp
        refine FW.seq ?_
        refine FW.region ?_
        refine FL.val rfl rfl rfl (E.assign (v := Value.bool true) rfl) ?_
        refine FL.nil ?_
        refine FW.ret ?_
        obtain rfl := Option.some.inj hp
        exact ⟨.inr rfl, res1 rfl rfl ⟨rfl, S92.back⟩⟩
      ·
        obtain ⟨he, hL⟩ := hD
        replace hp := el_rt hp
        obtain rfl := Option.some.inj hp
        subst he
        exact hL

theorem w_laws_eqIntSS {Ha : GH} {wa : World} (hs : Sl Ha wa) (v0 : Value) (a0 : List (List Int)) (p0 : RSl Ha (eL eI 1) 1 v0 a0) (v1 : Value) (a1 : List (List Int)) (p1 : RSl Ha (eL eI 1) 1 v1 a1) {r : Bool} (hp : (PF.laws_eqIntSS a0 a1) = some r) :
    Calls Tryz.prog 32 #[v0, v1] wa (Sc Ha wa (Value.bool r)) := by
  unfold PF.laws_eqIntSS at hp
  have S0 := St.init hs
  refine calls_go (N := 27) (args := [v0, v1]) Tryz.func32 rfl rfl rfl ?_
  refine FW.seq ?_
  refine FW.region ?_
  refine FL.val rfl rfl rfl (E.assign (v := Value.bool false) rfl) ?_
  refine FL.nil ?_
  refine FW.seq ?_
  refine FW.seq ?_
  refine FW.region ?_
  refine FL.val rfl rfl rfl (E.move (v := v0) rfl) ?_
  refine FL.val rfl rfl rfl (E.lenP te22 rfl p0) ?_
  refine FL.val rfl rfl rfl (E.move (v := v1) rfl) ?_
  refine FL.val rfl rfl rfl (E.lenP te22 rfl p1) ?_
  refine FL.val rfl rfl rfl (E.neq rfl rfl) ?_
  refine FL.nil ?_
  rcases ifB hp with ⟨c21, hp⟩ | ⟨c21, hp⟩
  ·
    refine FW.condT rfl c21 ?_
    refine FW.seq ?_
    refine FW.region ?_
    refine FL.val rfl rfl rfl (E.assign (v := Value.bool false) rfl) ?_
    refine FL.nil ?_
    refine FW.ret ?_
    obtain rfl := Option.some.inj hp
    exact ⟨.inr rfl, res1 rfl rfl ⟨rfl, S0.back⟩⟩
  ·
    refine FW.condF rfl c21 ?_
    refine FW.skip ?_
    refine FW.seq ?_
    refine FW.seq ?_
    refine FW.region ?_
    refine FL.val rfl rfl rfl (E.assign (v := Value.int .i64 0) rfl) ?_
    refine FL.nil ?_
    obtain ⟨q23, hq, hp⟩ := bndR hp
    refine FW.block ?_
    refine FW.mono (FW.forL (S := Unit) (X := Bool) (fun (i23 : Nat) (s23 : Unit) f w => ∃ H : GH, St Ha wa H w [] ∧ Inc Ha H ∧ f 5 = Value.int .i64 ((i23 : Nat) : Int) ∧ f 0 = v0 ∧ f 1 = v1) (fun q e f w => match q with | .go s23 => e = Exit.exit 0 ∧ (∃ H : GH, St Ha wa H w [] ∧ Inc Ha H) | .rt x => ((e = Exit.ret) ∧ (fun e f w => (e = Exit.normal ∨ e = Exit.ret) ∧ ∀ a, Fr 27 a f → ∃ v, (results Tryz.f32 a.tmps).run Tryz.prog w = .ok v w ∧ (Sc Ha wa (Value.bool x)) (.returned v) w) e f w)) hq ⟨_, S0, (Inc.rfl _), rfl, rfl, rfl⟩ ?_ ?_) ?_
    ·
      clear hp hq
      rintro i23 y22 s23 f61 w60 ⟨H57, S58, i59, k62, k63, k64⟩ hx23 o90 hp
      refine FW.seq ?_
      refine FW.seq ?_
      refine FW.region ?_
      refine FL.val rfl rfl rfl (E.move k62) ?_
      refine FL.val rfl rfl rfl (E.move k63) ?_
      refine FL.val rfl rfl rfl (E.lenP te22 rfl p0) ?_
      refine FL.val rfl rfl rfl (E.lssT rfl rfl (lss_len hx23)) ?_
      refine FL.nil ?_
      refine FW.condT rfl rfl ?_
      refine FW.skip ?_
      refine FW.seq ?_
      refine FW.block ?_
      refine FW.seq ?_
      refine FW.draw (fun w' => Run w60.heap.size H57 w60 H57 w') (by kernel_rfl) (by kernel_rfl) (run_drew S58.sl) ?_
      refine FD.val rfl rfl rfl (fun w' hw' => (E.move k63)) ?_
      refine FD.val rfl rfl rfl (fun w' hw' => (E.move k62)) ?_
      obtain ⟨p66, cs67, pt68, l69, at70, rel71⟩ := p0.at (ix_nat hx23)
      obtain ⟨v72, rfl, h73⟩ := eL_open rel71
      refine FD.val rfl rfl rfl (fun w' hw' => (E.indexAddr te22 rfl rfl pt68)) ?_
      refine FD.val rfl rfl rfl (fun w' hw' => (E.load rfl (run_load0 Tryz.isAgg41 ((at70.mono i59).now (S58.call hw').sl) rfl))) ?_
      refine FD.val rfl rfl rfl (fun w' hw' => (E.move k64)) ?_
      refine FD.val rfl rfl rfl (fun w' hw' => (E.move k62)) ?_
      obtain ⟨x80, hx81, hp⟩ := bnd hp
      obtain ⟨p74, cs75, pt76, l77, at78, rel79⟩ := p1.at hx81
      obtain ⟨v82, rfl, h83⟩ := eL_open rel79
      refine FD.val rfl rfl rfl (fun w' hw' => (E.indexAddr te22 rfl rfl pt76)) ?_
      refine FD.val rfl rfl rfl (fun w' hw' => (E.load rfl (run_load0 Tryz.isAgg41 ((at78.mono i59).now (S58.call hw').sl) rfl))) ?_
      obtain ⟨r84, hr85, hp⟩ := bnd hp
      refine FD.call rfl rfl rfl (fun w' hw' => (E.call Tryz.call54 (A2 rfl rfl))) (fun w' hw' => Calls.cls hw' (w_laws_eqIntS (S58.call hw').sl v72 y22 (h73.mono i59) v82 x80 (h83.mono i59) hr85)) ?_
      refine FD.val rfl rfl rfl (fun w' hw' => (E.not rfl)) ?_
      refine FD.nil ?_
      intro w86 r88
      have S87 := S58.call r88
      rcases ifB hp with ⟨c89, hp⟩ | ⟨c89, hp⟩
      ·
        refine FW.condT rfl c89 ?_
        refine FW.seq ?_
        refine FW.region ?_
        refine FL.val rfl rfl rfl (E.assign (v := Value.bool false) rfl) ?_
        refine FL.nil ?_
        refine FW.ret ?_
        obtain rfl := Option.some.inj hp
        exact ⟨nofun, rfl, ⟨.inr rfl, res1 rfl rfl ⟨rfl, S87.back⟩⟩⟩
      ·
        refine FW.condF rfl c89 ?_
        refine FW.skip ?_
        refine FW.region ?_
        refine FL.val rfl rfl rfl (E.move k62) ?_
        refine FL.val rfl rfl rfl (E.add rfl rfl) ?_
        refine FL.val rfl rfl rfl (E.assign (v := Value.int .i64 (wr (((i23 : Nat) : Int) + 1))) rfl) ?_
        refine FL.nil ?_
        obtain rfl := Option.some.inj hp
        exact ⟨rfl, ⟨_, S87, i59, (nat_succ rfl (lt_of_get hx23) (p0.mono i59).le), k63, k64⟩⟩
    ·
      clear hp hq
      rintro s23 f100 w99 ⟨H96, S97, i98, k101, k102, k103⟩
      refine FW.seq ?_
      refine FW.seq ?_
      refine FW.region ?_
      refine FL.val rfl rfl rfl (E.move k101) ?_
      refine FL.val rfl rfl rfl (E.move k102) ?_
      refine FL.val rfl rfl rfl (E.lenP te22 rfl p0) ?_
      refine FL.val rfl rfl rfl (E.lss rfl rfl) ?_
      refine FL.nil ?_
      refine FW.condF rfl dlt_len ?_
      refine FW.exit ?_
      exact ⟨nofun, rfl, ⟨_, S97, i98⟩⟩
    ·
      clear hq
      intro e f95 w94 hD
      rcases q23 with s23 | x23
      ·
        obtain ⟨rfl, hD⟩ := hD
        obtain ⟨H91, S92, i93⟩ := hD
        replace hp := el_go hp
        refine FW.seq ?_
        refine FW.region ?_
        refine FL.val rfl rfl rfl (E.assign (v := Value.bool true) rfl) ?_
        refine FL.nil ?_
        refine FW.ret ?_
        obtain rfl := Option.some.inj hp
        exact ⟨.inr rfl, res1 rfl rfl ⟨rfl, S92.back⟩⟩
      ·
        obtain ⟨he, hL⟩ := hD
        replace hp := el_rt hp
        obtain rfl := Option.some.inj hp
        subst he
        exact hL

theorem w_laws_eqCnf {Ha : GH} {wa : World} (hs : Sl Ha wa) (a0 : Cnf) (v0_1 : Value) (p0_1 : RSl Ha (eL eI 1) 1 v0_1 a0.clauses) (a1 : Cnf) (v1_1 : Value) (p1_1 : RSl Ha (eL eI 1) 1 v1_1 a1.clauses) {r : Bool} (hp : (PF.laws_eqCnf a0 a1) = some r) :
    Calls Tryz.prog 11 #[Value.agg #[Value.int .i64 a0.vars, v0_1], Value.agg #[Value.int .i64 a1.vars, v1_1]] wa (Sc Ha wa (Value.bool r)) := by
  unfold PF.laws_eqCnf at hp
  have S0 := St.init hs
  refine calls_go (N := 16) (args := [Value.agg #[Value.int .i64 a0.vars, v0_1], Value.agg #[Value.int .i64 a1.vars, v1_1]]) Tryz.func11 rfl rfl rfl ?_
  refine FW.seq ?_
  refine FW.region ?_
  obtain ⟨b21, w22, run23, S24⟩ := S0.box (P := Tryz.prog) 31 [Value.int .i64 a0.vars, v0_1] (v := Value.agg #[Value.int .i64 a0.vars, v0_1]) rfl (ones_cons rfl (ones_cons p0_1.one ones_nil))
  refine FL.val rfl rfl rfl (E.box rfl run23) ?_
  obtain ⟨H25, S26, i27, at28⟩ := S24.sealBox (i := 0) (l' := []) rfl rfl
  obtain ⟨b29, w30, run31, S32⟩ := S26.box (P := Tryz.prog) 31 [Value.int .i64 a1.vars, v1_1] (v := Value.agg #[Value.int .i64 a1.vars, v1_1]) rfl (ones_cons rfl (ones_cons p1_1.one ones_nil))
  refine FL.val rfl rfl rfl (E.box rfl run31) ?_
  obtain ⟨H33, S34, i35, at36⟩ := S32.sealBox (i := 0) (l' := []) rfl rfl
  refine FL.val rfl rfl rfl (E.assign (v := Value.bool false) rfl) ?_
  refine FL.nil ?_
  refine FW.seq ?_
  refine FW.seq ?_
  refine FW.region ?_
  refine FL.val rfl rfl rfl (E.fieldAddr tf31_0 rfl) ?_
  refine FL.val rfl rfl rfl (E.load rfl (run_load1 Tryz.isAgg3 ((at28.mono i35).now S34.sl) rfl)) ?_
  refine FL.val rfl rfl rfl (E.fieldAddr tf31_0 rfl) ?_
  refine FL.val rfl rfl rfl (E.load rfl (run_load1 Tryz.isAgg3 (at36.now S34.sl) rfl)) ?_
  refine FL.val rfl rfl rfl (E.neq rfl rfl) ?_
  refine FL.nil ?_
  rcases ifB hp with ⟨c37, hp⟩ | ⟨c37, hp⟩
  ·
    refine FW.condT rfl c37 ?_
    refine FW.seq ?_
    refine FW.region ?_
    refine FL.val rfl rfl rfl (E.assign (v := Value.bool false) rfl) ?_
    refine FL.nil ?_
    refine FW.ret ?_
    obtain rfl := Option.some.inj hp
    exact ⟨.inr rfl, res1 rfl rfl ⟨rfl, S34.back⟩⟩
  ·
    refine FW.condF rfl c37 ?_
    refine FW.skip ?_
    refine FW.seq ?_
    refine FW.seq ?_
    refine FW.region ?_
    refine FL.val rfl rfl rfl (E.fieldAddr tf31_1 rfl) ?_
    refine FL.val rfl rfl rfl (E.load rfl (run_load1 Tryz.isAgg22 ((at28.mono i35).now S34.sl) rfl)) ?_
    refine FL.val rfl rfl rfl (E.fieldAddr tf31_1 rfl) ?_
    refine FL.val rfl rfl rfl (E.load rfl (run_load1 Tryz.isAgg22 (at36.now S34.sl) rfl)) ?_
    obtain ⟨r38, hr39, hp⟩ := bnd hp
    refine FL.call rfl rfl rfl (E.call Tryz.call32 (A2 rfl rfl)) (w_laws_eqIntSS S34.sl v0_1 a0.clauses (p0_1.mono (i27.tr i35)) v1_1 a1.clauses (p1_1.mono (i27.tr i35)) hr39) ?_
    rintro e w40 ⟨rfl, r41⟩
    refine ⟨_, rfl, ?_⟩
    have S42 := S34.call r41
    refine FL.val rfl rfl rfl (E.not rfl) ?_
    refine FL.nil ?_
    rcases ifB hp with ⟨c43, hp⟩ | ⟨c43, hp⟩
    ·
      refine FW.condT rfl c43 ?_
      refine FW.seq ?_
      refine FW.region ?_
      refine FL.val rfl rfl rfl (E.assign (v := Value.bool false) rfl) ?_
      refine FL.nil ?_
      refine FW.ret ?_
      obtain rfl := Option.some.inj hp
      exact ⟨.inr rfl, res1 rfl rfl ⟨rfl, S42.back⟩⟩
    ·
      refine FW.condF rfl c43 ?_
      refine FW.skip ?_
      refine FW.seq ?_
      refine FW.region ?_
      refine FL.val rfl rfl rfl (E.assign (v := Value.bool true) rfl) ?_
      refine FL.nil ?_
      refine FW.ret ?_
      obtain rfl := Option.some.inj hp
      exact ⟨.inr rfl, res1 rfl rfl ⟨rfl, S42.back⟩⟩

theorem w_laws_markIntS {H0 Ha : GH} {w0 wa : World} {l : List MO} (S0 : St H0 w0 Ha wa l) (hs0 : Sl H0 w0) (v0 : Value) (a0 : List Int) (p0 : RSl (up w0.heap.size Ha) eI 1 v0 a0) (a1 : Int) :
    Calls Tryz.prog 34 #[v0, Value.int .i64 a1] wa (M1 H0 w0 Ha l eI 1 v0 (PF.laws_markIntS a0 a1)) := by
  obtain ⟨c0, n0, hc0⟩ := p0.nest eI_flat (by decide)
  have hln := p0.ln
  have hle := p0.le
  refine calls_go (N := 19) (args := [v0, Value.int .i64 a1]) Tryz.func34 rfl rfl rfl ?_
  refine FW.seq ?_
  refine FW.region ?_
  refine FL.val rfl rfl rfl (E.assign (v := Value.int .i64 0) rfl) ?_
  refine FL.nil ?_
  refine FW.seq ?_
  refine FW.seq ?_
  refine FW.region ?_
  refine FL.val rfl rfl rfl (E.assign (v := Value.int .i64 0) rfl) ?_
  refine FL.nil ?_
  refine FW.block ?_
  refine FW.mono (FW.mark (F := fun y m => (m, (wr (m + 1)))) (a0 := a0) (k0 := a1) (fun (i : Nat) (xs : List Int) (k : Int) f w => ∃ (H : GH) (c : List Value), St H0 w0 H w l ∧ Nest (up w0.heap.size H) eI 1 v0 xs c ∧ bl c = bl c0 ∧ (∀ b, b ∉ bl [v0] → b ∉ bl c0 → H b = Ha b) ∧ f 0 = v0 ∧ f 1 = Value.int .i64 k ∧ f 5 = Value.int .i64 ((i : Nat) : Int)) (fun e f w => e = Exit.exit 0 ∧ ∃ (H : GH) (c : List Value), St H0 w0 H w l ∧ Nest (up w0.heap.size H) eI 1 v0 (markFrom (fun y m => (m, (wr (m + 1)))) a0 a1).1 c ∧ bl c = bl c0 ∧ (∀ b, b ∉ bl [v0] → b ∉ bl c0 → H b = Ha b) ∧ f 0 = v0 ∧ f 1 = Value.int .i64 (markFrom (fun y m => (m, (wr (m + 1)))) a0 a1).2) ⟨_, _, S0, n0, rfl, fun _ _ _ => rfl, rfl, rfl, rfl⟩ ?_ ?_) ?_
  ·
    rintro i y xs m f1 w1 ⟨H1, c1, S1, n1, hb, ho, kv, kk, kc⟩ hx hy
    obtain ⟨p, hpt, wr0, hB, hr, nd⟩ := n1.begin hy (by decide)
    have hci := eI_open hr
    have rd := wr0.opens hci
    refine FW.seq ?_
    refine FW.seq ?_
    refine FW.region ?_
    refine FL.val rfl rfl rfl (E.move kc) ?_
    refine FL.val rfl rfl rfl (E.move kv) ?_
    refine FL.val rfl rfl rfl (E.len te41 rfl hln) ?_
    refine FL.val rfl rfl rfl (E.lssT rfl rfl (lss_len hx)) ?_
    refine FL.nil ?_
    refine FW.condT rfl rfl ?_
    refine FW.skip ?_
    refine FW.seq ?_
    refine FW.block ?_
    refine FW.seq ?_
    refine FW.region ?_
    refine FL.val rfl rfl rfl (E.move kv) ?_
    refine FL.val rfl rfl rfl (E.move kc) ?_
    refine FL.val rfl rfl rfl (E.move kk) ?_
    refine FL.val rfl rfl rfl (E.indexAddr te41 rfl rfl hpt) ?_
    obtain ⟨w21, H22, run24, S23, wr25, o26⟩ := rd.poke0 (P := Tryz.prog) (t := 3) (u := Value.int .i64 m) S1 hs0 hB rfl rfl rfl Tryz.sizeOf3 rfl rfl (c2 := [Value.int .i64 m]) rfl
    refine FL.act rfl rfl (E.store rfl rfl run24) ?_
    refine FL.nil ?_
    refine FW.region ?_
    refine FL.val rfl rfl rfl (E.move kk) ?_
    refine FL.val rfl rfl rfl (E.add rfl rfl) ?_
    refine FL.val rfl rfl rfl (E.assign (v := Value.int .i64 (wr (m + 1))) rfl) ?_
    refine FL.nil ?_
    refine FW.region ?_
    refine FL.val rfl rfl rfl (E.move kc) ?_
    refine FL.val rfl rfl rfl (E.add rfl rfl) ?_
    refine FL.val rfl rfl rfl (E.assign (v := Value.int .i64 (wr (((i : Nat) : Int) + 1))) rfl) ?_
    refine FL.nil ?_
    obtain ⟨c2, n2, hb2, ho2⟩ := n1.round eI_flat.loc hy (by decide) hpt wr25 (y' := m) rfl
    exact ⟨rfl, _, _, S23, n2, hb2.trans hb, fun b q1 q2 => (ho2 b q1 (by rw [hb]; exact q2)).trans (ho b q1 q2), kv, rfl, nat_succ rfl (lt_of_get hx) hle⟩
  ·
    rintro f1 w1 ⟨H1, c1, S1, n1, hb, ho, kv, kk, kc⟩
    refine FW.seq ?_
    refine FW.seq ?_
    refine FW.region ?_
    refine FL.val rfl rfl rfl (E.move kc) ?_
    refine FL.val rfl rfl rfl (E.move kv) ?_
    refine FL.val rfl rfl rfl (E.len te41 rfl hln) ?_
    refine FL.val rfl rfl rfl (E.lss rfl rfl) ?_
    refine FL.nil ?_
    refine FW.condF rfl dlt_len ?_
    refine FW.exit ?_
    exact ⟨nofun, rfl, _, _, S1, n1, hb, ho, kv, kk⟩
  ·
    rintro e f2 w2 ⟨rfl, H2, c2, S2, n2, hb, ho, kv, kk⟩
    refine FW.seq ?_
    refine FW.region ?_
    refine FL.val rfl rfl rfl (E.move kk) ?_
    refine FL.val rfl rfl rfl (E.assign (v := Value.int .i64 ((markFrom (fun y m => (m, (wr (m + 1)))) a0 a1).2)) rfl) ?_
    refine FL.nil ?_
    refine FW.ret ?_
    exact ⟨.inr rfl, res1 rfl rfl ⟨_, rfl, S2, n2.rsl, fun b q => ho b q (by rw [hc0]; simp)⟩⟩

theorem w_laws_markIntSS {H0 Ha : GH} {w0 wa : World} {l : List MO} (S0 : St H0 w0 Ha wa l) (hs0 : Sl H0 w0) (v0 : Value) (a0 : List (List Int)) (c0 : List Value) (n0 : Nest (up w0.heap.size Ha) (eL eI 1) 1 v0 a0 c0) (a1 : Int) :
    Calls Tryz.prog 33 #[v0, Value.int .i64 a1] wa (M2 H0 w0 Ha l (eL eI 1) 1 v0 c0 (PF.laws_markIntSS a0 a1)) := by
  have hln := n0.rsl.ln
  have hle := n0.rsl.le
  refine calls_go (N := 19) (args := [v0, Value.int .i64 a1]) Tryz.func33 rfl rfl rfl ?_
  refine FW.seq ?_
  refine FW.region ?_
  refine FL.val rfl rfl rfl (E.assign (v := Value.int .i64 0) rfl) ?_
  refine FL.nil ?_
  refine FW.seq ?_
  refine FW.seq ?_
  refine FW.region ?_
  refine FL.val rfl rfl rfl (E.assign (v := Value.int .i64 0) rfl) ?_
  refine FL.nil ?_
  refine FW.block ?_
  refine FW.mono (FW.mark (F := fun y m => ((PF.laws_markIntS y m).1, (PF.laws_markIntS y m).2)) (a0 := a0) (k0 := a1) (fun (i : Nat) (xs : List (List Int)) (k : Int) f w => ∃ (H : GH) (c : List Value), St H0 w0 H w l ∧ Nest (up w0.heap.size H) (eL eI 1) 1 v0 xs c ∧ bl c = bl c0 ∧ (∀ b, b ∉ bl [v0] → b ∉ bl c0 → H b = Ha b) ∧ f 0 = v0 ∧ f 1 = Value.int .i64 k ∧ f 5 = Value.int .i64 ((i : Nat) : Int)) (fun e f w => e = Exit.exit 0 ∧ ∃ (H : GH) (c : List Value), St H0 w0 H w l ∧ Nest (up w0.heap.size H) (eL eI 1) 1 v0 (markFrom (fun y m => ((PF.laws_markIntS y m).1, (PF.laws_markIntS y m).2)) a0 a1).1 c ∧ bl c = bl c0 ∧ (∀ b, b ∉ bl [v0] → b ∉ bl c0 → H b = Ha b) ∧ f 0 = v0 ∧ f 1 = Value.int .i64 (markFrom (fun y m => ((PF.laws_markIntS y m).1, (PF.laws_markIntS y m).2)) a0 a1).2) ⟨_, _, S0, n0, rfl, fun _ _ _ => rfl, rfl, rfl, rfl⟩ ?_ ?_) ?_
  ·
    rintro i y xs m f1 w1 ⟨H1, c1, S1, n1, hb, ho, kv, kk, kc⟩ hx hy
    obtain ⟨p, hpt, wr0, hB, hr, nd⟩ := n1.begin hy (by decide)
    obtain ⟨u0, hci, hu0⟩ := eL_open hr
    have rd := wr0.opens hci
    refine FW.seq ?_
    refine FW.seq ?_
    refine FW.region ?_
    refine FL.val rfl rfl rfl (E.move kc) ?_
    refine FL.val rfl rfl rfl (E.move kv) ?_
    refine FL.val rfl rfl rfl (E.len te22 rfl hln) ?_
    refine FL.val rfl rfl rfl (E.lssT rfl rfl (lss_len hx)) ?_
    refine FL.nil ?_
    refine FW.condT rfl rfl ?_
    refine FW.skip ?_
    refine FW.seq ?_
    refine FW.block ?_
    refine FW.region ?_
    refine FL.val rfl rfl rfl (E.move kv) ?_
    refine FL.val rfl rfl rfl (E.move kc) ?_
    refine FL.val rfl rfl rfl (E.indexAddr te22 rfl rfl hpt) ?_
    refine FL.val rfl rfl rfl (E.load rfl (run_load0 Tryz.isAgg41 (rd.now S1.sl) rfl)) ?_
    refine FL.val rfl rfl rfl (E.move kk) ?_
    refine FL.call rfl rfl rfl (E.call Tryz.call34 (A2 rfl rfl)) (w_laws_markIntS S1 hs0 u0 y hu0 m) ?_
    rintro e w22 ⟨H21, rfl, S23, h24, o25⟩
    refine ⟨_, rfl, ?_⟩
    have wr26 := rd.inner (j := 0) rfl o25
    refine FL.val rfl rfl rfl (E.assign (v := Value.int .i64 ((PF.laws_markIntS y m).2)) rfl) ?_
    refine FL.nil ?_
    refine FW.region ?_
    refine FL.val rfl rfl rfl (E.move kc) ?_
    refine FL.val rfl rfl rfl (E.add rfl rfl) ?_
    refine FL.val rfl rfl rfl (E.assign (v := Value.int .i64 (wr (((i : Nat) : Int) + 1))) rfl) ?_
    refine FL.nil ?_
    obtain ⟨c2, n2, hb2, ho2⟩ := n1.round (eL_loc eI_flat) hy (by decide) hpt wr26 (y' := (PF.laws_markIntS y m).1) ⟨_, rfl, h24⟩
    exact ⟨rfl, _, _, S23, n2, hb2.trans hb, fun b q1 q2 => (ho2 b q1 (by rw [hb]; exact q2)).trans (ho b q1 q2), kv, rfl, nat_succ rfl (lt_of_get hx) hle⟩
  ·
    rintro f1 w1 ⟨H1, c1, S1, n1, hb, ho, kv, kk, kc⟩
    refine FW.seq ?_
    refine FW.seq ?_
    refine FW.region ?_
    refine FL.val rfl rfl rfl (E.move kc) ?_
    refine FL.val rfl rfl rfl (E.move kv) ?_
    refine FL.val rfl rfl rfl (E.len te22 rfl hln) ?_
    refine FL.val rfl rfl rfl (E.lss rfl rfl) ?_
    refine FL.nil ?_
    refine FW.condF rfl dlt_len ?_
    refine FW.exit ?_
    exact ⟨nofun, rfl, _, _, S1, n1, hb, ho, kv, kk⟩
  ·
    rintro e f2 w2 ⟨rfl, H2, c2, S2, n2, hb, ho, kv, kk⟩
    refine FW.seq ?_
    refine FW.region ?_
    refine FL.val rfl rfl rfl (E.move kk) ?_
    refine FL.val rfl rfl rfl (E.assign (v := Value.int .i64 ((markFrom (fun y m => ((PF.laws_markIntS y m).1, (PF.laws_markIntS y m).2)) a0 a1).2)) rfl) ?_
    refine FL.nil ?_
    refine FW.ret ?_
    exact ⟨.inr rfl, res1 rfl rfl ⟨_, _, rfl, S2, n2, hb, fun b q1 q2 => weak (F := fun b => b ∉ bl [v0] ∧ b ∉ bl c0) (fun b q => ho b q.1 q.2) b ⟨q1, q2⟩⟩⟩

@[reducible] def p_laws_markCnf (H0 : GH) (w0 : World) (Ha : GH) (l : List MO) (v0 : Value) (c0 : List Value) (r : Cnf × Int) : Ending → World → Prop := fun e w' =>
  ∃ (H' : GH) (c' : List Value), e = .returned (.int .i64 r.2) ∧ St H0 w0 H' w' l ∧ Nest (up w0.heap.size H') (eL eI 1) 1 v0 r.1.clauses c' ∧ bl c' = bl c0 ∧ ∀ b, b ∉ bl [v0] → b ∉ bl c0 → ∀ o, Ha b = some o → H' b = some o
theorem w_laws_markCnf {H0 Ha : GH} {w0 wa : World} {l : List MO} (S0 : St H0 w0 Ha wa l) (hs0 : Sl H0 w0) (a0 : Cnf) (v0 : Value) (c0 : List Value) (n0 : Nest (up w0.heap.size Ha) (eL eI 1) 1 v0 a0.clauses c0) (a1 : Int) :
    Calls Tryz.prog 12 #[.agg #[Value.int .i64 a0.vars, v0], Value.int .i64 a1] wa (p_laws_markCnf H0 w0 Ha l v0 c0 (PF.laws_markCnf a0 a1)) := by
  refine calls_go (N := 10) (args := [.agg #[Value.int .i64 a0.vars, v0], Value.int .i64 a1]) Tryz.func12 rfl rfl rfl ?_
  refine FW.seq ?_
  refine FW.region ?_
  obtain ⟨b21, w22, run23, S24⟩ := S0.box (P := Tryz.prog) 31 [Value.int .i64 a0.vars, v0] (v := Value.agg #[Value.int .i64 a0.vars, v0]) rfl (ones_cons rfl (ones_cons n0.rsl.one ones_nil))
  refine FL.val rfl rfl rfl (E.box rfl run23) ?_
  obtain ⟨H25, S26, i27, at28⟩ := S24.sealBox (i := 0) (l' := l) rfl rfl
  refine FL.val rfl rfl rfl (E.assign (v := Value.int .i64 0) rfl) ?_
  refine FL.nil ?_
  refine FW.seq ?_
  refine FW.region ?_
  refine FL.val rfl rfl rfl (E.fieldAddr tf31_1 rfl) ?_
  refine FL.val rfl rfl rfl (E.load rfl (run_load1 Tryz.isAgg22 (at28.now S26.sl) rfl)) ?_
  refine FL.val rfl rfl rfl (E.move (v := Value.int .i64 a1) rfl) ?_
  refine FL.call rfl rfl rfl (E.call Tryz.call33 (A2 rfl rfl)) (w_laws_markIntSS S26 hs0 v0 a0.clauses c0 (n0.mono (up_mono i27)) a1) ?_
  rintro e w30 ⟨H29, c34, rfl, S31, h32, hb35, o33⟩
  refine ⟨_, rfl, ?_⟩
  refine FL.val rfl rfl rfl (E.assign (v := Value.int .i64 ((PF.laws_markIntSS a0.clauses a1).2)) rfl) ?_
  refine FL.nil ?_
  refine FW.seq ?_
  refine FW.region ?_
  refine FL.val rfl rfl rfl (E.move (v := Value.int .i64 ((PF.laws_markIntSS a0.clauses a1).2)) rfl) ?_
  refine FL.val rfl rfl rfl (E.assign (v := Value.int .i64 ((PF.laws_markIntSS a0.clauses a1).2)) rfl) ?_
  refine FL.nil ?_
  refine FW.ret ?_
  exact ⟨.inr rfl, res1 rfl rfl ⟨_, _, rfl, S31, h32, hb35, fun b q1 q2 o ho => o33 b q1 q2 o (i27 b o ho)⟩⟩

theorem w_laws_markResStepS {H0 Ha : GH} {w0 wa : World} {l : List MO} (S0 : St H0 w0 Ha wa l) (hs0 : Sl H0 w0) (v0 : Value) (a0 : List ResStep) (c0 : List Value) (n0 : Nest (up w0.heap.size Ha) eResStep 4 v0 a0 c0) (a1 : Int) :
    Calls Tryz.prog 13 #[v0, Value.int .i64 a1] wa (M2 H0 w0 Ha l eResStep 4 v0 c0 (PF.laws_markResStepS a0 a1)) := by
  have hln := n0.rsl.ln
  have hle := n0.rsl.le
  refine calls_go (N := 41) (args := [v0, Value.int .i64 a1]) Tryz.func13 rfl rfl rfl ?_
  refine FW.seq ?_
  refine FW.region ?_
  refine FL.val rfl rfl rfl (E.assign (v := Value.int .i64 0) rfl) ?_
  refine FL.nil ?_
  refine FW.seq ?_
  refine FW.seq ?_
  refine FW.region ?_
  refine FL.val rfl rfl rfl (E.assign (v := Value.int .i64 0) rfl) ?_
  refine FL.nil ?_
  refine FW.block ?_
  refine FW.mono (FW.mark (F := fun y m => ((ResStep.mk ((PF.laws_markIntS y.clause m).1) ((PF.laws_markIntS y.clause m).2) (wr ((PF.laws_markIntS y.clause m).2 + 1)) (wr ((wr ((PF.laws_markIntS y.clause m).2 + 1)) + 1))), (wr ((wr ((wr ((PF.laws_markIntS y.clause m).2 + 1)) + 1)) + 1)))) (a0 := a0) (k0 := a1) (fun (i : Nat) (xs : List ResStep) (k : Int) f w => ∃ (H : GH) (c : List Value), St H0 w0 H w l ∧ Nest (up w0.heap.size H) eResStep 4 v0 xs c ∧ bl c = bl c0 ∧ (∀ b, b ∉ bl [v0] → b ∉ bl c0 → H b = Ha b) ∧ f 0 = v0 ∧ f 1 = Value.int .i64 k ∧ f 5 = Value.int .i64 ((i : Nat) : Int)) (fun e f w => e = Exit.exit 0 ∧ ∃ (H : GH) (c : List Value), St H0 w0 H w l ∧ Nest (up w0.heap.size H) eResStep 4 v0 (markFrom (fun y m => ((ResStep.mk ((PF.laws_markIntS y.clause m).1) ((PF.laws_markIntS y.clause m).2) (wr ((PF.laws_markIntS y.clause m).2 + 1)) (wr ((wr ((PF.laws_markIntS y.clause m).2 + 1)) + 1))), (wr ((wr ((wr ((PF.laws_markIntS y.clause m).2 + 1)) + 1)) + 1)))) a0 a1).1 c ∧ bl c = bl c0 ∧ (∀ b, b ∉ bl [v0] → b ∉ bl c0 → H b = Ha b) ∧ f 0 = v0 ∧ f 1 = Value.int .i64 (markFrom (fun y m => ((ResStep.mk ((PF.laws_markIntS y.clause m).1) ((PF.laws_markIntS y.clause m).2) (wr ((PF.laws_markIntS y.clause m).2 + 1)) (wr ((wr ((PF.laws_markIntS y.clause m).2 + 1)) + 1))), (wr ((wr ((wr ((PF.laws_markIntS y.clause m).2 + 1)) + 1)) + 1)))) a0 a1).2) ⟨_, _, S0, n0, rfl, fun _ _ _ => rfl, rfl, rfl, rfl⟩ ?_ ?_) ?_
  ·
    rintro i y xs m f1 w1 ⟨H1, c1, S1, n1, hb, ho, kv, kk, kc⟩ hx hy
    obtain ⟨p, hpt, wr0, hB, hr, nd⟩ := n1.begin hy (by decide)
    obtain ⟨u0, hci, hu0⟩ := eResStep_open hr
    have rd := wr0.opens hci
    refine FW.seq ?_
    refine FW.seq ?_
    refine FW.region ?_
    refine FL.val rfl rfl rfl (E.move kc) ?_
    refine FL.val rfl rfl rfl (E.move kv) ?_
    refine FL.val rfl rfl rfl (E.len te28 rfl hln) ?_
    refine FL.val rfl rfl rfl (E.lssT rfl rfl (lss_len hx)) ?_
    refine FL.nil ?_
    refine FW.condT rfl rfl ?_
    refine FW.skip ?_
    refine FW.seq ?_
    refine FW.block ?_
    refine FW.seq ?_
    refine FW.region ?_
    refine FL.val rfl rfl rfl (E.move kv) ?_
    refine FL.val rfl rfl rfl (E.move kc) ?_
    refine FL.val rfl rfl rfl (E.indexAddr te28 rfl rfl hpt) ?_
    refine FL.val rfl rfl rfl (E.fieldAddr tf50_0 rfl) ?_
    refine FL.val rfl rfl rfl (E.load rfl (run_load1 Tryz.isAgg41 (rd.now S1.sl) rfl)) ?_
    refine FL.val rfl rfl rfl (E.move kk) ?_
    refine FL.call rfl rfl rfl (E.call Tryz.call34 (A2 rfl rfl)) (w_laws_markIntS S1 hs0 u0 y.clause hu0 m) ?_
    rintro e w22 ⟨H21, rfl, S23, h24, o25⟩
    refine ⟨_, rfl, ?_⟩
    have wr26 := rd.inner (j := 0) rfl o25
    refine FL.val rfl rfl rfl (E.assign (v := Value.int .i64 ((PF.laws_markIntS y.clause m).2)) rfl) ?_
    refine FL.nil ?_
    refine FW.seq ?_
    refine FW.region ?_
    refine FL.val rfl rfl rfl (E.move kv) ?_
    refine FL.val rfl rfl rfl (E.move kc) ?_
    refine FL.val rfl rfl rfl (E.move (v := Value.int .i64 ((PF.laws_markIntS y.clause m).2)) rfl) ?_
    refine FL.val rfl rfl rfl (E.indexAddr te28 rfl rfl hpt) ?_
    refine FL.val rfl rfl rfl (E.fieldAddr tf50_1 rfl) ?_
    obtain ⟨w27, H28, run30, S29, wr31, o32⟩ := wr26.poke (P := Tryz.prog) (t := 3) (u := Value.int .i64 ((PF.laws_markIntS y.clause m).2)) S23 hs0 hB (j := 1) rfl rfl rfl Tryz.sizeOf3 rfl rfl (c2 := [u0, Value.int .i64 ((PF.laws_markIntS y.clause m).2), Value.int .i64 y.right, Value.int .i64 y.pivot]) rfl
    have h33 := wr26.kept (j := 0) rfl h24 eI_flat o32
    refine FL.act rfl rfl (E.store rfl rfl run30) ?_
    refine FL.nil ?_
    refine FW.seq ?_
    refine FW.region ?_
    refine FL.val rfl rfl rfl (E.move (v := Value.int .i64 ((PF.laws_markIntS y.clause m).2)) rfl) ?_
    refine FL.val rfl rfl rfl (E.add rfl rfl) ?_
    refine FL.val rfl rfl rfl (E.assign (v := Value.int .i64 (wr ((PF.laws_markIntS y.clause m).2 + 1))) rfl) ?_
    refine FL.nil ?_
    refine FW.seq ?_
    refine FW.region ?_
    refine FL.val rfl rfl rfl (E.move kv) ?_
    refine FL.val rfl rfl rfl (E.move kc) ?_
    refine FL.val rfl rfl rfl (E.move (v := Value.int .i64 (wr ((PF.laws_markIntS y.clause m).2 + 1))) rfl) ?_
    refine FL.val rfl rfl rfl (E.indexAddr te28 rfl rfl hpt) ?_
    refine FL.val rfl rfl rfl (E.fieldAddr tf50_2 rfl) ?_
    obtain ⟨w34, H35, run37, S36, wr38, o39⟩ := wr31.poke (P := Tryz.prog) (t := 3) (u := Value.int .i64 (wr ((PF.laws_markIntS y.clause m).2 + 1))) S29 hs0 hB (j := 2) rfl rfl rfl Tryz.sizeOf3 rfl rfl (c2 := [u0, Value.int .i64 ((PF.laws_markIntS y.clause m).2), Value.int .i64 (wr ((PF.laws_markIntS y.clause m).2 + 1)), Value.int .i64 y.pivot]) rfl
    have h40 := wr31.kept (j := 0) rfl h33 eI_flat o39
    refine FL.act rfl rfl (E.store rfl rfl run37) ?_
    refine FL.nil ?_
    refine FW.seq ?_
    refine FW.region ?_
    refine FL.val rfl rfl rfl (E.move (v := Value.int .i64 (wr ((PF.laws_markIntS y.clause m).2 + 1))) rfl) ?_
    refine FL.val rfl rfl rfl (E.add rfl rfl) ?_
    refine FL.val rfl rfl rfl (E.assign (v := Value.int .i64 (wr ((wr ((PF.laws_markIntS y.clause m).2 + 1)) + 1))) rfl) ?_
    refine FL.nil ?_
    refine FW.seq ?_
    refine FW.region ?_
    refine FL.val rfl rfl rfl (E.move kv) ?_
    refine FL.val rfl rfl rfl (E.move kc) ?_
    refine FL.val rfl rfl rfl (E.move (v := Value.int .i64 (wr ((wr ((PF.laws_markIntS y.clause m).2 + 1)) + 1))) rfl) ?_
    refine FL.val rfl rfl rfl (E.indexAddr te28 rfl rfl hpt) ?_
    refine FL.val rfl rfl rfl (E.fieldAddr tf50_3 rfl) ?_
    obtain ⟨w41, H42, run44, S43, wr45, o46⟩ := wr38.poke (P := Tryz.prog) (t := 3) (u := Value.int .i64 (wr ((wr ((PF.laws_markIntS y.clause m).2 + 1)) + 1))) S36 hs0 hB (j := 3) rfl rfl rfl Tryz.sizeOf3 rfl rfl (c2 := [u0, Value.int .i64 ((PF.laws_markIntS y.clause m).2), Value.int .i64 (wr ((PF.laws_markIntS y.clause m).2 + 1)), Value.int .i64 (wr ((wr ((PF.laws_markIntS y.clause m).2 + 1)) + 1))]) rfl
    have h47 := wr38.kept (j := 0) rfl h40 eI_flat o46
    refine FL.act rfl rfl (E.store rfl rfl run44) ?_
    refine FL.nil ?_
    refine FW.region ?_
    refine FL.val rfl rfl rfl (E.move (v := Value.int .i64 (wr ((wr ((PF.laws_markIntS y.clause m).2 + 1)) + 1))) rfl) ?_
    refine FL.val rfl rfl rfl (E.add rfl rfl) ?_
    refine FL.val rfl rfl rfl (E.assign (v := Value.int .i64 (wr ((wr ((wr ((PF.laws_markIntS y.clause m).2 + 1)) + 1)) + 1))) rfl) ?_
    refine FL.nil ?_
    refine FW.region ?_
    refine FL.val rfl rfl rfl (E.move kc) ?_
    refine FL.val rfl rfl rfl (E.add rfl rfl) ?_
    refine FL.val rfl rfl rfl (E.assign (v := Value.int .i64 (wr (((i : Nat) : Int) + 1))) rfl) ?_
    refine FL.nil ?_
    obtain ⟨c2, n2, hb2, ho2⟩ := n1.round eResStep_loc hy (by decide) hpt wr45 (y' := (ResStep.mk ((PF.laws_markIntS y.clause m).1) ((PF.laws_markIntS y.clause m).2) (wr ((PF.laws_markIntS y.clause m).2 + 1)) (wr ((wr ((PF.laws_markIntS y.clause m).2 + 1)) + 1)))) ⟨_, rfl, h47⟩
    exact ⟨rfl, _, _, S43, n2, hb2.trans hb, fun b q1 q2 => (ho2 b q1 (by rw [hb]; exact q2)).trans (ho b q1 q2), kv, rfl, nat_succ rfl (lt_of_get hx) hle⟩
  ·
    rintro f1 w1 ⟨H1, c1, S1, n1, hb, ho, kv, kk, kc⟩
    refine FW.seq ?_
    refine FW.seq ?_
    refine FW.region ?_
    refine FL.val rfl rfl rfl (E.move kc) ?_
    refine FL.val rfl rfl rfl (E.move kv) ?_
    refine FL.val rfl rfl rfl (E.len te28 rfl hln) ?_
    refine FL.val rfl rfl rfl (E.lss rfl rfl) ?_
    refine FL.nil ?_
    refine FW.condF rfl dlt_len ?_
    refine FW.exit ?_
    exact ⟨nofun, rfl, _, _, S1, n1, hb, ho, kv, kk⟩
  ·
    rintro e f2 w2 ⟨rfl, H2, c2, S2, n2, hb, ho, kv, kk⟩
    refine FW.seq ?_
    refine FW.region ?_
    refine FL.val rfl rfl rfl (E.move kk) ?_
    refine FL.val rfl rfl rfl (E.assign (v := Value.int .i64 ((markFrom (fun y m => ((ResStep.mk ((PF.laws_markIntS y.clause m).1) ((PF.laws_markIntS y.clause m).2) (wr ((PF.laws_markIntS y.clause m).2 + 1)) (wr ((wr ((PF.laws_markIntS y.clause m).2 + 1)) + 1))), (wr ((wr ((wr ((PF.laws_markIntS y.clause m).2 + 1)) + 1)) + 1)))) a0 a1).2)) rfl) ?_
    refine FL.nil ?_
    refine FW.ret ?_
    exact ⟨.inr rfl, res1 rfl rfl ⟨_, _, rfl, S2, n2, hb, fun b q1 q2 => weak (F := fun b => b ∉ bl [v0] ∧ b ∉ bl c0) (fun b q => ho b q.1 q.2) b ⟨q1, q2⟩⟩⟩

theorem w_laws_heldIntS {Ha : GH} {wa : World} (hs : Sl Ha wa) (v0 : Value) (a0 : List Int) (p0 : RSl Ha eI 1 v0 a0) (a1 : Int) {r : Int} (hp : (PF.laws_heldIntS a0 a1) = some r) :
    Calls Tryz.prog 35 #[v0, Value.int .i64 a1] wa (Sc Ha wa (Value.int .i64 r)) := by
  unfold PF.laws_heldIntS at hp
  have S0 := St.init hs
  refine calls_go (N := 21) (args := [v0, Value.int .i64 a1]) Tryz.func35 rfl rfl rfl ?_
  refine FW.seq ?_
  refine FW.region ?_
  refine FL.val rfl rfl rfl (E.assign (v := Value.int .i64 0) rfl) ?_
  refine FL.nil ?_
  refine FW.seq ?_
  refine FW.seq ?_
  refine FW.region ?_
  refine FL.val rfl rfl rfl (E.assign (v := Value.int .i64 0) rfl) ?_
  refine FL.nil ?_
  obtain ⟨q22, hq, hp⟩ := bndR hp
  refine FW.block ?_
  refine FW.mono (FW.forL (S := Int) (X := Int) (fun (i22 : Nat) (s22 : Int) f w => ∃ H : GH, St Ha wa H w [] ∧ Inc Ha H ∧ f 5 = Value.int .i64 ((i22 : Nat) : Int) ∧ f 0 = v0 ∧ f 1 = Value.int .i64 s22) (fun q e f w => match q with | .go s22 => e = Exit.exit 0 ∧ (∃ H : GH, St Ha wa H w [] ∧ Inc Ha H ∧ f 1 = Value.int .i64 s22) | .rt x => ((e = Exit.ret) ∧ (fun e f w => (e = Exit.normal ∨ e = Exit.ret) ∧ ∀ a, Fr 21 a f → ∃ v, (results Tryz.f35 a.tmps).run Tryz.prog w = .ok v w ∧ (Sc Ha wa (Value.int .i64 x)) (.returned v) w) e f w)) hq ⟨_, S0, (Inc.rfl _), rfl, rfl, rfl⟩ ?_ ?_) ?_
  ·
    clear hp hq
    rintro i22 y21 s22 f42 w41 ⟨H38, S39, i40, k43, k44, k45⟩ hx22 o53 hp
    refine FW.seq ?_
    refine FW.seq ?_
    refine FW.region ?_
    refine FL.val rfl rfl rfl (E.move k43) ?_
    refine FL.val rfl rfl rfl (E.move k44) ?_
    refine FL.val rfl rfl rfl (E.lenP te41 rfl p0) ?_
    refine FL.val rfl rfl rfl (E.lssT rfl rfl (lss_len hx22)) ?_
    refine FL.nil ?_
    refine FW.condT rfl rfl ?_
    refine FW.skip ?_
    refine FW.seq ?_
    refine FW.block ?_
    refine FW.seq ?_
    refine FW.seq ?_
    refine FW.region ?_
    refine FL.val rfl rfl rfl (E.move k44) ?_
    refine FL.val rfl rfl rfl (E.move k43) ?_
    obtain ⟨p46, cs47, pt48, l49, at50, rel51⟩ := p0.at (ix_nat hx22)
    obtain rfl := eI_open rel51
    refine FL.val rfl rfl rfl (E.indexAddr te41 rfl rfl pt48) ?_
    refine FL.val rfl rfl rfl (E.load rfl (run_load0 Tryz.isAgg3 ((at50.mono i40).now S39.sl) rfl)) ?_
    refine FL.val rfl rfl rfl (E.move k45) ?_
    refine FL.val rfl rfl rfl (E.neq rfl rfl) ?_
    refine FL.nil ?_
    rcases ifB hp with ⟨c52, hp⟩ | ⟨c52, hp⟩
    ·
      refine FW.condT rfl c52 ?_
      refine FW.seq ?_
      refine FW.region ?_
      refine FL.val rfl rfl rfl (E.assign (v := Value.int .i64 (-1)) rfl) ?_
      refine FL.nil ?_
      refine FW.ret ?_
      obtain rfl := Option.some.inj hp
      exact ⟨nofun, rfl, ⟨.inr rfl, res1 rfl rfl ⟨rfl, S39.back⟩⟩⟩
    ·
      refine FW.condF rfl c52 ?_
      refine FW.skip ?_
      refine FW.region ?_
      refine FL.val rfl rfl rfl (E.move k45) ?_
      refine FL.val rfl rfl rfl (E.add rfl rfl) ?_
      refine FL.val rfl rfl rfl (E.assign (v := Value.int .i64 (wr (s22 + 1))) rfl) ?_
      refine FL.nil ?_
      refine FW.region ?_
      refine FL.val rfl rfl rfl (E.move k43) ?_
      refine FL.val rfl rfl rfl (E.add rfl rfl) ?_
      refine FL.val rfl rfl rfl (E.assign (v := Value.int .i64 (wr (((i22 : Nat) : Int) + 1))) rfl) ?_
      refine FL.nil ?_
      obtain rfl := Option.some.inj hp
      exact ⟨rfl, ⟨_, S39, i40, (nat_succ rfl (lt_of_get hx22) (p0.mono i40).le), k44, rfl⟩⟩
  ·
    clear hp hq
    rintro s22 f64 w63 ⟨H60, S61, i62, k65, k66, k67⟩
    refine FW.seq ?_
    refine FW.seq ?_
    refine FW.region ?_
    refine FL.val rfl rfl rfl (E.move k65) ?_
    refine FL.val rfl rfl rfl (E.move k66) ?_
    refine FL.val rfl rfl rfl (E.lenP te41 rfl p0) ?_
    refine FL.val rfl rfl rfl (E.lss rfl rfl) ?_
    refine FL.nil ?_
    refine FW.condF rfl dlt_len ?_
    refine FW.exit ?_
    exact ⟨nofun, rfl, ⟨_, S61, i62, k67⟩⟩
  ·
    clear hq
    intro e f58 w57 hD
    rcases q22 with s22 | x22
    ·
      obtain ⟨rfl, hD⟩ := hD
      obtain ⟨H54, S55, i56, k59⟩ := hD
      replace hp := el_go hp
      refine FW.seq ?_
      refine FW.region ?_
      refine FL.val rfl rfl rfl (E.move k59) ?_
      refine FL.val rfl rfl rfl (E.assign (v := Value.int .i64 s22) rfl) ?_
      refine FL.nil ?_
      refine FW.ret ?_
      obtain rfl := Option.some.inj hp
      exact ⟨.inr rfl, res1 rfl rfl ⟨rfl, S55.back⟩⟩
    ·
      obtain ⟨he, hL⟩ := hD
      replace hp := el_rt hp
      obtain rfl := Option.some.inj hp
      subst he
      exact hL

theorem w_laws_heldResStepS {Ha : GH} {wa : World} (hs : Sl Ha wa) (v0 : Value) (a0 : List ResStep) (p0 : RSl Ha eResStep 4 v0 a0) (a1 : Int) {r : Int} (hp : (PF.laws_heldResStepS a0 a1) = some r) :
    Calls Tryz.prog 14 #[v0, Value.int .i64 a1] wa (Sc Ha wa (Value.int .i64 r)) := by
  unfold PF.laws_heldResStepS at hp
  have S0 := St.init hs
  refine calls_go (N := 49) (args := [v0, Value.int .i64 a1]) Tryz.func14 rfl rfl rfl ?_
  refine FW.seq ?_
  refine FW.region ?_
  refine FL.val rfl rfl rfl (E.assign (v := Value.int .i64 0) rfl) ?_
  refine FL.nil ?_
  refine FW.seq ?_
  refine FW.seq ?_
  refine FW.region ?_
  refine FL.val rfl rfl rfl (E.assign (v := Value.int .i64 0) rfl) ?_
  refine FL.nil ?_
  obtain ⟨q22, hq, hp⟩ := bndR hp
  refine FW.block ?_
  refine FW.mono (FW.forL (S := Int) (X := Int) (fun (i22 : Nat) (s22 : Int) f w => ∃ H : GH, St Ha wa H w [] ∧ Inc Ha H ∧ f 5 = Value.int .i64 ((i22 : Nat) : Int) ∧ f 0 = v0 ∧ f 1 = Value.int .i64 s22) (fun q e f w => match q with | .go s22 => e = Exit.exit 0 ∧ (∃ H : GH, St Ha wa H w [] ∧ Inc Ha H ∧ f 1 = Value.int .i64 s22) | .rt x => ((e = Exit.ret) ∧ (fun e f w => (e = Exit.normal ∨ e = Exit.ret) ∧ ∀ a, Fr 49 a f → ∃ v, (results Tryz.f14 a.tmps).run Tryz.prog w = .ok v w ∧ (Sc Ha wa (Value.int .i64 x)) (.returned v) w) e f w)) hq ⟨_, S0, (Inc.rfl _), rfl, rfl, rfl⟩ ?_ ?_) ?_
  ·
    clear hp hq
    rintro i22 y21 s22 f76 w75 ⟨H72, S73, i74, k77, k78, k79⟩ hx22 o121 hp
    refine FW.seq ?_
    refine FW.seq ?_
    refine FW.region ?_
    refine FL.val rfl rfl rfl (E.move k77) ?_
    refine FL.val rfl rfl rfl (E.move k78) ?_
    refine FL.val rfl rfl rfl (E.lenP te28 rfl p0) ?_
    refine FL.val rfl rfl rfl (E.lssT rfl rfl (lss_len hx22)) ?_
    refine FL.nil ?_
    refine FW.condT rfl rfl ?_
    refine FW.skip ?_
    refine FW.seq ?_
    refine FW.block ?_
    refine FW.seq ?_
    refine FW.region ?_
    refine FL.val rfl rfl rfl (E.move k78) ?_
    refine FL.val rfl rfl rfl (E.move k77) ?_
    obtain ⟨p80, cs81, pt82, l83, at84, rel85⟩ := p0.at (ix_nat hx22)
    obtain ⟨v86, rfl, h87⟩ := eResStep_open rel85
    refine FL.val rfl rfl rfl (E.indexAddr te28 rfl rfl pt82) ?_
    refine FL.val rfl rfl rfl (E.fieldAddr tf50_0 rfl) ?_
    refine FL.val rfl rfl rfl (E.load rfl (run_load1 Tryz.isAgg41 ((at84.mono i74).now S73.sl) rfl)) ?_
    refine FL.val rfl rfl rfl (E.move k79) ?_
    obtain ⟨r88, hr89, hp⟩ := bnd hp
    refine FL.call rfl rfl rfl (E.call Tryz.call35 (A2 rfl rfl)) (w_laws_heldIntS S73.sl v86 y21.clause (h87.mono i74) s22 hr89) ?_
    rintro e w90 ⟨rfl, r91⟩
    refine ⟨_, rfl, ?_⟩
    have S92 := S73.call r91
    refine FL.val rfl rfl rfl (E.assign (v := Value.int .i64 r88) rfl) ?_
    refine FL.nil ?_
    refine FW.seq ?_
    refine FW.seq ?_
    refine FW.region ?_
    refine FL.val rfl rfl rfl (E.move (v := Value.int .i64 r88) rfl) ?_
    refine FL.val rfl rfl rfl (E.lss rfl rfl) ?_
    refine FL.nil ?_
    rcases ifB hp with ⟨c93, hp⟩ | ⟨c93, hp⟩
    ·
      refine FW.condT rfl c93 ?_
      refine FW.seq ?_
      refine FW.region ?_
      refine FL.val rfl rfl rfl (E.assign (v := Value.int .i64 (-1)) rfl) ?_
      refine FL.nil ?_
      refine FW.ret ?_
      obtain rfl := Option.some.inj hp
      exact ⟨nofun, rfl, ⟨.inr rfl, res1 rfl rfl ⟨rfl, S92.back⟩⟩⟩
    ·
      refine FW.condF rfl c93 ?_
      refine FW.skip ?_
      refine FW.seq ?_
      refine FW.seq ?_
      refine FW.region ?_
      refine FL.val rfl rfl rfl (E.move k78) ?_
      refine FL.val rfl rfl rfl (E.move k77) ?_
      obtain ⟨p94, cs95, pt96, l97, at98, rel99⟩ := p0.at (ix_nat hx22)
      obtain ⟨v100, rfl, h101⟩ := eResStep_open rel99
      refine FL.val rfl rfl rfl (E.indexAddr te28 rfl rfl pt96) ?_
      refine FL.val rfl rfl rfl (E.fieldAddr tf50_1 rfl) ?_
      refine FL.val rfl rfl rfl (E.load rfl (run_load1 Tryz.isAgg3 ((at98.mono i74).now S92.sl) rfl)) ?_
      refine FL.val rfl rfl rfl (E.move (v := Value.int .i64 r88) rfl) ?_
      refine FL.val rfl rfl rfl (E.neq rfl rfl) ?_
      refine FL.nil ?_
      rcases ifB hp with ⟨c102, hp⟩ | ⟨c102, hp⟩
      ·
        refine FW.condT rfl c102 ?_
        refine FW.seq ?_
        refine FW.region ?_
        refine FL.val rfl rfl rfl (E.assign (v := Value.int .i64 (-1)) rfl) ?_
        refine FL.nil ?_
        refine FW.ret ?_
        obtain rfl := Option.some.inj hp
        exact ⟨nofun, rfl, ⟨.inr rfl, res1 rfl rfl ⟨rfl, S92.back⟩⟩⟩
      ·
        refine FW.condF rfl c102 ?_
        refine FW.skip ?_
        refine FW.seq ?_
        refine FW.region ?_
        refine FL.val rfl rfl rfl (E.move (v := Value.int .i64 r88) rfl) ?_
        refine FL.val rfl rfl rfl (E.add rfl rfl) ?_
        refine FL.val rfl rfl rfl (E.assign (v := Value.int .i64 (wr (r88 + 1))) rfl) ?_
        refine FL.nil ?_
        refine FW.seq ?_
        refine FW.seq ?_
        refine FW.region ?_
        refine FL.val rfl rfl rfl (E.move k78) ?_
        refine FL.val rfl rfl rfl (E.move k77) ?_
        obtain ⟨p103, cs104, pt105, l106, at107, rel108⟩ := p0.at (ix_nat hx22)
        obtain ⟨v109, rfl, h110⟩ := eResStep_open rel108
        refine FL.val rfl rfl rfl (E.indexAddr te28 rfl rfl pt105) ?_
        refine FL.val rfl rfl rfl (E.fieldAddr tf50_2 rfl) ?_
        refine FL.val rfl rfl rfl (E.load rfl (run_load1 Tryz.isAgg3 ((at107.mono i74).now S92.sl) rfl)) ?_
        refine FL.val rfl rfl rfl (E.move (v := Value.int .i64 (wr (r88 + 1))) rfl) ?_
        refine FL.val rfl rfl rfl (E.neq rfl rfl) ?_
        refine FL.nil ?_
        rcases ifB hp with ⟨c111, hp⟩ | ⟨c111, hp⟩
        ·
          refine FW.condT rfl c111 ?_
          refine FW.seq ?_
          refine FW.region ?_
          refine FL.val rfl rfl rfl (E.assign (v := Value.int .i64 (-1)) rfl) ?_
          refine FL.nil ?_
          refine FW.ret ?_
          obtain rfl := Option.some.inj hp
          exact ⟨nofun, rfl, ⟨.inr rfl, res1 rfl rfl ⟨rfl, S92.back⟩⟩⟩
        ·
          refine FW.condF rfl c111 ?_
          refine FW.skip ?_
          refine FW.seq ?_
          refine FW.region ?_
          refine FL.val rfl rfl rfl (E.move (v := Value.int .i64 (wr (r88 + 1))) rfl) ?_
          refine FL.val rfl rfl rfl (E.add rfl rfl) ?_
          refine FL.val rfl rfl rfl (E.assign (v := Value.int .i64 (wr ((wr (r88 + 1)) + 1))) rfl) ?_
          refine FL.nil ?_
          refine FW.seq ?_
          refine FW.seq ?_
          refine FW.region ?_
          refine FL.val rfl rfl rfl (E.move k78) ?_
          refine FL.val rfl rfl rfl (E.move k77) ?_
          obtain ⟨p112, cs113, pt114, l115, at116, rel117⟩ := p0.at (ix_nat hx22)
          obtain ⟨v118, rfl, h119⟩ := eResStep_open rel117
          refine FL.val rfl rfl rfl (E.indexAddr te28 rfl rfl pt114) ?_
          refine FL.val rfl rfl rfl (E.fieldAddr tf50_3 rfl) ?_
          refine FL.val rfl rfl rfl (E.load rfl (run_load1 Tryz.isAgg3 ((at116.mono i74).now S92.sl) rfl)) ?_
          refine FL.val rfl rfl rfl (E.move (v := Value.int .i64 (wr ((wr (r88 + 1)) + 1))) rfl) ?_
          refine FL.val rfl rfl rfl (E.neq rfl rfl) ?_
          refine FL.nil ?_
          rcases ifB hp with ⟨c120, hp⟩ | ⟨c120, hp⟩
          ·
            refine FW.condT rfl c120 ?_
            refine FW.seq ?_
            refine FW.region ?_
            refine FL.val rfl rfl rfl (E.assign (v := Value.int .i64 (-1)) rfl) ?_
            refine FL.nil ?_
            refine FW.ret ?_
            obtain rfl := Option.some.inj hp
            exact ⟨nofun, rfl, ⟨.inr rfl, res1 rfl rfl ⟨rfl, S92.back⟩⟩⟩
          ·
            refine FW.condF rfl c120 ?_
            refine FW.skip ?_
            refine FW.region ?_
            refine FL.val rfl rfl rfl (E.move (v := Value.int .i64 (wr ((wr (r88 + 1)) + 1))) rfl) ?_
            refine FL.val rfl rfl rfl (E.add rfl rfl) ?_
            refine FL.val rfl rfl rfl (E.assign (v := Value.int .i64 (wr ((wr ((wr (r88 + 1)) + 1)) + 1))) rfl) ?_
            refine FL.nil ?_
            refine FW.region ?_
            refine FL.val rfl rfl rfl (E.move k77) ?_
            refine FL.val rfl rfl rfl (E.add rfl rfl) ?_
            refine FL.val rfl rfl rfl (E.assign (v := Value.int .i64 (wr (((i22 : Nat) : Int) + 1))) rfl) ?_
            refine FL.nil ?_
            obtain rfl := Option.some.inj hp
            exact ⟨rfl, ⟨_, S92, i74, (nat_succ rfl (lt_of_get hx22) (p0.mono i74).le), k78, rfl⟩⟩
  ·
    clear hp hq
    rintro s22 f132 w131 ⟨H128, S129, i130, k133, k134, k135⟩
    refine FW.seq ?_
    refine FW.seq ?_
    refine FW.region ?_
    refine FL.val rfl rfl rfl (E.move k133) ?_
    refine FL.val rfl rfl rfl (E.move k134) ?_
    refine FL.val rfl rfl rfl (E.lenP te28 rfl p0) ?_
    refine FL.val rfl rfl rfl (E.lss rfl rfl) ?_
    refine FL.nil ?_
    refine FW.condF rfl dlt_len ?_
    refine FW.exit ?_
    exact ⟨nofun, rfl, ⟨_, S129, i130, k135⟩⟩
  ·
    clear hq
    intro e f126 w125 hD
    rcases q22 with s22 | x22
    ·
      obtain ⟨rfl, hD⟩ := hD
      obtain ⟨H122, S123, i124, k127⟩ := hD
      replace hp := el_go hp
      refine FW.seq ?_
      refine FW.region ?_
      refine FL.val rfl rfl rfl (E.move k127) ?_
      refine FL.val rfl rfl rfl (E.assign (v := Value.int .i64 s22) rfl) ?_
      refine FL.nil ?_
      refine FW.ret ?_
      obtain rfl := Option.some.inj hp
      exact ⟨.inr rfl, res1 rfl rfl ⟨rfl, S123.back⟩⟩
    ·
      obtain ⟨he, hL⟩ := hD
      replace hp := el_rt hp
      obtain rfl := Option.some.inj hp
      subst he
      exact hL

end Go.Proofs
