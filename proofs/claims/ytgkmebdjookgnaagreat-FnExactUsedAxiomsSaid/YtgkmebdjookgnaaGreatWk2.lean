/- Part of the walks and plain laws behind the claim: it proves helpers, under no condition beyond their own. -/
import Derived.Test.YtgkmebdjookgnaaGreatWk1
set_option linter.unusedVariables false
set_option maxRecDepth 100000
namespace Go.Proofs
open Go.Mr Go.Pu Go.PF Go.RowKit

@[reducible] def p_impl_earlier (Ha : GH) (wa : World) (r : ((List Int) × Bool)) : Ending → World → Prop :=
  fun e w' => ∃ H' : GH, ∃ v0 : Value, e = .returned (Value.tuple #[v0, Value.bool r.2]) ∧ Run wa.heap.size Ha wa H' w' ∧ RSl H' eI 1 v0 r.1
theorem w_impl_earlier {Ha : GH} {wa : World} (hs : Sl Ha wa) (a0 : Cnf) (v0_1 : Value) (p0_1 : RSl Ha (eL eI 1) 1 v0_1 a0.clauses) (v1 : Value) (a1 : List ResStep) (p1 : RSl Ha eResStep 4 v1 a1) (a2 : Int) (a3 : Int) {r : ((List Int) × Bool)} (hp : (PF.impl_earlier a0 a1 a2 a3) = some r) :
    Calls Tryz.prog 226 #[Value.agg #[Value.int .i64 a0.vars, v0_1], v1, Value.int .i64 a2, Value.int .i64 a3] wa (p_impl_earlier Ha wa r) := by
  unfold PF.impl_earlier at hp
  have S0 := St.init hs
  refine calls_go (N := 31) (args := [Value.agg #[Value.int .i64 a0.vars, v0_1], v1, Value.int .i64 a2, Value.int .i64 a3]) Tryz.func226 rfl rfl rfl ?_
  refine FW.seq ?_
  refine FW.region ?_
  obtain ⟨b21, w22, run23, S24⟩ := S0.box (P := Tryz.prog) 30 [Value.int .i64 a0.vars, v0_1] (v := Value.agg #[Value.int .i64 a0.vars, v0_1]) rfl (ones_cons rfl (ones_cons p0_1.one ones_nil))
  refine FL.val rfl rfl rfl (E.box rfl run23) ?_
  obtain ⟨H25, S26, i27, at28⟩ := S24.sealBox (i := 0) (l' := []) rfl rfl
  refine FL.val rfl rfl rfl (E.assign (v := Value.slice none 0 0) rfl) ?_
  refine FL.val rfl rfl rfl (E.assign (v := Value.bool false) rfl) ?_
  refine FL.nil ?_
  refine FW.seq ?_
  refine FW.seq ?_
  refine FW.draw (fun w' => Run w22.heap.size H25 w22 H25 w') (by kernel_rfl) (by kernel_rfl) (run_drew S26.sl) ?_
  refine FD.val rfl rfl rfl (fun w' hw' => (E.move (v := Value.int .i64 a3) rfl)) ?_
  refine FD.val rfl rfl rfl (fun w' hw' => (E.move (v := Value.int .i64 a2) rfl)) ?_
  refine FD.val rfl rfl rfl (fun w' hw' => (E.sub rfl rfl)) ?_
  refine FD.call rfl rfl rfl (fun w' hw' => (E.call Tryz.call111 (A3 rfl rfl rfl))) (fun w' hw' => Calls.cls hw' (w_impl_within (S26.call hw').sl a3 0 (wr (a2 - 1)))) ?_
  refine FD.val rfl rfl rfl (fun w' hw' => (E.not rfl)) ?_
  refine FD.val rfl rfl rfl (fun w' hw' => (E.move (v := Value.bool (!(PF.impl_within a3 0 (wr (a2 - 1))))) rfl)) ?_
  obtain ⟨t42, hqt42, hp⟩ := bnd hp
  refine FD.cut 10 (fun f => f 1 = v1 ∧ f 3 = Value.int .i64 a3 ∧ f 25 = Value.bool t42) ?_ ?_
  ·
    clear hp; have hp := hqt42; clear hqt42
    rcases ifB hp with ⟨c48, hp⟩ | ⟨c48, hp⟩
    ·
      refine FD.skip (wF_no rfl rfl rfl c48) rfl ?_
      refine FD.skip (wF_no rfl rfl rfl c48) rfl ?_
      refine FD.skip (wF_no rfl rfl rfl c48) rfl ?_
      refine FD.skip (wF_no rfl rfl rfl c48) rfl ?_
      refine FD.skip (wF_no rfl rfl rfl c48) rfl ?_
      refine FD.skip (wF_no rfl rfl rfl c48) rfl ?_
      refine FD.skip (wF_no rfl rfl rfl c48) rfl ?_
      refine FD.skip (wF_no rfl rfl rfl c48) rfl ?_
      refine FD.skip (wF_no rfl rfl rfl c48) rfl ?_
      obtain rfl := Option.some.inj hp
      refine FD.val rfl rfl rfl (fun w' hw' => (E.pickT rfl c48 rfl)) ?_
      exact FD.nil ⟨rfl, rfl, rfl⟩
    ·
      refine FD.val (wF_yes rfl rfl rfl c48) rfl rfl (fun w' hw' => (E.fieldAddr tf30_0 rfl)) ?_
      refine FD.val (wF_yes rfl rfl rfl c48) rfl rfl (fun w' hw' => (E.load rfl (run_load1 Tryz.isAgg3 (at28.now (S26.call hw').sl) rfl))) ?_
      refine FD.val (wF_yes rfl rfl rfl c48) rfl rfl (fun w' hw' => (E.move (v := v1) rfl)) ?_
      refine FD.val (wF_yes rfl rfl rfl c48) rfl rfl (fun w' hw' => (E.move (v := Value.int .i64 a3) rfl)) ?_
      obtain ⟨x55, hx56, hp⟩ := bnd hp
      obtain ⟨p49, cs50, pt51, l52, at53, rel54⟩ := p1.at hx56
      obtain ⟨v57, rfl, h58⟩ := eResStep_open rel54
      refine FD.val (wF_yes rfl rfl rfl c48) rfl rfl (fun w' hw' => (E.indexAddr te41 rfl rfl pt51)) ?_
      refine FD.val (wF_yes rfl rfl rfl c48) rfl rfl (fun w' hw' => (E.fieldAddr tf103_0 rfl)) ?_
      refine FD.val (wF_yes rfl rfl rfl c48) rfl rfl (fun w' hw' => (E.load rfl (run_load1 Tryz.isAgg61 ((at53.mono i27).now (S26.call hw').sl) rfl))) ?_
      obtain ⟨r59, hr60, hp⟩ := bnd hp
      refine FD.call (wF_yes rfl rfl rfl c48) rfl rfl (fun w' hw' => (E.call Tryz.call176 (A2 rfl rfl))) (fun w' hw' => Calls.cls hw' (w_impl_IsClause (S26.call hw').sl a0.vars v57 x55.clause (h58.mono i27) hr60)) ?_
      refine FD.val (wF_yes rfl rfl rfl c48) rfl rfl (fun w' hw' => (E.not rfl)) ?_
      obtain rfl := Option.some.inj hp
      refine FD.val rfl rfl rfl (fun w' hw' => (E.pickF rfl c48 rfl)) ?_
      exact FD.nil ⟨rfl, rfl, rfl⟩
  rintro f47 ⟨k61, k62, k63⟩
  refine FD.nil ?_
  intro w64 r66
  have S65 := S26.call r66
  rcases ifB hp with ⟨c67, hp⟩ | ⟨c67, hp⟩
  ·
    refine FW.condT k63 c67 ?_
    refine FW.seq ?_
    refine FW.region ?_
    refine FL.val rfl rfl rfl (E.assign (v := Value.slice none 0 0) rfl) ?_
    refine FL.val rfl rfl rfl (E.assign (v := Value.bool false) rfl) ?_
    refine FL.nil ?_
    refine FW.ret ?_
    obtain rfl := Option.some.inj hp
    exact ⟨.inr rfl, res2 rfl rfl rfl ⟨_, _, rfl, S65.run, (RSl.nil _ _ _)⟩⟩
  ·
    refine FW.condF k63 c67 ?_
    refine FW.skip ?_
    refine FW.seq ?_
    refine FW.region ?_
    refine FL.val rfl rfl rfl (E.move k61) ?_
    refine FL.val rfl rfl rfl (E.move k62) ?_
    obtain ⟨x74, hx75, hp⟩ := bnd hp
    obtain ⟨p68, cs69, pt70, l71, at72, rel73⟩ := p1.at hx75
    obtain ⟨v76, rfl, h77⟩ := eResStep_open rel73
    refine FL.val rfl rfl rfl (E.indexAddr te41 rfl rfl pt70) ?_
    refine FL.val rfl rfl rfl (E.fieldAddr tf103_0 rfl) ?_
    refine FL.val rfl rfl rfl (E.load rfl (run_load1 Tryz.isAgg61 ((at72.mono i27).now S65.sl) rfl)) ?_
    refine FL.val rfl rfl rfl (E.assign (v := v76) rfl) ?_
    refine FL.val rfl rfl rfl (E.assign (v := Value.bool true) rfl) ?_
    refine FL.nil ?_
    refine FW.ret ?_
    obtain rfl := Option.some.inj hp
    exact ⟨.inr rfl, res2 rfl rfl rfl ⟨_, _, rfl, S65.run, (h77.mono i27)⟩⟩

theorem w_slices_IndexFunc_int_int {Ha : GH} {wa : World} (hs : Sl Ha wa) (v0 : Value) (a0 : List Int) (p0 : RSl Ha eI 1 v0 a0) (v1 : Value) (a1 : Int → Option Bool) (p1 : Fn_I_to_B Tryz.prog Ha v1 a1) {r : Int} (hp : (PF.slices_IndexFunc_int_int a0 a1) = some r) :
    Calls Tryz.prog 157 #[v0, v1] wa (Sc Ha wa (Value.int .i64 r)) := by
  unfold PF.slices_IndexFunc_int_int at hp
  have S0 := St.init hs
  refine calls_go (N := 19) (args := [v0, v1]) Tryz.func157 rfl rfl rfl ?_
  refine FW.seq ?_
  refine FW.region ?_
  refine FL.val rfl rfl rfl (E.assign (v := Value.int .i64 0) rfl) ?_
  refine FL.nil ?_
  refine FW.seq ?_
  refine FW.seq ?_
  refine FW.region ?_
  refine FL.val rfl rfl rfl (E.move (v := v0) rfl) ?_
  refine FL.val rfl rfl rfl (E.lenP te61 rfl p0) ?_
  refine FL.val rfl rfl rfl (E.move (v := Value.int .i64 0) rfl) ?_
  refine FL.nil ?_
  obtain ⟨q22, hq, hp⟩ := bndR hp
  refine FW.block ?_
  refine FW.mono (FW.forL (S := Unit) (X := Int) (fun (i22 : Nat) (s22 : Unit) f w => ∃ H : GH, St Ha wa H w [] ∧ Inc Ha H ∧ f 8 = Value.int .i64 ((i22 : Nat) : Int) ∧ f 0 = v0 ∧ f 1 = v1 ∧ f 7 = Value.int .i64 (len a0)) (fun q e f w => match q with | .go s22 => e = Exit.exit 0 ∧ (∃ H : GH, St Ha wa H w [] ∧ Inc Ha H) | .rt x => ((e = Exit.ret) ∧ (fun e f w => (e = Exit.normal ∨ e = Exit.ret) ∧ ∀ a, Fr (δ := []) 19 a f → ∃ v, (results Tryz.f157 a.tmps).run Tryz.prog w = .ok v w ∧ (Sc Ha wa (Value.int .i64 x)) (.returned v) w) e f w)) hq ⟨_, S0, (Inc.rfl _), rfl, rfl, rfl, rfl⟩ ?_ ?_) ?_
  ·
    clear hp hq
    rintro i22 y21 s22 f53 w52 ⟨H49, S50, i51, k54, k55, k56, k57⟩ hx22 o75 hp
    refine FW.seq ?_
    refine FW.region ?_
    refine FL.val rfl rfl rfl (E.lssT k54 k57 (lss_len hx22)) ?_
    refine FL.nil ?_
    refine FW.seq ?_
    refine FW.condT rfl rfl ?_
    refine FW.skip ?_
    refine FW.seq ?_
    refine FW.block ?_
    refine FW.seq ?_
    refine FW.region ?_
    refine FL.val rfl rfl rfl (E.move k54) ?_
    refine FL.val rfl rfl rfl (E.assign (v := Value.int .i64 ((i22 : Nat) : Int)) rfl) ?_
    refine FL.nil ?_
    refine FW.seq ?_
    refine FW.region ?_
    refine FL.val rfl rfl rfl (E.move k56) ?_
    refine FL.val rfl rfl rfl (E.move k55) ?_
    refine FL.val rfl rfl rfl (E.move (v := Value.int .i64 ((i22 : Nat) : Int)) rfl) ?_
    obtain ⟨p58, cs59, pt60, l61, at62, rel63⟩ := p0.at (ix_nat hx22)
    obtain rfl := eI_open rel63
    refine FL.val rfl rfl rfl (E.indexAddr te61 rfl rfl pt60) ?_
    refine FL.val rfl rfl rfl (E.load rfl (run_load0 Tryz.isAgg3 ((at62.mono i51).now S50.sl) rfl)) ?_
    obtain ⟨r64, hr65, hp⟩ := bnd hp
    obtain ⟨fi69, cs70, hv71, he72, hc73⟩ := (p1.mono i51) H49 w52 (Inc.rfl _) S50.sl y21 r64 hr65
    refine FL.call rfl rfl rfl (E.callV he72 (Eq.trans rfl hv71) (appA (A1 rfl) cs70)) hc73 ?_
    rintro e w66 ⟨rfl, r67⟩
    refine ⟨_, rfl, ?_⟩
    have S68 := S50.call r67
    refine FL.nil ?_
    rcases ifB hp with ⟨c74, hp⟩ | ⟨c74, hp⟩
    ·
      refine FW.condT rfl c74 ?_
      refine FW.seq ?_
      refine FW.region ?_
      refine FL.val rfl rfl rfl (E.move (v := Value.int .i64 ((i22 : Nat) : Int)) rfl) ?_
      refine FL.val rfl rfl rfl (E.assign (v := Value.int .i64 ((i22 : Nat) : Int)) rfl) ?_
      refine FL.nil ?_
      refine FW.ret ?_
      obtain rfl := Option.some.inj hp
      exact ⟨nofun, rfl, ⟨.inr rfl, res1 rfl rfl ⟨rfl, S68.back⟩⟩⟩
    ·
      refine FW.condF rfl c74 ?_
      refine FW.skip ?_
      refine FW.region ?_
      refine FL.val rfl rfl rfl (E.add k54 rfl) ?_
      refine FL.val rfl rfl rfl (E.move (v := Value.int .i64 (wr (((i22 : Nat) : Int) + 1))) rfl) ?_
      refine FL.nil ?_
      obtain rfl := Option.some.inj hp
      exact ⟨rfl, ⟨_, S68, i51, (nat_succ rfl (lt_of_get hx22) (p0.mono i51).le), k55, k56, k57⟩⟩
  ·
    clear hp hq
    rintro s22 f85 w84 ⟨H81, S82, i83, k86, k87, k88, k89⟩
    refine FW.seq ?_
    refine FW.region ?_
    refine FL.val rfl rfl rfl (E.lss k86 k89) ?_
    refine FL.nil ?_
    refine FW.seq ?_
    refine FW.condF rfl dlt_len ?_
    refine FW.exit ?_
    exact ⟨nofun, rfl, ⟨_, S82, i83⟩⟩
  ·
    clear hq
    intro e f80 w79 hD
    rcases q22 with s22 | x22
    ·
      obtain ⟨rfl, hD⟩ := hD
      obtain ⟨H76, S77, i78⟩ := hD
      replace hp := el_go hp
      refine FW.seq ?_
      refine FW.region ?_
      refine FL.val rfl rfl rfl (E.assign (v := Value.int .i64 (-1)) rfl) ?_
      refine FL.nil ?_
      refine FW.ret ?_
      obtain rfl := Option.some.inj hp
      exact ⟨.inr rfl, res1 rfl rfl ⟨rfl, S77.back⟩⟩
    ·
      obtain ⟨he, hL⟩ := hD
      replace hp := el_rt hp
      obtain rfl := Option.some.inj hp
      subst he
      exact hL

theorem w_slices_ContainsFunc_int_int {Ha : GH} {wa : World} (hs : Sl Ha wa) (v0 : Value) (a0 : List Int) (p0 : RSl Ha eI 1 v0 a0) (v1 : Value) (a1 : Int → Option Bool) (p1 : Fn_I_to_B Tryz.prog Ha v1 a1) {r : Bool} (hp : (PF.slices_ContainsFunc_int_int a0 a1) = some r) :
    Calls Tryz.prog 105 #[v0, v1] wa (Sc Ha wa (Value.bool r)) := by
  unfold PF.slices_ContainsFunc_int_int at hp
  have S0 := St.init hs
  refine calls_go (N := 9) (args := [v0, v1]) Tryz.func105 rfl rfl rfl ?_
  refine FW.seq ?_
  refine FW.region ?_
  refine FL.val rfl rfl rfl (E.assign (v := Value.bool false) rfl) ?_
  refine FL.nil ?_
  refine FW.seq ?_
  refine FW.region ?_
  refine FL.val rfl rfl rfl (E.move (v := v0) rfl) ?_
  refine FL.val rfl rfl rfl (E.move (v := v1) rfl) ?_
  obtain ⟨r21, hr22, hp⟩ := bnd hp
  refine FL.call rfl rfl rfl (E.call Tryz.call157 (A2 rfl rfl)) (w_slices_IndexFunc_int_int S0.sl v0 a0 p0 v1 a1 p1 hr22) ?_
  rintro e w23 ⟨rfl, r24⟩
  refine ⟨_, rfl, ?_⟩
  have S25 := S0.call r24
  refine FL.val rfl rfl rfl (E.geq rfl rfl) ?_
  refine FL.val rfl rfl rfl (E.assign (v := Value.bool (decide (0 ≤ r21))) rfl) ?_
  refine FL.nil ?_
  refine FW.ret ?_
  obtain rfl := Option.some.inj hp
  exact ⟨.inr rfl, res1 rfl rfl ⟨rfl, S25.back⟩⟩

theorem w_slices_Index_int_int {Ha : GH} {wa : World} (hs : Sl Ha wa) (v0 : Value) (a0 : List Int) (p0 : RSl Ha eI 1 v0 a0) (a1 : Int) {r : Int} (hp : (PF.slices_Index_int_int a0 a1) = some r) :
    Calls Tryz.prog 104 #[v0, Value.int .i64 a1] wa (Sc Ha wa (Value.int .i64 r)) := by
  unfold PF.slices_Index_int_int at hp
  have S0 := St.init hs
  refine calls_go (N := 19) (args := [v0, Value.int .i64 a1]) Tryz.func104 rfl rfl rfl ?_
  refine FW.seq ?_
  refine FW.region ?_
  refine FL.val rfl rfl rfl (E.assign (v := Value.int .i64 0) rfl) ?_
  refine FL.nil ?_
  refine FW.seq ?_
  refine FW.seq ?_
  refine FW.region ?_
  refine FL.val rfl rfl rfl (E.move (v := v0) rfl) ?_
  refine FL.val rfl rfl rfl (E.lenP te61 rfl p0) ?_
  refine FL.val rfl rfl rfl (E.move (v := Value.int .i64 0) rfl) ?_
  refine FL.nil ?_
  obtain ⟨q22, hq, hp⟩ := bndR hp
  refine FW.block ?_
  refine FW.mono (FW.forL (S := Unit) (X := Int) (fun (i22 : Nat) (s22 : Unit) f w => ∃ H : GH, St Ha wa H w [] ∧ Inc Ha H ∧ f 8 = Value.int .i64 ((i22 : Nat) : Int) ∧ f 0 = v0 ∧ f 1 = Value.int .i64 a1 ∧ f 7 = Value.int .i64 (len a0)) (fun q e f w => match q with | .go s22 => e = Exit.exit 0 ∧ (∃ H : GH, St Ha wa H w [] ∧ Inc Ha H) | .rt x => ((e = Exit.ret) ∧ (fun e f w => (e = Exit.normal ∨ e = Exit.ret) ∧ ∀ a, Fr (δ := []) 19 a f → ∃ v, (results Tryz.f104 a.tmps).run Tryz.prog w = .ok v w ∧ (Sc Ha wa (Value.int .i64 x)) (.returned v) w) e f w)) hq ⟨_, S0, (Inc.rfl _), rfl, rfl, rfl, rfl⟩ ?_ ?_) ?_
  ·
    clear hp hq
    rintro i22 y21 s22 f43 w42 ⟨H39, S40, i41, k44, k45, k46, k47⟩ hx22 o55 hp
    refine FW.seq ?_
    refine FW.region ?_
    refine FL.val rfl rfl rfl (E.lssT k44 k47 (lss_len hx22)) ?_
    refine FL.nil ?_
    refine FW.seq ?_
    refine FW.condT rfl rfl ?_
    refine FW.skip ?_
    refine FW.seq ?_
    refine FW.block ?_
    refine FW.seq ?_
    refine FW.region ?_
    refine FL.val rfl rfl rfl (E.move k44) ?_
    refine FL.val rfl rfl rfl (E.assign (v := Value.int .i64 ((i22 : Nat) : Int)) rfl) ?_
    refine FL.nil ?_
    refine FW.seq ?_
    refine FW.region ?_
    refine FL.val rfl rfl rfl (E.move k46) ?_
    refine FL.val rfl rfl rfl (E.move k45) ?_
    refine FL.val rfl rfl rfl (E.move (v := Value.int .i64 ((i22 : Nat) : Int)) rfl) ?_
    obtain ⟨p48, cs49, pt50, l51, at52, rel53⟩ := p0.at (ix_nat hx22)
    obtain rfl := eI_open rel53
    refine FL.val rfl rfl rfl (E.indexAddr te61 rfl rfl pt50) ?_
    refine FL.val rfl rfl rfl (E.load rfl (run_load0 Tryz.isAgg3 ((at52.mono i41).now S40.sl) rfl)) ?_
    refine FL.val rfl rfl rfl (E.eql rfl rfl) ?_
    refine FL.nil ?_
    rcases ifB hp with ⟨c54, hp⟩ | ⟨c54, hp⟩
    ·
      refine FW.condT rfl c54 ?_
      refine FW.seq ?_
      refine FW.region ?_
      refine FL.val rfl rfl rfl (E.move (v := Value.int .i64 ((i22 : Nat) : Int)) rfl) ?_
      refine FL.val rfl rfl rfl (E.assign (v := Value.int .i64 ((i22 : Nat) : Int)) rfl) ?_
      refine FL.nil ?_
      refine FW.ret ?_
      obtain rfl := Option.some.inj hp
      exact ⟨nofun, rfl, ⟨.inr rfl, res1 rfl rfl ⟨rfl, S40.back⟩⟩⟩
    ·
      refine FW.condF rfl c54 ?_
      refine FW.skip ?_
      refine FW.region ?_
      refine FL.val rfl rfl rfl (E.add k44 rfl) ?_
      refine FL.val rfl rfl rfl (E.move (v := Value.int .i64 (wr (((i22 : Nat) : Int) + 1))) rfl) ?_
      refine FL.nil ?_
      obtain rfl := Option.some.inj hp
      exact ⟨rfl, ⟨_, S40, i41, (nat_succ rfl (lt_of_get hx22) (p0.mono i41).le), k45, k46, k47⟩⟩
  ·
    clear hp hq
    rintro s22 f65 w64 ⟨H61, S62, i63, k66, k67, k68, k69⟩
    refine FW.seq ?_
    refine FW.region ?_
    refine FL.val rfl rfl rfl (E.lss k66 k69) ?_
    refine FL.nil ?_
    refine FW.seq ?_
    refine FW.condF rfl dlt_len ?_
    refine FW.exit ?_
    exact ⟨nofun, rfl, ⟨_, S62, i63⟩⟩
  ·
    clear hq
    intro e f60 w59 hD
    rcases q22 with s22 | x22
    ·
      obtain ⟨rfl, hD⟩ := hD
      obtain ⟨H56, S57, i58⟩ := hD
      replace hp := el_go hp
      refine FW.seq ?_
      refine FW.region ?_
      refine FL.val rfl rfl rfl (E.assign (v := Value.int .i64 (-1)) rfl) ?_
      refine FL.nil ?_
      refine FW.ret ?_
      obtain rfl := Option.some.inj hp
      exact ⟨.inr rfl, res1 rfl rfl ⟨rfl, S57.back⟩⟩
    ·
      obtain ⟨he, hL⟩ := hD
      replace hp := el_rt hp
      obtain rfl := Option.some.inj hp
      subst he
      exact hL

theorem w_slices_Contains_int_int {Ha : GH} {wa : World} (hs : Sl Ha wa) (v0 : Value) (a0 : List Int) (p0 : RSl Ha eI 1 v0 a0) (a1 : Int) {r : Bool} (hp : (PF.slices_Contains_int_int a0 a1) = some r) :
    Calls Tryz.prog 171 #[v0, Value.int .i64 a1] wa (Sc Ha wa (Value.bool r)) := by
  unfold PF.slices_Contains_int_int at hp
  have S0 := St.init hs
  refine calls_go (N := 9) (args := [v0, Value.int .i64 a1]) Tryz.func171 rfl rfl rfl ?_
  refine FW.seq ?_
  refine FW.region ?_
  refine FL.val rfl rfl rfl (E.assign (v := Value.bool false) rfl) ?_
  refine FL.nil ?_
  refine FW.seq ?_
  refine FW.region ?_
  refine FL.val rfl rfl rfl (E.move (v := v0) rfl) ?_
  refine FL.val rfl rfl rfl (E.move (v := Value.int .i64 a1) rfl) ?_
  obtain ⟨r21, hr22, hp⟩ := bnd hp
  refine FL.call rfl rfl rfl (E.call Tryz.call104 (A2 rfl rfl)) (w_slices_Index_int_int S0.sl v0 a0 p0 a1 hr22) ?_
  rintro e w23 ⟨rfl, r24⟩
  refine ⟨_, rfl, ?_⟩
  have S25 := S0.call r24
  refine FL.val rfl rfl rfl (E.geq rfl rfl) ?_
  refine FL.val rfl rfl rfl (E.assign (v := Value.bool (decide (0 ≤ r21))) rfl) ?_
  refine FL.nil ?_
  refine FW.ret ?_
  obtain rfl := Option.some.inj hp
  exact ⟨.inr rfl, res1 rfl rfl ⟨rfl, S25.back⟩⟩

theorem w_impl_part_1 {Ha : GH} {wa : World} (hs : Sl Ha wa) (a0 : Int) (q0 : Addr) (b0 : List Int) (u0_0 : Value) (g0_0 : RSl Ha eI 1 u0_0 b0) (c0 : CAt Ha q0 [u0_0]) {r : Bool} (hp : (PF.impl_part_1 a0 b0) = some r) :
    Calls Tryz.prog 236 #[Value.int .i64 a0, Value.pointer (some q0)] wa (Sc Ha wa (Value.bool r)) := by
  unfold PF.impl_part_1 at hp
  have S0 := St.init hs
  refine calls_go (N := 8) (args := [Value.int .i64 a0, Value.pointer (some q0)]) Tryz.func236 rfl rfl rfl ?_
  refine FW.seq ?_
  refine FW.region ?_
  refine FL.val rfl rfl rfl (E.assign (v := Value.bool false) rfl) ?_
  refine FL.nil ?_
  refine FW.seq ?_
  refine FW.region ?_
  refine FL.val rfl rfl rfl (E.load rfl (run_load0 Tryz.isAgg61 (c0.now S0.sl) rfl)) ?_
  refine FL.val rfl rfl rfl (E.move (v := Value.int .i64 a0) rfl) ?_
  obtain ⟨r21, hr22, hp⟩ := bnd hp
  refine FL.call rfl rfl rfl (E.call Tryz.call171 (A2 rfl rfl)) (w_slices_Contains_int_int S0.sl u0_0 b0 g0_0 a0 hr22) ?_
  rintro e w23 ⟨rfl, r24⟩
  refine ⟨_, rfl, ?_⟩
  have S25 := S0.call r24
  refine FL.val rfl rfl rfl (E.not rfl) ?_
  refine FL.val rfl rfl rfl (E.assign (v := Value.bool (!r21)) rfl) ?_
  refine FL.nil ?_
  refine FW.ret ?_
  obtain rfl := Option.some.inj hp
  exact ⟨.inr rfl, res1 rfl rfl ⟨rfl, S25.back⟩⟩

theorem w_impl_part {Ha : GH} {wa : World} (hs : Sl Ha wa) (v0 : Value) (a0 : List Int) (p0 : RSl Ha eI 1 v0 a0) (v1 : Value) (a1 : List Int) (p1 : RSl Ha eI 1 v1 a1) {r : Bool} (hp : (PF.impl_part a0 a1) = some r) :
    Calls Tryz.prog 227 #[v0, v1] wa (Sc Ha wa (Value.bool r)) := by
  unfold PF.impl_part at hp
  have S0 := St.init hs
  refine calls_go (N := 9) (args := [v0, v1]) Tryz.func227 rfl rfl rfl ?_
  refine FW.seq ?_
  refine FW.region ?_
  obtain ⟨b21, w22, run23, S24⟩ := S0.box (P := Tryz.prog) 61 [v1] (v := v1) p1.cells (ones_cons p1.one ones_nil)
  refine FL.val rfl rfl rfl (E.box rfl run23) ?_
  obtain ⟨H25, S26, i27, at28⟩ := S24.sealBox (i := 0) (l' := []) rfl rfl
  refine FL.val rfl rfl rfl (E.assign (v := Value.bool false) rfl) ?_
  refine FL.nil ?_
  refine FW.seq ?_
  refine FW.region ?_
  refine FL.val rfl rfl rfl (E.move (v := v0) rfl) ?_
  refine FL.val rfl rfl rfl (E.makeFunc A0 (A1 rfl)) ?_
  obtain ⟨r29, hr30, hp⟩ := bnd hp
  refine FL.call rfl rfl rfl (E.call Tryz.call105 (A2 rfl rfl)) (w_slices_ContainsFunc_int_int S26.sl v0 a0 (p0.mono i27) (Value.func (.func 236) #[] #[Value.pointer (some ⟨b21, 0, none⟩)]) (fun x0 => PF.impl_part_1 x0 a1) (fun H2 w2 hi2 hs2 x0 r hr => ⟨236, #[Value.pointer (some ⟨b21, 0, none⟩)], rfl, Tryz.call236, w_impl_part_1 hs2 x0 ⟨b21, 0, none⟩ a1 v1 ((p1.mono i27).mono hi2) (at28.mono hi2) hr⟩) hr30) ?_
  rintro e w31 ⟨rfl, r32⟩
  refine ⟨_, rfl, ?_⟩
  have S33 := S26.call r32
  refine FL.val rfl rfl rfl (E.not rfl) ?_
  refine FL.val rfl rfl rfl (E.assign (v := Value.bool (!r29)) rfl) ?_
  refine FL.nil ?_
  refine FW.ret ?_
  obtain rfl := Option.some.inj hp
  exact ⟨.inr rfl, res1 rfl rfl ⟨rfl, S33.back⟩⟩

theorem w_impl_isVar {Ha : GH} {wa : World} (hs : Sl Ha wa) (a0 : Int) (a1 : Int) :
    Calls Tryz.prog 147 #[Value.int .i64 a0, Value.int .i64 a1] wa (Sc Ha wa (Value.bool (PF.impl_isVar a0 a1))) := by
  obtain ⟨r, hp⟩ : ∃ r, (PF.impl_isVar a0 a1) = r := ⟨_, rfl⟩
  rw [hp]
  unfold PF.impl_isVar at hp
  have S0 := St.init hs
  refine calls_go (N := 8) (args := [Value.int .i64 a0, Value.int .i64 a1]) Tryz.func147 rfl rfl rfl ?_
  refine FW.seq ?_
  refine FW.region ?_
  refine FL.val rfl rfl rfl (E.assign (v := Value.bool false) rfl) ?_
  refine FL.nil ?_
  refine FW.seq ?_
  refine FW.region ?_
  refine FL.val rfl rfl rfl (E.move (v := Value.int .i64 a1) rfl) ?_
  refine FL.val rfl rfl rfl (E.move (v := Value.int .i64 a0) rfl) ?_
  refine FL.call rfl rfl rfl (E.call Tryz.call111 (A3 rfl rfl rfl)) (w_impl_within S0.sl a1 1 a0) ?_
  rintro e w21 ⟨rfl, r22⟩
  refine ⟨_, rfl, ?_⟩
  have S23 := S0.call r22
  refine FL.val rfl rfl rfl (E.assign (v := Value.bool (PF.impl_within a1 1 a0)) rfl) ?_
  refine FL.nil ?_
  refine FW.ret ?_
  obtain rfl := hp
  exact ⟨.inr rfl, res1 rfl rfl ⟨rfl, S23.back⟩⟩

@[reducible] def p_slices_Clone_int_int (Ha : GH) (wa : World) (r : (List Int)) : Ending → World → Prop :=
  fun e w' => ∃ H' : GH, ∃ v0 : Value, ∃ n0 : Nat, ∃ c0 : List Value, e = .returned (v0) ∧ St Ha wa H' w' [.row 3 1 v0 n0 c0] ∧ Els (up wa.heap.size H') eI 1 c0 r
theorem w_slices_Clone_int_int {Ha : GH} {wa : World} (hs : Sl Ha wa) (v0 : Value) (a0 : List Int) (p0 : RSl Ha eI 1 v0 a0) {r : (List Int)} (hp : (PF.slices_Clone_int_int a0) = some r) :
    Calls Tryz.prog 87 #[v0] wa (p_slices_Clone_int_int Ha wa r) := by
  unfold PF.slices_Clone_int_int at hp
  have S0 := St.init hs
  refine calls_go (N := 8) (args := [v0]) Tryz.func87 rfl rfl rfl ?_
  refine FW.seq ?_
  refine FW.region ?_
  refine FL.val rfl rfl rfl (E.assign (v := Value.slice none 0 0) rfl) ?_
  refine FL.nil ?_
  refine FW.seq ?_
  refine FW.seq ?_
  refine FW.region ?_
  refine FL.val rfl rfl rfl (E.move (v := v0) rfl) ?_
  obtain ⟨nb21, run22, hn23⟩ := RSl.nilTest te61 p0
  refine FL.val rfl rfl rfl (run22 _ _ _ _ _ _ _ _ _ _ _ _ rfl rfl) ?_
  refine FL.nil ?_
  rcases bcase nb21 with c24 | c24
  ·
    refine FW.condT (b := nb21) rfl c24 ?_
    rw [hn23 c24, app_nil2] at hp
    refine FW.seq ?_
    refine FW.region ?_
    refine FL.val rfl rfl rfl (E.assign (v := Value.slice none 0 0) rfl) ?_
    refine FL.nil ?_
    refine FW.ret ?_
    obtain rfl := Option.some.inj hp
    exact ⟨.inr rfl, res1 rfl rfl ⟨_, _, _, _, rfl, (S0.nil 3 1), Els.nil⟩⟩
  ·
    refine FW.condF (b := nb21) rfl c24 ?_
    refine FW.skip ?_
    refine FW.seq ?_
    refine FW.region ?_
    obtain ⟨v25, w26, run27, S28⟩ := S0.buildSlice (P := Tryz.prog) te61 [] (parts := #[]) (cells := []) rfl szs_nil fc_nil ones_nil (Nat.le_of_ble_eq_true rfl)
    have els29 : Els (up wa.heap.size Ha) eI 1 [] [] := Els.nil
    refine FL.val rfl rfl rfl (E.buildSlice (B0) run27) ?_
    refine FL.val rfl rfl rfl (E.move (v := v0) rfl) ?_
    obtain ⟨xs30, hz31, hp⟩ := bnd hp
    obtain ⟨v32, w35, n33, cs34, run36, S37, els38⟩ := S28.appendP (P := Tryz.prog) (Inc.rfl _) te61 (i := 0) rfl (els29.mono upI) p0 hz31
    have S37 : St Ha wa Ha w35 [.row 3 1 v32 n33 cs34] := S37
    have els38 : Els (up wa.heap.size Ha) eI 1 cs34 xs30 := els38.any (fun _ _ _ _ h => h)
    refine FL.val rfl rfl rfl (E.append rfl rfl run36) ?_
    refine FL.val rfl rfl rfl (E.assign (v := v32) rfl) ?_
    refine FL.nil ?_
    refine FW.ret ?_
    obtain rfl := Option.some.inj hp
    exact ⟨.inr rfl, res1 rfl rfl ⟨_, _, _, _, rfl, S37, els38⟩⟩

@[reducible] def p_slices_DeleteFunc_int_int (H0 : GH) (w0 : World) (Ha : GH) (L : List MO) (r : (List Int)) : Ending → World → Prop :=
  fun e w' => ∃ H' : GH, ∃ v0r : Value, ∃ n0r : Nat, ∃ c0r : List Value, e = .returned (v0r) ∧ (St H0 w0 H' w' (.row 3 1 v0r n0r c0r :: L) ∧ Inc Ha H') ∧ Els (up w0.heap.size H') eI 1 c0r r
theorem w_slices_DeleteFunc_int_int {H0 Ha : GH} {w0 wa : World} {L : List MO} {v0 : Value} {n0 : Nat} {k0 : List Value} (S0 : St H0 w0 Ha wa (.row 3 1 v0 n0 k0 :: L)) (a0 : List Int) (p0 : Els (up w0.heap.size Ha) eI 1 k0 a0) (v1 : Value) (a1 : Int → Option Bool) (p1 : Fn_I_to_B Tryz.prog Ha v1 a1) {r : (List Int)} (hp : (PF.slices_DeleteFunc_int_int a0 a1) = some r) :
    Calls Tryz.prog 223 #[v0, v1] wa (p_slices_DeleteFunc_int_int H0 w0 Ha L r) := by
  unfold PF.slices_DeleteFunc_int_int at hp
  refine calls_go (N := 42) (args := [v0, v1]) Tryz.func223 rfl rfl rfl ?_
  refine FW.seq ?_
  refine FW.region ?_
  refine FL.val rfl rfl rfl (E.assign (v := Value.slice none 0 0) rfl) ?_
  refine FL.nil ?_
  refine FW.seq ?_
  refine FW.region ?_
  refine FL.val rfl rfl rfl (E.move (v := v0) rfl) ?_
  refine FL.val rfl rfl rfl (E.move (v := v1) rfl) ?_
  obtain ⟨H21, S22, i23, h24, nv25⟩ := S0.sealRowU (i := 0) (l' := L) rfl p0 (by decide) rfl
  obtain ⟨r26, hr27, hp⟩ := bnd hp
  refine FL.call rfl rfl rfl (E.call Tryz.call157 (A2 rfl rfl)) (w_slices_IndexFunc_int_int S22.sl v0 a0 (h24.mono upI) v1 a1 (p1.mono i23) hr27) ?_
  rintro e w28 ⟨rfl, r29⟩
  refine ⟨_, rfl, ?_⟩
  have r29 := Run.lend i23 S0.sl r29
  have S30 := S0.call r29
  refine FL.val rfl rfl rfl (E.assign (v := Value.int .i64 r26) rfl) ?_
  refine FL.nil ?_
  refine FW.seq ?_
  refine FW.seq ?_
  refine FW.region ?_
  refine FL.val rfl rfl rfl (E.move (v := Value.int .i64 r26) rfl) ?_
  refine FL.val rfl rfl rfl (E.eql rfl rfl) ?_
  refine FL.nil ?_
  rcases ifB hp with ⟨c31, hp⟩ | ⟨c31, hp⟩
  ·
    refine FW.condT rfl c31 ?_
    refine FW.seq ?_
    refine FW.region ?_
    refine FL.val rfl rfl rfl (E.move (v := v0) rfl) ?_
    refine FL.val rfl rfl rfl (E.assign (v := v0) rfl) ?_
    refine FL.nil ?_
    refine FW.ret ?_
    obtain rfl := Option.some.inj hp
    exact ⟨.inr rfl, res1 rfl rfl ⟨_, _, _, _, rfl, ⟨S30, (Inc.rfl _)⟩, p0⟩⟩
  ·
    refine FW.condF rfl c31 ?_
    refine FW.skip ?_
    refine FW.seq ?_
    refine FW.seq ?_
    refine FW.region ?_
    refine FL.val rfl rfl rfl (E.move (v := Value.int .i64 r26) rfl) ?_
    refine FL.val rfl rfl rfl (E.add rfl rfl) ?_
    refine FL.val rfl rfl rfl (E.assign (v := Value.int .i64 (wr (r26 + 1))) rfl) ?_
    refine FL.nil ?_
    obtain ⟨q32, hq, hp⟩ := bndR hp
    refine FW.block ?_
    refine FW.mono (FW.iter (S := ((List Int) × Int × Int)) (X := Empty) (fun (s32 : ((List Int) × Int × Int)) f w => ∃ H : GH, ∃ cs78 : List Value, St H0 w0 H w (.row 3 1 v0 n0 cs78 :: L) ∧ Inc Ha H ∧ Els (up w0.heap.size H) eI 1 cs78 s32.1 ∧ f 0 = v0 ∧ f 1 = v1 ∧ f 5 = Value.int .i64 s32.2.1 ∧ f 6 = Value.int .i64 s32.2.2) (fun (q : Rs ((List Int) × Int × Int) Empty) e f w => match q with | .go s32 => e = Exit.exit 0 ∧ (∃ H : GH, ∃ cs78 : List Value, St H0 w0 H w (.row 3 1 v0 n0 cs78 :: L) ∧ Inc Ha H ∧ Els (up w0.heap.size H) eI 1 cs78 s32.1 ∧ f 0 = v0 ∧ f 5 = Value.int .i64 s32.2.1) | .rt x => x.elim) hq ⟨_, _, S30, (Inc.rfl _), p0, rfl, rfl, rfl, rfl⟩ ?_) ?_
    ·
      clear hp hq
      rintro s32 f129 w128 ⟨H125, cs78, S126, i127, els79, k130, k131, k132, k133⟩ o170 hp
      refine FW.seq ?_
      refine FW.seq ?_
      refine FW.region ?_
      refine FL.val rfl rfl rfl (E.move k133) ?_
      refine FL.val rfl rfl rfl (E.move k130) ?_
      refine FL.val rfl rfl rfl (E.lenO te61 rfl S126 (i := 0) rfl els79 (by decide)) ?_
      refine FL.val rfl rfl rfl (E.lss rfl rfl) ?_
      refine FL.nil ?_
      rcases ifB hp with ⟨c134, hp⟩ | ⟨c134, hp⟩
      ·
        refine FW.condT rfl c134 ?_
        refine FW.skip ?_
        refine FW.seq ?_
        refine FW.block ?_
        refine FW.seq ?_
        refine FW.region ?_
        refine FL.val rfl rfl rfl (E.move k130) ?_
        refine FL.val rfl rfl rfl (E.move k133) ?_
        obtain ⟨x141, hx142, hp⟩ := bnd hp
        obtain ⟨p135, cs136, pt137, l138, at139, rel140⟩ := S126.row_at (i := 0) rfl els79 (by decide) hx142
        obtain rfl := eI_open rel140
        refine FL.val rfl rfl rfl (E.indexAddr te61 rfl rfl pt137) ?_
        refine FL.val rfl rfl rfl (E.load rfl (run_load0 Tryz.isAgg3 at139 rfl)) ?_
        refine FL.val rfl rfl rfl (E.assign (v := Value.int .i64 x141) rfl) ?_
        refine FL.nil ?_
        refine FW.seq ?_
        refine FW.region ?_
        refine FL.val rfl rfl rfl (E.move k131) ?_
        refine FL.val rfl rfl rfl (E.move (v := Value.int .i64 x141) rfl) ?_
        obtain ⟨r143, hr144, hp⟩ := bnd hp
        obtain ⟨fi148, cs149, hv150, he151, hc152⟩ := (p1.mono i127) H125 w128 (Inc.rfl _) S126.sl x141 r143 hr144
        refine FL.call rfl rfl rfl (E.callV he151 (Eq.trans rfl hv150) (appA (A1 rfl) cs149)) hc152 ?_
        rintro e w145 ⟨rfl, r146⟩
        refine ⟨_, rfl, ?_⟩
        have S147 := S126.call r146
        refine FL.val rfl rfl rfl (E.not rfl) ?_
        refine FL.nil ?_
        rcases ifB hp with ⟨c153, hp⟩ | ⟨c153, hp⟩
        ·
          refine FW.condT rfl c153 ?_
          refine FW.seq ?_
          refine FW.region ?_
          refine FL.val rfl rfl rfl (E.move k130) ?_
          refine FL.val rfl rfl rfl (E.move k132) ?_
          refine FL.val rfl rfl rfl (E.move (v := Value.int .i64 x141) rfl) ?_
          obtain ⟨x160, hx161, hp⟩ := bnd hp
          obtain ⟨p154, cs155, pt156, l157, at158, rel159⟩ := S147.row_at (i := 0) rfl els79 (by decide) hx161
          obtain rfl := eI_open rel159
          refine FL.val rfl rfl rfl (E.indexAddr te61 rfl rfl pt156) ?_
          obtain ⟨xs165, hput166, hp⟩ := bnd hp
          obtain ⟨w162, cs168, run163, S164, els167, ce169⟩ := S147.putEls (P := Tryz.prog) (t := 3) (i := 0) rfl els79 hput166 pt156 Tryz.sizeOf3 (u := Value.int .i64 x141) (c := [Value.int .i64 x141]) rfl rfl (ones_cons rfl ones_nil) rfl
          have S164 : St H0 w0 H125 w162 (.row 3 1 v0 n0 cs168 :: L) := S164
          refine FL.act rfl rfl (E.store rfl rfl run163) ?_
          refine FL.nil ?_
          refine FW.region ?_
          refine FL.val rfl rfl rfl (E.move k132) ?_
          refine FL.val rfl rfl rfl (E.add rfl rfl) ?_
          refine FL.val rfl rfl rfl (E.assign (v := Value.int .i64 (wr (s32.2.1 + 1))) rfl) ?_
          refine FL.nil ?_
          refine FW.region ?_
          refine FL.val rfl rfl rfl (E.move k133) ?_
          refine FL.val rfl rfl rfl (E.add rfl rfl) ?_
          refine FL.val rfl rfl rfl (E.assign (v := Value.int .i64 (wr (s32.2.2 + 1))) rfl) ?_
          refine FL.nil ?_
          obtain rfl := Option.some.inj hp
          exact ⟨rfl, ⟨_, _, S164, i127, els167, k130, k131, rfl, rfl⟩⟩
        ·
          refine FW.condF rfl c153 ?_
          refine FW.skip ?_
          refine FW.region ?_
          refine FL.val rfl rfl rfl (E.move k133) ?_
          refine FL.val rfl rfl rfl (E.add rfl rfl) ?_
          refine FL.val rfl rfl rfl (E.assign (v := Value.int .i64 (wr (s32.2.2 + 1))) rfl) ?_
          refine FL.nil ?_
          obtain rfl := Option.some.inj hp
          exact ⟨rfl, ⟨_, _, S147, i127, els79, k130, k131, k132, rfl⟩⟩
      ·
        refine FW.condF rfl c134 ?_
        refine FW.exit ?_
        obtain rfl := Option.some.inj hp
        exact ⟨nofun, rfl, ⟨_, _, S126, i127, els79, k130, k132⟩⟩
    ·
      clear hq
      intro e f175 w174 hD
      rcases q32 with s32 | x32
      ·
        obtain ⟨rfl, hD⟩ := hD
        obtain ⟨H171, cs78, S172, i173, els79, k176, k177⟩ := hD
        replace hp := el_go hp
        refine FW.seq ?_
        refine FW.region ?_
        refine FL.val rfl rfl rfl (E.move k176) ?_
        refine FL.val rfl rfl rfl (E.move k177) ?_
        obtain ⟨xs178, hc179, hp⟩ := bnd hp
        obtain ⟨v180, run181, h182⟩ := S172.tail te61 (kk := .i64) (i := 0) rfl els79 hc179
        refine FL.val rfl rfl rfl (E.slice te61 rfl (congrArg some rfl) rfl rfl (run181 _)) ?_
        obtain ⟨w183, cs184, run185, S186, els187⟩ := S172.clearTail (P := Tryz.prog) te61 (i := 0) rfl els79 h182 rfl (ones_cons rfl ones_nil)
        have S186 : St H0 w0 H171 w183 (.row 3 1 v0 n0 cs184 :: L) := S186
        refine FL.val0 rfl rfl (E.clear rfl run185) ?_
        refine FL.nil ?_
        refine FW.seq ?_
        refine FW.region ?_
        refine FL.val rfl rfl rfl (E.move k176) ?_
        refine FL.val rfl rfl rfl (E.move k177) ?_
        obtain ⟨xs188, hc189, hp⟩ := bnd hp
        obtain ⟨v190, n191, cs192, run193, S194, els195⟩ := S186.cutRow te61 (kk := .i64) (i := 0) rfl els187 hc189
        have S194 : St H0 w0 H171 w183 (.row 3 1 v190 n191 cs192 :: L) := S194
        refine FL.val rfl rfl rfl (E.slice te61 rfl rfl (congrArg some rfl) rfl (run193 _)) ?_
        refine FL.val rfl rfl rfl (E.assign (v := v190) rfl) ?_
        refine FL.nil ?_
        refine FW.ret ?_
        obtain rfl := Option.some.inj hp
        exact ⟨.inr rfl, res1 rfl rfl ⟨_, _, _, _, rfl, ⟨S194, i173⟩, els195⟩⟩
      · exact x32.elim

theorem w_impl_withoutVar_1 {Ha : GH} {wa : World} (hs : Sl Ha wa) (a0 : Int) (q0 : Addr) (b0 : Int) (c0 : CAt Ha q0 [Value.int .i64 b0]) :
    Calls Tryz.prog 224 #[Value.int .i64 a0, Value.pointer (some q0)] wa (Sc Ha wa (Value.bool (PF.impl_withoutVar_1 a0 b0))) := by
  obtain ⟨r, hp⟩ : ∃ r, (PF.impl_withoutVar_1 a0 b0) = r := ⟨_, rfl⟩
  rw [hp]
  unfold PF.impl_withoutVar_1 at hp
  have S0 := St.init hs
  refine calls_go (N := 8) (args := [Value.int .i64 a0, Value.pointer (some q0)]) Tryz.func224 rfl rfl rfl ?_
  refine FW.seq ?_
  refine FW.region ?_
  refine FL.val rfl rfl rfl (E.assign (v := Value.bool false) rfl) ?_
  refine FL.nil ?_
  refine FW.seq ?_
  refine FW.draw (fun w' => Run wa.heap.size Ha wa Ha w') (by kernel_rfl) (by kernel_rfl) (run_drew S0.sl) ?_
  refine FD.val rfl rfl rfl (fun w' hw' => (E.move (v := Value.int .i64 a0) rfl)) ?_
  refine FD.call rfl rfl rfl (fun w' hw' => (E.call Tryz.call190 (A1 rfl))) (fun w' hw' => Calls.cls hw' (w_impl_abs (S0.call hw').sl a0)) ?_
  refine FD.val rfl rfl rfl (fun w' hw' => (E.load rfl (run_load0 Tryz.isAgg3 (c0.now (S0.call hw').sl) rfl))) ?_
  refine FD.val rfl rfl rfl (fun w' hw' => (E.eql rfl rfl)) ?_
  refine FD.val rfl rfl rfl (fun w' hw' => (E.assign (v := Value.bool ((PF.impl_abs a0) == b0)) rfl)) ?_
  refine FD.nil ?_
  intro w22 r24
  have S23 := S0.call r24
  refine FW.ret ?_
  obtain rfl := hp
  exact ⟨.inr rfl, res1 rfl rfl ⟨rfl, S23.back⟩⟩

@[reducible] def p_impl_withoutVar (Ha : GH) (wa : World) (r : (List Int)) : Ending → World → Prop :=
  fun e w' => ∃ H' : GH, ∃ v0 : Value, ∃ n0 : Nat, ∃ c0 : List Value, e = .returned (v0) ∧ St Ha wa H' w' [.row 3 1 v0 n0 c0] ∧ Els (up wa.heap.size H') eI 1 c0 r
theorem w_impl_withoutVar {Ha : GH} {wa : World} (hs : Sl Ha wa) (v0 : Value) (a0 : List Int) (p0 : RSl Ha eI 1 v0 a0) (a1 : Int) {r : (List Int)} (hp : (PF.impl_withoutVar a0 a1) = some r) :
    Calls Tryz.prog 195 #[v0, Value.int .i64 a1] wa (p_impl_withoutVar Ha wa r) := by
  unfold PF.impl_withoutVar at hp
  have S0 := St.init hs
  refine calls_go (N := 9) (args := [v0, Value.int .i64 a1]) Tryz.func195 rfl rfl rfl ?_
  refine FW.seq ?_
  refine FW.region ?_
  obtain ⟨b21, w22, run23, S24⟩ := S0.box (P := Tryz.prog) 3 [Value.int .i64 a1] (v := Value.int .i64 a1) rfl (ones_cons rfl ones_nil)
  refine FL.val rfl rfl rfl (E.box rfl run23) ?_
  obtain ⟨H25, S26, i27, at28⟩ := S24.sealBox (i := 0) (l' := []) rfl rfl
  refine FL.val rfl rfl rfl (E.assign (v := Value.slice none 0 0) rfl) ?_
  refine FL.nil ?_
  refine FW.seq ?_
  refine FW.region ?_
  refine FL.val rfl rfl rfl (E.move (v := v0) rfl) ?_
  obtain ⟨r29, hr30, hp⟩ := bnd hp
  refine FL.call rfl rfl rfl (E.call Tryz.call87 (A1 rfl)) (w_slices_Clone_int_int S26.sl v0 a0 (p0.mono i27) hr30) ?_
  rintro e w32 ⟨H31, v35, n36, cs37, rfl, r34, els38⟩
  refine ⟨_, rfl, ?_⟩
  have els38 := els38.mono (up_le S26.size)
  have S33 := S26.join (l' := [.row 3 1 v35 n36 cs37]) r34 rfl
  refine FL.val rfl rfl rfl (E.makeFunc A0 (A1 rfl)) ?_
  obtain ⟨r39, hr40, hp⟩ := bnd hp
  refine FL.call rfl rfl rfl (E.call Tryz.call223 (A2 rfl rfl)) (w_slices_DeleteFunc_int_int (L := []) S33 r29 els38 (Value.func (.func 224) #[] #[Value.pointer (some ⟨b21, 0, none⟩)]) (fun x0 => some (PF.impl_withoutVar_1 x0 a1)) (fun H2 w2 hi2 hs2 x0 r hr => ⟨224, #[Value.pointer (some ⟨b21, 0, none⟩)], rfl, Tryz.call224, by cases hr; exact w_impl_withoutVar_1 hs2 x0 ⟨b21, 0, none⟩ a1 ((at28.mono r34.run.inc).mono hi2)⟩) hr40) ?_
  rintro e w42 ⟨H41, v45, n46, cs47, rfl, ⟨S43, i44⟩, els48⟩
  refine ⟨_, rfl, ?_⟩
  have S43 : St Ha wa H41 w42 [.row 3 1 v45 n46 cs47] := S43
  refine FL.val rfl rfl rfl (E.assign (v := v45) rfl) ?_
  refine FL.nil ?_
  refine FW.ret ?_
  obtain rfl := Option.some.inj hp
  exact ⟨.inr rfl, res1 rfl rfl ⟨_, _, _, _, rfl, S43, els48⟩⟩

@[reducible] def p_slices_Grow_int_int (Ha : GH) (wa : World) (r : List Int) : Ending → World → Prop :=
  fun e w' => ∃ H' : GH, ∃ v0 : Value, ∃ n0 : Nat, ∃ c0 : List Value, e = .returned (v0) ∧ St Ha wa H' w' [.row 3 1 v0 n0 c0] ∧ Els (up wa.heap.size H') eI 1 c0 r
theorem w_slices_Grow_int_int {Ha : GH} {wa : World} (hs : Sl Ha wa) (a1 : Int) {r : List Int} (hp : PF.slices_Grow_int_int a1 = some r) :
    Calls Tryz.prog 158 #[.slice none 0 0, .int .i64 a1] wa (p_slices_Grow_int_int Ha wa r) := by
  unfold PF.slices_Grow_int_int at hp
  split at hp
  · rename_i h
    cases hp
    refine (growNil (En := eI) te61 hs h.1 h.2 (fun w => Any8.slices_Grow_room (P := Tryz.prog) Tryz.grow158 none 0 0 0 w (Nat.le_refl _) (by decide) (by decide) (by decide))
      (fun n w h0 hl => ?_)).mono ?_
    · have h := Any8.slices_Grow_grow (P := Tryz.prog) Tryz.grow158 _ _ Tryz.type3 rfl (by decide) none 0 0 n [] w (Nat.le_refl _) (by omega) ?_ (by unfold lim at hl; omega) (by simp) (fun _ => rfl) (by simp)
      · refine h.mono ?_
        rintro _ _ ⟨rfl, rfl⟩
        refine ⟨by simp; rfl, ?_⟩
        simp
        rfl
      · rw [Nat.zero_add]; refine Nat.le_trans (Nat.mul_le_mul hl (show _ ≤ 4096 by decide)) (by decide)
    · rintro e w' ⟨v, n, c, rfl, h1, h2⟩
      exact ⟨_, _, _, _, rfl, h1, h2 _⟩
  · cases hp

@[reducible] def p_slices_Concat_int_int (Ha : GH) (wa : World) (r : (List Int)) : Ending → World → Prop :=
  fun e w' => ∃ H' : GH, ∃ v0 : Value, ∃ n0 : Nat, ∃ c0 : List Value, e = .returned (v0) ∧ St Ha wa H' w' [.row 3 1 v0 n0 c0] ∧ Els (up wa.heap.size H') eI 1 c0 r
theorem w_slices_Concat_int_int {Ha : GH} {wa : World} (hs : Sl Ha wa) (v0 : Value) (a0 : List (List Int)) (p0 : RSl Ha (eL eI 1) 1 v0 a0) {r : (List Int)} (hp : (PF.slices_Concat_int_int a0) = some r) :
    Calls Tryz.prog 106 #[v0] wa (p_slices_Concat_int_int Ha wa r) := by
  unfold PF.slices_Concat_int_int at hp
  have S0 := St.init hs
  refine calls_go (N := 36) (args := [v0]) Tryz.func106 rfl rfl rfl ?_
  refine FW.seq ?_
  refine FW.region ?_
  refine FL.val rfl rfl rfl (E.assign (v := Value.slice none 0 0) rfl) ?_
  refine FL.nil ?_
  refine FW.seq ?_
  refine FW.region ?_
  refine FL.val rfl rfl rfl (E.assign (v := Value.int .i64 0) rfl) ?_
  refine FL.nil ?_
  refine FW.seq ?_
  refine FW.seq ?_
  refine FW.region ?_
  refine FL.val rfl rfl rfl (E.move (v := v0) rfl) ?_
  refine FL.val rfl rfl rfl (E.lenP te22 rfl p0) ?_
  refine FL.val rfl rfl rfl (E.move (v := Value.int .i64 0) rfl) ?_
  refine FL.nil ?_
  obtain ⟨q22, hq, hp⟩ := bndR hp
  refine FW.block ?_
  refine FW.mono (FW.forL (S := Int) (X := Empty) (fun (i22 : Nat) (s22 : Int) f w => ∃ H : GH, St Ha wa H w [] ∧ Inc Ha H ∧ f 11 = Value.int .i64 ((i22 : Nat) : Int) ∧ f 0 = v0 ∧ f 3 = Value.int .i64 s22 ∧ f 9 = v0 ∧ f 10 = Value.int .i64 (len a0)) (fun (q : Rs Int Empty) e f w => match q with | .go s22 => e = Exit.exit 0 ∧ (∃ H : GH, St Ha wa H w [] ∧ Inc Ha H ∧ f 0 = v0 ∧ f 3 = Value.int .i64 s22) | .rt x => x.elim) hq ⟨_, S0, (Inc.rfl _), rfl, rfl, rfl, rfl, rfl⟩ ?_ ?_) ?_
  ·
    clear hp hq
    rintro i22 y21 s22 f46 w45 ⟨H42, S43, i44, k47, k48, k49, k50, k51⟩ hx22 o61 hp
    refine FW.seq ?_
    refine FW.region ?_
    refine FL.val rfl rfl rfl (E.lssT k47 k51 (lss_len hx22)) ?_
    refine FL.nil ?_
    refine FW.seq ?_
    refine FW.condT rfl rfl ?_
    refine FW.skip ?_
    refine FW.seq ?_
    refine FW.block ?_
    refine FW.seq ?_
    refine FW.region ?_
    obtain ⟨p52, cs53, pt54, l55, at56, rel57⟩ := p0.at (ix_nat hx22)
    obtain ⟨v58, rfl, h59⟩ := eL_open rel57
    refine FL.val rfl rfl rfl (E.indexAddr te22 k50 k47 pt54) ?_
    refine FL.val rfl rfl rfl (E.load rfl (run_load0 Tryz.isAgg61 ((at56.mono i44).now S43.sl) rfl)) ?_
    refine FL.val rfl rfl rfl (E.assign (v := v58) rfl) ?_
    refine FL.nil ?_
    refine FW.seq ?_
    refine FW.region ?_
    refine FL.val rfl rfl rfl (E.move k49) ?_
    refine FL.val rfl rfl rfl (E.move (v := v58) rfl) ?_
    refine FL.val rfl rfl rfl (E.lenP te61 rfl h59) ?_
    refine FL.val rfl rfl rfl (E.add rfl rfl) ?_
    refine FL.val rfl rfl rfl (E.assign (v := Value.int .i64 (wr (s22 + (len y21)))) rfl) ?_
    refine FL.nil ?_
    refine FW.seq ?_
    refine FW.region ?_
    refine FL.val rfl rfl rfl (E.move (v := Value.int .i64 (wr (s22 + (len y21)))) rfl) ?_
    refine FL.val rfl rfl rfl (E.lss rfl rfl) ?_
    refine FL.nil ?_
    rcases ifB hp with ⟨c60, hp⟩ | ⟨c60, hp⟩
    ·
      refine FW.condT rfl c60 ?_
      cases hp
    ·
      refine FW.condF rfl c60 ?_
      refine FW.skip ?_
      refine FW.region ?_
      refine FL.val rfl rfl rfl (E.add k47 rfl) ?_
      refine FL.val rfl rfl rfl (E.move (v := Value.int .i64 (wr (((i22 : Nat) : Int) + 1))) rfl) ?_
      refine FL.nil ?_
      obtain rfl := Option.some.inj hp
      exact ⟨rfl, ⟨_, S43, i44, (nat_succ rfl (lt_of_get hx22) (p0.mono i44).le), k48, rfl, k50, k51⟩⟩
  ·
    clear hp hq
    rintro s22 f159 w158 ⟨H155, S156, i157, k160, k161, k162, k163, k164⟩
    refine FW.seq ?_
    refine FW.region ?_
    refine FL.val rfl rfl rfl (E.lss k160 k164) ?_
    refine FL.nil ?_
    refine FW.seq ?_
    refine FW.condF rfl dlt_len ?_
    refine FW.exit ?_
    exact ⟨nofun, rfl, ⟨_, S156, i157, k161, k162⟩⟩
  ·
    clear hq
    intro e f66 w65 hD
    rcases q22 with s22 | x22
    ·
      obtain ⟨rfl, hD⟩ := hD
      obtain ⟨H62, S63, i64, k67, k68⟩ := hD
      replace hp := el_go hp
      refine FW.seq ?_
      refine FW.region ?_
      refine FL.val rfl rfl rfl (E.move k68) ?_
      obtain ⟨r69, hr70, hp⟩ := bnd hp
      refine FL.call rfl rfl rfl (E.call Tryz.call158 (A2 rfl rfl)) (w_slices_Grow_int_int S63.sl s22 hr70) ?_
      rintro e w72 ⟨H71, v75, n76, cs77, rfl, r74, els78⟩
      refine ⟨_, rfl, ?_⟩
      have els78 := els78.mono (up_le S63.size)
      have S73 := S63.join (l' := [.row 3 1 v75 n76 cs77]) r74 rfl
      refine FL.val rfl rfl rfl (E.assign (v := v75) rfl) ?_
      refine FL.nil ?_
      refine FW.seq ?_
      refine FW.seq ?_
      refine FW.region ?_
      refine FL.val rfl rfl rfl (E.move k67) ?_
      refine FL.val rfl rfl rfl (E.lenP te22 rfl p0) ?_
      refine FL.val rfl rfl rfl (E.move (v := Value.int .i64 0) rfl) ?_
      refine FL.nil ?_
      obtain ⟨q80, hq, hp⟩ := bndR hp
      refine FW.block ?_
      refine FW.mono (FW.forL (S := (List Int)) (X := Empty) (fun (i80 : Nat) (s80 : (List Int)) f w => ∃ H : GH, ∃ v81 : Value, ∃ n82 : Nat, ∃ cs83 : List Value, St Ha wa H w [.row 3 1 v81 n82 cs83] ∧ Inc H71 H ∧ Els (up wa.heap.size H) eI 1 cs83 s80 ∧ f 27 = Value.int .i64 ((i80 : Nat) : Int) ∧ f 6 = v81 ∧ f 25 = v0 ∧ f 26 = Value.int .i64 (len a0)) (fun (q : Rs (List Int) Empty) e f w => match q with | .go s80 => e = Exit.exit 2 ∧ (∃ H : GH, ∃ v81 : Value, ∃ n82 : Nat, ∃ cs83 : List Value, St Ha wa H w [.row 3 1 v81 n82 cs83] ∧ Inc H71 H ∧ Els (up wa.heap.size H) eI 1 cs83 s80 ∧ f 6 = v81) | .rt x => x.elim) hq ⟨_, _, _, _, S73, (Inc.rfl _), els78, rfl, rfl, rfl, rfl⟩ ?_ ?_) ?_
      ·
        clear hp hq
        rintro i80 y79 s80 f116 w115 ⟨H112, v81, n82, cs83, S113, i114, els84, k117, k118, k119, k120⟩ hx80 o139 hp
        refine FW.seq ?_
        refine FW.region ?_
        refine FL.val rfl rfl rfl (E.lssT k117 k120 (lss_len hx80)) ?_
        refine FL.nil ?_
        refine FW.seq ?_
        refine FW.condT rfl rfl ?_
        refine FW.skip ?_
        refine FW.seq ?_
        refine FW.block ?_
        refine FW.seq ?_
        refine FW.region ?_
        obtain ⟨p121, cs122, pt123, l124, at125, rel126⟩ := p0.at (ix_nat hx80)
        obtain ⟨v127, rfl, h128⟩ := eL_open rel126
        refine FL.val rfl rfl rfl (E.indexAddr te22 k119 k117 pt123) ?_
        refine FL.val rfl rfl rfl (E.load rfl (run_load0 Tryz.isAgg61 ((at125.mono ((i64.tr r74.run.inc).tr i114)).now S113.sl) rfl)) ?_
        refine FL.val rfl rfl rfl (E.assign (v := v127) rfl) ?_
        refine FL.nil ?_
        refine FW.region ?_
        refine FL.val rfl rfl rfl (E.move k118) ?_
        refine FL.val rfl rfl rfl (E.move (v := v127) rfl) ?_
        obtain ⟨xs129, hz130, hp⟩ := bnd hp
        obtain ⟨v131, w134, n132, cs133, run135, S136, els137⟩ := S113.appendP (P := Tryz.prog) (Inc.rfl _) te61 (i := 0) rfl (els84.mono upI) (h128.mono ((i64.tr r74.run.inc).tr i114)) hz130
        have S136 : St Ha wa H112 w134 [.row 3 1 v131 n132 cs133] := S136
        have els137 : Els (up wa.heap.size H112) eI 1 cs133 xs129 := els137.any (fun _ _ _ _ h => h)
        refine FL.val rfl rfl rfl (E.append rfl rfl run135) ?_
        refine FL.val rfl rfl rfl (E.assign (v := v131) rfl) ?_
        refine FL.nil ?_
        refine FW.region ?_
        refine FL.val rfl rfl rfl (E.add k117 rfl) ?_
        refine FL.val rfl rfl rfl (E.move (v := Value.int .i64 (wr (((i80 : Nat) : Int) + 1))) rfl) ?_
        refine FL.nil ?_
        obtain rfl := Option.some.inj hp
        exact ⟨rfl, ⟨_, _, _, _, S136, i114, els137, (nat_succ rfl (lt_of_get hx80) (p0.mono ((i64.tr r74.run.inc).tr i114)).le), rfl, k119, k120⟩⟩
      ·
        clear hp hq
        rintro s80 f150 w149 ⟨H146, v81, n82, cs83, S147, i148, els84, k151, k152, k153, k154⟩
        refine FW.seq ?_
        refine FW.region ?_
        refine FL.val rfl rfl rfl (E.lss k151 k154) ?_
        refine FL.nil ?_
        refine FW.seq ?_
        refine FW.condF rfl dlt_len ?_
        refine FW.exit ?_
        exact ⟨nofun, rfl, ⟨_, _, _, _, S147, i148, els84, k152⟩⟩
      ·
        clear hq
        intro e f144 w143 hD
        rcases q80 with s80 | x80
        ·
          obtain ⟨rfl, hD⟩ := hD
          obtain ⟨H140, v81, n82, cs83, S141, i142, els84, k145⟩ := hD
          replace hp := el_go hp
          refine FW.seq ?_
          refine FW.region ?_
          refine FL.val rfl rfl rfl (E.move k145) ?_
          refine FL.val rfl rfl rfl (E.assign (v := v81) rfl) ?_
          refine FL.nil ?_
          refine FW.ret ?_
          obtain rfl := Option.some.inj hp
          exact ⟨.inr rfl, res1 rfl rfl ⟨_, _, _, _, rfl, S141, els84⟩⟩
        · exact x80.elim
    · exact x22.elim

@[reducible] def p_slices_SortFunc_int_int (H0 : GH) (w0 : World) (Ha : GH) (L : List MO) (v0 : Value) (n0 : Nat) (r : (List Int)) : Ending → World → Prop :=
  fun e w' => ∃ H' : GH, ∃ c0k : List Value, e = .returned (Value.tuple #[]) ∧ (St H0 w0 H' w' (.row 3 1 v0 n0 c0k :: L) ∧ Inc Ha H') ∧ Els (up w0.heap.size H') eI 1 c0k r
theorem w_slices_SortFunc_int_int {H0 Ha : GH} {w0 wa : World} {L : List MO} {v0 : Value} {n0 : Nat} {k0 : List Value} (S0 : St H0 w0 Ha wa (.row 3 1 v0 n0 k0 :: L)) (a0 : List Int) (p0 : Els (up w0.heap.size Ha) eI 1 k0 a0) (v1 : Value) (a1 : Int → Int → Option Int) (p1 : Fn_I_I_to_I Tryz.prog Ha v1 a1) {r : (List Int)} (hp : (PF.slices_SortFunc_int_int a0 a1) = some r) :
    Calls Tryz.prog 222 #[v0, v1] wa (p_slices_SortFunc_int_int H0 w0 Ha L v0 n0 r) := by
  refine (St.sortF (l := .row 3 1 v0 n0 k0 :: L) (i := 0) upI S0 rfl p0 (fun H2 w2 hi hs2 c x hc d y hd r hr => by cases eI_open hc; cases eI_open hd; exact p1 H2 w2 hi hs2 x y r hr) (fun p cap fv w => AnyF.slices_SortFunc_none (P := Tryz.prog) (ρ := Tryz.sort222_ren) { Tryz.sort222 with } p cap fv w) (fun α _ enc h1 cf hO g cb blk off cap d w eg hc hH hb hs => Any.slices_SortFunc Tryz.sort222 enc h1 cf hO g cb blk off cap d w eg hc hH hb hs) hp).mono ?_
  rintro e w' ⟨rfl, c', h1, h2⟩
  exact ⟨_, _, rfl, ⟨h1, Inc.rfl _⟩, h2⟩

theorem w_cmp_isNaN_int {Ha : GH} {wa : World} (hs : Sl Ha wa) (a0 : Int) :
    Calls Tryz.prog 189 #[Value.int .i64 a0] wa (Sc Ha wa (Value.bool (PF.cmp_isNaN_int a0))) := by
  obtain ⟨r, hp⟩ : ∃ r, (PF.cmp_isNaN_int a0) = r := ⟨_, rfl⟩
  rw [hp]
  unfold PF.cmp_isNaN_int at hp
  have S0 := St.init hs
  refine calls_go (N := 6) (args := [Value.int .i64 a0]) Tryz.func189 rfl rfl rfl ?_
  refine FW.seq ?_
  refine FW.region ?_
  refine FL.val rfl rfl rfl (E.assign (v := Value.bool false) rfl) ?_
  refine FL.nil ?_
  refine FW.seq ?_
  refine FW.region ?_
  refine FL.val rfl rfl rfl (E.move (v := Value.int .i64 a0) rfl) ?_
  refine FL.val rfl rfl rfl (E.move (v := Value.int .i64 a0) rfl) ?_
  refine FL.val rfl rfl rfl (E.neq rfl rfl) ?_
  refine FL.val rfl rfl rfl (E.assign (v := Value.bool (!(a0 == a0))) rfl) ?_
  refine FL.nil ?_
  refine FW.ret ?_
  obtain rfl := hp
  exact ⟨.inr rfl, res1 rfl rfl ⟨rfl, S0.back⟩⟩

theorem w_cmp_Compare_int {Ha : GH} {wa : World} (hs : Sl Ha wa) (a0 : Int) (a1 : Int) :
    Calls Tryz.prog 140 #[Value.int .i64 a0, Value.int .i64 a1] wa (Sc Ha wa (Value.int .i64 (PF.cmp_Compare_int a0 a1))) := by
  obtain ⟨r, hp⟩ : ∃ r, (PF.cmp_Compare_int a0 a1) = r := ⟨_, rfl⟩
  rw [hp]
  unfold PF.cmp_Compare_int at hp
  have S0 := St.init hs
  refine calls_go (N := 20) (args := [Value.int .i64 a0, Value.int .i64 a1]) Tryz.func140 rfl rfl rfl ?_
  refine FW.seq ?_
  refine FW.region ?_
  refine FL.val rfl rfl rfl (E.assign (v := Value.int .i64 0) rfl) ?_
  refine FL.nil ?_
  refine FW.seq ?_
  refine FW.region ?_
  refine FL.val rfl rfl rfl (E.move (v := Value.int .i64 a0) rfl) ?_
  refine FL.call rfl rfl rfl (E.call Tryz.call189 (A1 rfl)) (w_cmp_isNaN_int S0.sl a0) ?_
  rintro e w21 ⟨rfl, r22⟩
  refine ⟨_, rfl, ?_⟩
  have S23 := S0.call r22
  refine FL.val rfl rfl rfl (E.assign (v := Value.bool (PF.cmp_isNaN_int a0)) rfl) ?_
  refine FL.nil ?_
  refine FW.seq ?_
  refine FW.region ?_
  refine FL.val rfl rfl rfl (E.move (v := Value.int .i64 a1) rfl) ?_
  refine FL.call rfl rfl rfl (E.call Tryz.call189 (A1 rfl)) (w_cmp_isNaN_int S23.sl a1) ?_
  rintro e w24 ⟨rfl, r25⟩
  refine ⟨_, rfl, ?_⟩
  have S26 := S23.call r25
  refine FL.val rfl rfl rfl (E.assign (v := Value.bool (PF.cmp_isNaN_int a1)) rfl) ?_
  refine FL.nil ?_
  refine FW.seq ?_
  refine FW.seq ?_
  refine FW.region ?_
  refine FL.val rfl rfl rfl (E.move (v := Value.bool (PF.cmp_isNaN_int a0)) rfl) ?_
  refine FL.nil ?_
  rcases ifT hp with ⟨c27, hp⟩ | ⟨c27, hp⟩
  ·
    refine FW.condT rfl c27 ?_
    refine FW.seq ?_
    refine FW.seq ?_
    refine FW.region ?_
    refine FL.val rfl rfl rfl (E.move (v := Value.bool (PF.cmp_isNaN_int a1)) rfl) ?_
    refine FL.nil ?_
    rcases ifT hp with ⟨c28, hp⟩ | ⟨c28, hp⟩
    ·
      refine FW.condT rfl c28 ?_
      refine FW.seq ?_
      refine FW.region ?_
      refine FL.val rfl rfl rfl (E.assign (v := Value.int .i64 0) rfl) ?_
      refine FL.nil ?_
      refine FW.ret ?_
      obtain rfl := hp
      exact ⟨.inr rfl, res1 rfl rfl ⟨rfl, S26.back⟩⟩
    ·
      refine FW.condF rfl c28 ?_
      refine FW.skip ?_
      refine FW.seq ?_
      refine FW.region ?_
      refine FL.val rfl rfl rfl (E.assign (v := Value.int .i64 (-1)) rfl) ?_
      refine FL.nil ?_
      refine FW.ret ?_
      obtain rfl := hp
      exact ⟨.inr rfl, res1 rfl rfl ⟨rfl, S26.back⟩⟩
  ·
    refine FW.condF rfl c27 ?_
    refine FW.skip ?_
    refine FW.seq ?_
    refine FW.seq ?_
    refine FW.region ?_
    refine FL.val rfl rfl rfl (E.move (v := Value.bool (PF.cmp_isNaN_int a1)) rfl) ?_
    refine FL.nil ?_
    rcases ifT hp with ⟨c29, hp⟩ | ⟨c29, hp⟩
    ·
      refine FW.condT rfl c29 ?_
      refine FW.seq ?_
      refine FW.region ?_
      refine FL.val rfl rfl rfl (E.assign (v := Value.int .i64 1) rfl) ?_
      refine FL.nil ?_
      refine FW.ret ?_
      obtain rfl := hp
      exact ⟨.inr rfl, res1 rfl rfl ⟨rfl, S26.back⟩⟩
    ·
      refine FW.condF rfl c29 ?_
      refine FW.skip ?_
      refine FW.seq ?_
      refine FW.seq ?_
      refine FW.region ?_
      refine FL.val rfl rfl rfl (E.move (v := Value.int .i64 a0) rfl) ?_
      refine FL.val rfl rfl rfl (E.move (v := Value.int .i64 a1) rfl) ?_
      refine FL.val rfl rfl rfl (E.lss rfl rfl) ?_
      refine FL.nil ?_
      rcases ifT hp with ⟨c30, hp⟩ | ⟨c30, hp⟩
      ·
        refine FW.condT rfl c30 ?_
        refine FW.seq ?_
        refine FW.region ?_
        refine FL.val rfl rfl rfl (E.assign (v := Value.int .i64 (-1)) rfl) ?_
        refine FL.nil ?_
        refine FW.ret ?_
        obtain rfl := hp
        exact ⟨.inr rfl, res1 rfl rfl ⟨rfl, S26.back⟩⟩
      ·
        refine FW.condF rfl c30 ?_
        refine FW.skip ?_
        refine FW.seq ?_
        refine FW.seq ?_
        refine FW.region ?_
        refine FL.val rfl rfl rfl (E.move (v := Value.int .i64 a0) rfl) ?_
        refine FL.val rfl rfl rfl (E.move (v := Value.int .i64 a1) rfl) ?_
        refine FL.val rfl rfl rfl (E.gtr rfl rfl) ?_
        refine FL.nil ?_
        rcases ifT hp with ⟨c31, hp⟩ | ⟨c31, hp⟩
        ·
          refine FW.condT rfl c31 ?_
          refine FW.seq ?_
          refine FW.region ?_
          refine FL.val rfl rfl rfl (E.assign (v := Value.int .i64 1) rfl) ?_
          refine FL.nil ?_
          refine FW.ret ?_
          obtain rfl := hp
          exact ⟨.inr rfl, res1 rfl rfl ⟨rfl, S26.back⟩⟩
        ·
          refine FW.condF rfl c31 ?_
          refine FW.skip ?_
          refine FW.seq ?_
          refine FW.region ?_
          refine FL.val rfl rfl rfl (E.assign (v := Value.int .i64 0) rfl) ?_
          refine FL.nil ?_
          refine FW.ret ?_
          obtain rfl := hp
          exact ⟨.inr rfl, res1 rfl rfl ⟨rfl, S26.back⟩⟩

theorem w_cmp_Or_int {Ha : GH} {wa : World} (hs : Sl Ha wa) (v0 : Value) (a0 : List Int) (p0 : RSl Ha eI 1 v0 a0) {r : Int} (hp : (PF.cmp_Or_int a0) = some r) :
    Calls Tryz.prog 139 #[v0] wa (Sc Ha wa (Value.int .i64 r)) := by
  unfold PF.cmp_Or_int at hp
  have S0 := St.init hs
  refine calls_go (N := 18) (args := [v0]) Tryz.func139 rfl rfl rfl ?_
  refine FW.seq ?_
  refine FW.region ?_
  refine FL.val rfl rfl rfl (E.assign (v := Value.int .i64 0) rfl) ?_
  refine FL.nil ?_
  refine FW.seq ?_
  refine FW.region ?_
  refine FL.val rfl rfl rfl (E.assign (v := Value.int .i64 0) rfl) ?_
  refine FL.nil ?_
  refine FW.seq ?_
  refine FW.seq ?_
  refine FW.region ?_
  refine FL.val rfl rfl rfl (E.move (v := v0) rfl) ?_
  refine FL.val rfl rfl rfl (E.lenP te61 rfl p0) ?_
  refine FL.val rfl rfl rfl (E.move (v := Value.int .i64 0) rfl) ?_
  refine FL.nil ?_
  obtain ⟨q22, hq, hp⟩ := bndR hp
  refine FW.block ?_
  refine FW.mono (FW.forL (S := Unit) (X := Int) (fun (i22 : Nat) (s22 : Unit) f w => ∃ H : GH, St Ha wa H w [] ∧ Inc Ha H ∧ f 8 = Value.int .i64 ((i22 : Nat) : Int) ∧ f 3 = Value.int .i64 0 ∧ f 6 = v0 ∧ f 7 = Value.int .i64 (len a0)) (fun q e f w => match q with | .go s22 => e = Exit.exit 0 ∧ (∃ H : GH, St Ha wa H w [] ∧ Inc Ha H ∧ f 3 = Value.int .i64 0) | .rt x => ((e = Exit.ret) ∧ (fun e f w => (e = Exit.normal ∨ e = Exit.ret) ∧ ∀ a, Fr (δ := []) 18 a f → ∃ v, (results Tryz.f139 a.tmps).run Tryz.prog w = .ok v w ∧ (Sc Ha wa (Value.int .i64 x)) (.returned v) w) e f w)) hq ⟨_, S0, (Inc.rfl _), rfl, rfl, rfl, rfl⟩ ?_ ?_) ?_
  ·
    clear hp hq
    rintro i22 y21 s22 f43 w42 ⟨H39, S40, i41, k44, k45, k46, k47⟩ hx22 o55 hp
    refine FW.seq ?_
    refine FW.region ?_
    refine FL.val rfl rfl rfl (E.lssT k44 k47 (lss_len hx22)) ?_
    refine FL.nil ?_
    refine FW.seq ?_
    refine FW.condT rfl rfl ?_
    refine FW.skip ?_
    refine FW.seq ?_
    refine FW.block ?_
    refine FW.seq ?_
    refine FW.region ?_
    obtain ⟨p48, cs49, pt50, l51, at52, rel53⟩ := p0.at (ix_nat hx22)
    obtain rfl := eI_open rel53
    refine FL.val rfl rfl rfl (E.indexAddr te61 k46 k44 pt50) ?_
    refine FL.val rfl rfl rfl (E.load rfl (run_load0 Tryz.isAgg3 ((at52.mono i41).now S40.sl) rfl)) ?_
    refine FL.val rfl rfl rfl (E.assign (v := Value.int .i64 y21) rfl) ?_
    refine FL.nil ?_
    refine FW.seq ?_
    refine FW.region ?_
    refine FL.val rfl rfl rfl (E.move (v := Value.int .i64 y21) rfl) ?_
    refine FL.val rfl rfl rfl (E.move k45) ?_
    refine FL.val rfl rfl rfl (E.neq rfl rfl) ?_
    refine FL.nil ?_
    rcases ifB hp with ⟨c54, hp⟩ | ⟨c54, hp⟩
    ·
      refine FW.condT rfl c54 ?_
      refine FW.seq ?_
      refine FW.region ?_
      refine FL.val rfl rfl rfl (E.move (v := Value.int .i64 y21) rfl) ?_
      refine FL.val rfl rfl rfl (E.assign (v := Value.int .i64 y21) rfl) ?_
      refine FL.nil ?_
      refine FW.ret ?_
      obtain rfl := Option.some.inj hp
      exact ⟨nofun, rfl, ⟨.inr rfl, res1 rfl rfl ⟨rfl, S40.back⟩⟩⟩
    ·
      refine FW.condF rfl c54 ?_
      refine FW.skip ?_
      refine FW.region ?_
      refine FL.val rfl rfl rfl (E.add k44 rfl) ?_
      refine FL.val rfl rfl rfl (E.move (v := Value.int .i64 (wr (((i22 : Nat) : Int) + 1))) rfl) ?_
      refine FL.nil ?_
      obtain rfl := Option.some.inj hp
      exact ⟨rfl, ⟨_, S40, i41, (nat_succ rfl (lt_of_get hx22) (p0.mono i41).le), k45, k46, k47⟩⟩
  ·
    clear hp hq
    rintro s22 f66 w65 ⟨H62, S63, i64, k67, k68, k69, k70⟩
    refine FW.seq ?_
    refine FW.region ?_
    refine FL.val rfl rfl rfl (E.lss k67 k70) ?_
    refine FL.nil ?_
    refine FW.seq ?_
    refine FW.condF rfl dlt_len ?_
    refine FW.exit ?_
    exact ⟨nofun, rfl, ⟨_, S63, i64, k68⟩⟩
  ·
    clear hq
    intro e f60 w59 hD
    rcases q22 with s22 | x22
    ·
      obtain ⟨rfl, hD⟩ := hD
      obtain ⟨H56, S57, i58, k61⟩ := hD
      replace hp := el_go hp
      refine FW.seq ?_
      refine FW.region ?_
      refine FL.val rfl rfl rfl (E.move k61) ?_
      refine FL.val rfl rfl rfl (E.assign (v := Value.int .i64 0) rfl) ?_
      refine FL.nil ?_
      refine FW.ret ?_
      obtain rfl := Option.some.inj hp
      exact ⟨.inr rfl, res1 rfl rfl ⟨rfl, S57.back⟩⟩
    ·
      obtain ⟨he, hL⟩ := hD
      replace hp := el_rt hp
      obtain rfl := Option.some.inj hp
      subst he
      exact hL

theorem w_impl_compareLiterals {Ha : GH} {wa : World} (hs : Sl Ha wa) (a0 : Int) (a1 : Int) {r : Int} (hp : (PF.impl_compareLiterals a0 a1) = some r) :
    Calls Tryz.prog 142 #[Value.int .i64 a0, Value.int .i64 a1] wa (Sc Ha wa (Value.int .i64 r)) := by
  unfold PF.impl_compareLiterals at hp
  have S0 := St.init hs
  refine calls_go (N := 15) (args := [Value.int .i64 a0, Value.int .i64 a1]) Tryz.func142 rfl rfl rfl ?_
  refine FW.seq ?_
  refine FW.region ?_
  refine FL.val rfl rfl rfl (E.assign (v := Value.int .i64 0) rfl) ?_
  refine FL.nil ?_
  refine FW.seq ?_
  refine FW.region ?_
  refine FL.val rfl rfl rfl (E.move (v := Value.int .i64 a0) rfl) ?_
  refine FL.call rfl rfl rfl (E.call Tryz.call190 (A1 rfl)) (w_impl_abs S0.sl a0) ?_
  rintro e w21 ⟨rfl, r22⟩
  refine ⟨_, rfl, ?_⟩
  have S23 := S0.call r22
  refine FL.val rfl rfl rfl (E.move (v := Value.int .i64 a1) rfl) ?_
  refine FL.call rfl rfl rfl (E.call Tryz.call190 (A1 rfl)) (w_impl_abs S23.sl a1) ?_
  rintro e w24 ⟨rfl, r25⟩
  refine ⟨_, rfl, ?_⟩
  have S26 := S23.call r25
  refine FL.call rfl rfl rfl (E.call Tryz.call140 (A2 rfl rfl)) (w_cmp_Compare_int S26.sl (PF.impl_abs a0) (PF.impl_abs a1)) ?_
  rintro e w27 ⟨rfl, r28⟩
  refine ⟨_, rfl, ?_⟩
  have S29 := S26.call r28
  refine FL.val rfl rfl rfl (E.move (v := Value.int .i64 a1) rfl) ?_
  refine FL.val rfl rfl rfl (E.move (v := Value.int .i64 a0) rfl) ?_
  refine FL.call rfl rfl rfl (E.call Tryz.call140 (A2 rfl rfl)) (w_cmp_Compare_int S29.sl a1 a0) ?_
  rintro e w30 ⟨rfl, r31⟩
  refine ⟨_, rfl, ?_⟩
  have S32 := S29.call r31
  obtain ⟨v33, w34, run35, S36⟩ := S32.buildSlice (P := Tryz.prog) te61 [Value.int .i64 (PF.cmp_Compare_int (PF.impl_abs a0) (PF.impl_abs a1)), Value.int .i64 (PF.cmp_Compare_int a1 a0)] (parts := #[(0, Value.int .i64 (PF.cmp_Compare_int (PF.impl_abs a0) (PF.impl_abs a1))), (1, Value.int .i64 (PF.cmp_Compare_int a1 a0))]) (cells := [Value.int .i64 (PF.cmp_Compare_int (PF.impl_abs a0) (PF.impl_abs a1)), Value.int .i64 (PF.cmp_Compare_int a1 a0)]) rfl (szs_cons rfl (szs_cons rfl szs_nil)) (fc_cons rfl (fc_cons rfl fc_nil)) (ones_cons rfl (ones_cons rfl ones_nil)) (Nat.le_of_ble_eq_true rfl)
  have els37 : Els (up wa.heap.size Ha) eI 1 [Value.int .i64 (PF.cmp_Compare_int (PF.impl_abs a0) (PF.impl_abs a1)), Value.int .i64 (PF.cmp_Compare_int a1 a0)] [(PF.cmp_Compare_int (PF.impl_abs a0) (PF.impl_abs a1)), (PF.cmp_Compare_int a1 a0)] := (Els.snoc (H := (up wa.heap.size Ha)) (E := eI) (k := 1) (c := [Value.int .i64 (PF.cmp_Compare_int a1 a0)]) (x := (PF.cmp_Compare_int a1 a0)) (Els.snoc (H := (up wa.heap.size Ha)) (E := eI) (k := 1) (c := [Value.int .i64 (PF.cmp_Compare_int (PF.impl_abs a0) (PF.impl_abs a1))]) (x := (PF.cmp_Compare_int (PF.impl_abs a0) (PF.impl_abs a1))) Els.nil rfl rfl) rfl rfl)
  refine FL.val rfl rfl rfl (E.buildSlice (B2 rfl rfl) run35) ?_
  obtain ⟨H38, S39, i40, h41, nv42⟩ := S36.sealRowU (i := 0) (l' := []) rfl els37 (by decide) rfl
  obtain ⟨r43, hr44, hp⟩ := bnd hp
  refine FL.call rfl rfl rfl (E.call Tryz.call139 (A1 rfl)) (w_cmp_Or_int S39.sl v33 [(PF.cmp_Compare_int (PF.impl_abs a0) (PF.impl_abs a1)), (PF.cmp_Compare_int a1 a0)] (h41.mono upI) hr44) ?_
  rintro e w45 ⟨rfl, r46⟩
  refine ⟨_, rfl, ?_⟩
  have r46 := Run.lend i40 S36.sl r46
  have S47 := S36.call r46
  refine FL.val rfl rfl rfl (E.assign (v := Value.int .i64 r43) rfl) ?_
  refine FL.nil ?_
  refine FW.ret ?_
  obtain rfl := Option.some.inj hp
  exact ⟨.inr rfl, res1 rfl rfl ⟨rfl, S47.back⟩⟩

@[reducible] def p_slices_Compact_int_int (H0 : GH) (w0 : World) (Ha : GH) (L : List MO) (r : (List Int)) : Ending → World → Prop :=
  fun e w' => ∃ H' : GH, ∃ v0r : Value, ∃ n0r : Nat, ∃ c0r : List Value, e = .returned (v0r) ∧ (St H0 w0 H' w' (.row 3 1 v0r n0r c0r :: L) ∧ Inc Ha H') ∧ Els (up w0.heap.size H') eI 1 c0r r
theorem w_slices_Compact_int_int {H0 Ha : GH} {w0 wa : World} {L : List MO} {v0 : Value} {n0 : Nat} {k0 : List Value} (S0 : St H0 w0 Ha wa (.row 3 1 v0 n0 k0 :: L)) (a0 : List Int) (p0 : Els (up w0.heap.size Ha) eI 1 k0 a0) {r : (List Int)} (hp : (PF.slices_Compact_int_int a0) = some r) :
    Calls Tryz.prog 114 #[v0] wa (p_slices_Compact_int_int H0 w0 Ha L r) := by
  cases hp
  refine (St.compactF (l := .row 3 1 v0 n0 k0 :: L) (i := 0) S0 rfl p0 (enc := Value.int .i64) (fun _ => rfl) (fun _ _ _ h => by cases eI_open h; rfl) (fun _ _ => rfl) 0 (fun w => compact_none Tryz.comp114 w) (fun blk off cap d w hH hs hc => AnyE.slices_Compact Tryz.comp114 (Value.int .i64) (fun _ => rfl) (EqlAt.intD _ _ _) (NeqAt.intD _ _ _) 0 (fun w => Tryz.zeroValue3 w) blk off cap d w hH hs hc)).mono ?_
  rintro e w' ⟨v', n', c', rfl, h1, h2⟩
  exact ⟨_, _, _, _, rfl, ⟨h1, Inc.rfl _⟩, h2⟩

@[reducible] def p_impl_clause (Ha : GH) (wa : World) (r : ((List Int) × Bool)) : Ending → World → Prop :=
  fun e w' => ∃ H' : GH, ∃ v0 : Value, ∃ n0 : Nat, ∃ c0 : List Value, e = .returned (Value.tuple #[v0, Value.bool r.2]) ∧ St Ha wa H' w' [.row 3 1 v0 n0 c0] ∧ Els (up wa.heap.size H') eI 1 c0 r.1
theorem w_impl_clause {Ha : GH} {wa : World} (hs : Sl Ha wa) (v0 : Value) (a0 : List Int) (p0 : RSl Ha eI 1 v0 a0) {r : ((List Int) × Bool)} (hp : (PF.impl_clause a0) = some r) :
    Calls Tryz.prog 194 #[v0] wa (p_impl_clause Ha wa r) := by
  unfold PF.impl_clause at hp
  have S0 := St.init hs
  refine calls_go (N := 30) (args := [v0]) Tryz.func194 rfl rfl rfl ?_
  refine FW.seq ?_
  refine FW.region ?_
  refine FL.val rfl rfl rfl (E.assign (v := Value.slice none 0 0) rfl) ?_
  refine FL.val rfl rfl rfl (E.assign (v := Value.bool false) rfl) ?_
  refine FL.nil ?_
  refine FW.seq ?_
  refine FW.region ?_
  refine FL.val rfl rfl rfl (E.move (v := v0) rfl) ?_
  obtain ⟨r21, hr22, hp⟩ := bnd hp
  refine FL.call rfl rfl rfl (E.call Tryz.call87 (A1 rfl)) (w_slices_Clone_int_int S0.sl v0 a0 p0 hr22) ?_
  rintro e w24 ⟨H23, v27, n28, cs29, rfl, r26, els30⟩
  refine ⟨_, rfl, ?_⟩
  have els30 := els30.mono (up_le S0.size)
  have S25 := S0.join (l' := [.row 3 1 v27 n28 cs29]) r26 rfl
  refine FL.val rfl rfl rfl (E.assign (v := v27) rfl) ?_
  refine FL.nil ?_
  refine FW.seq ?_
  refine FW.region ?_
  refine FL.val rfl rfl rfl (E.move (v := v27) rfl) ?_
  obtain ⟨r31, hr32, hp⟩ := bnd hp
  refine FL.call rfl rfl rfl (E.call Tryz.call222 (A2 rfl rfl)) (w_slices_SortFunc_int_int (L := []) S25 r21 els30 (Value.func (.func 142) #[] #[]) (fun x0 x1 => PF.impl_compareLiterals x0 x1) (fun H2 w2 hi2 hs2 x0 x1 r hr => ⟨142, #[], rfl, Tryz.call142, w_impl_compareLiterals hs2 x0 x1  hr⟩) hr32) ?_
  rintro e w34 ⟨H33, cs37, rfl, ⟨S35, i36⟩, els38⟩
  refine ⟨_, rfl, ?_⟩
  have S35 : St Ha wa H33 w34 [.row 3 1 v27 n28 cs37] := S35
  refine FL.nil ?_
  refine FW.seq ?_
  refine FW.region ?_
  refine FL.val rfl rfl rfl (E.move (v := v27) rfl) ?_
  obtain ⟨r39, hr40, hp⟩ := bnd hp
  refine FL.call rfl rfl rfl (E.call Tryz.call114 (A1 rfl)) (w_slices_Compact_int_int (L := []) S35 r31 els38 hr40) ?_
  rintro e w42 ⟨H41, v45, n46, cs47, rfl, ⟨S43, i44⟩, els48⟩
  refine ⟨_, rfl, ?_⟩
  have S43 : St Ha wa H41 w42 [.row 3 1 v45 n46 cs47] := S43
  refine FL.val rfl rfl rfl (E.assign (v := v45) rfl) ?_
  refine FL.nil ?_
  refine FW.seq ?_
  refine FW.seq ?_
  refine FW.region ?_
  refine FL.val rfl rfl rfl (E.assign (v := Value.int .i64 1) rfl) ?_
  refine FL.nil ?_
  obtain ⟨q49, hq, hp⟩ := bndR hp
  refine FW.block ?_
  refine FW.mono (FW.iter (S := Int) (X := ((List Int) × Bool)) (fun (s49 : Int) f w => ∃ H : GH, St Ha wa H w [.row 3 1 v45 n46 cs47] ∧ Inc H41 H ∧ f 4 = v45 ∧ f 5 = Value.int .i64 s49) (fun q e f w => match q with | .go s49 => e = Exit.exit 0 ∧ (∃ H : GH, St Ha wa H w [.row 3 1 v45 n46 cs47] ∧ Inc H41 H ∧ f 4 = v45) | .rt x => ((e = Exit.ret) ∧ (fun e f w => (e = Exit.normal ∨ e = Exit.ret) ∧ ∀ a, Fr (δ := []) 30 a f → ∃ v, (results Tryz.f194 a.tmps).run Tryz.prog w = .ok v w ∧ (p_impl_clause Ha wa x) (.returned v) w) e f w)) hq ⟨_, S43, (Inc.rfl _), rfl, rfl⟩ ?_) ?_
  ·
    clear hp hq
    rintro s49 f83 w82 ⟨H79, S80, i81, k84, k85⟩ o108 hp
    refine FW.seq ?_
    refine FW.seq ?_
    refine FW.region ?_
    refine FL.val rfl rfl rfl (E.move k85) ?_
    refine FL.val rfl rfl rfl (E.move k84) ?_
    refine FL.val rfl rfl rfl (E.lenO te61 rfl S80 (i := 0) rfl els48 (by decide)) ?_
    refine FL.val rfl rfl rfl (E.lss rfl rfl) ?_
    refine FL.nil ?_
    rcases ifB hp with ⟨c86, hp⟩ | ⟨c86, hp⟩
    ·
      refine FW.condT rfl c86 ?_
      refine FW.skip ?_
      refine FW.seq ?_
      refine FW.block ?_
      refine FW.seq ?_
      refine FW.draw (fun w' => Run w82.heap.size H79 w82 H79 w') (by kernel_rfl) (by kernel_rfl) (run_drew S80.sl) ?_
      refine FD.val rfl rfl rfl (fun w' hw' => (E.move k84)) ?_
      refine FD.val rfl rfl rfl (fun w' hw' => (E.move k85)) ?_
      obtain ⟨x94, hx95, hp⟩ := bnd hp
      obtain ⟨p88, cs89, pt90, l91, at92, rel93⟩ := S80.row_at (i := 0) rfl els48 (by decide) hx95
      obtain rfl := eI_open rel93
      refine FD.val rfl rfl rfl (fun w' hw' => (E.indexAddr te61 rfl rfl pt90)) ?_
      refine FD.val rfl rfl rfl (fun w' hw' => (E.load rfl (run_load0 Tryz.isAgg3 (at92.cls hw') rfl))) ?_
      refine FD.val rfl rfl rfl (fun w' hw' => (E.move k84)) ?_
      refine FD.val rfl rfl rfl (fun w' hw' => (E.move k85)) ?_
      refine FD.val rfl rfl rfl (fun w' hw' => (E.sub rfl rfl)) ?_
      obtain ⟨x102, hx103, hp⟩ := bnd hp
      obtain ⟨p96, cs97, pt98, l99, at100, rel101⟩ := S80.row_at (i := 0) rfl els48 (by decide) hx103
      obtain rfl := eI_open rel101
      refine FD.val rfl rfl rfl (fun w' hw' => (E.indexAddr te61 rfl rfl pt98)) ?_
      refine FD.val rfl rfl rfl (fun w' hw' => (E.load rfl (run_load0 Tryz.isAgg3 (at100.cls hw') rfl))) ?_
      refine FD.val rfl rfl rfl (fun w' hw' => (E.neg rfl)) ?_
      refine FD.val rfl rfl rfl (fun w' hw' => (E.eql rfl rfl)) ?_
      refine FD.nil ?_
      intro w104 r106
      have S105 := S80.call r106
      rcases ifB hp with ⟨c107, hp⟩ | ⟨c107, hp⟩
      ·
        refine FW.condT rfl c107 ?_
        refine FW.seq ?_
        refine FW.region ?_
        refine FL.val rfl rfl rfl (E.assign (v := Value.slice none 0 0) rfl) ?_
        refine FL.val rfl rfl rfl (E.assign (v := Value.bool false) rfl) ?_
        refine FL.nil ?_
        refine FW.ret ?_
        obtain rfl := Option.some.inj hp
        exact ⟨nofun, rfl, ⟨.inr rfl, res2 rfl rfl rfl ⟨_, _, _, _, rfl, ((S105.nil 3 1).sel [0] (by decide) rfl), Els.nil⟩⟩⟩
      ·
        refine FW.condF rfl c107 ?_
        refine FW.skip ?_
        refine FW.region ?_
        refine FL.val rfl rfl rfl (E.move k85) ?_
        refine FL.val rfl rfl rfl (E.add rfl rfl) ?_
        refine FL.val rfl rfl rfl (E.assign (v := Value.int .i64 (wr (s49 + 1))) rfl) ?_
        refine FL.nil ?_
        obtain rfl := Option.some.inj hp
        exact ⟨rfl, ⟨_, S105, i81, k84, rfl⟩⟩
    ·
      refine FW.condF rfl c86 ?_
      refine FW.exit ?_
      obtain rfl := Option.some.inj hp
      exact ⟨nofun, rfl, ⟨_, S80, i81, k84⟩⟩
  ·
    clear hq
    intro e f113 w112 hD
    rcases q49 with s49 | x49
    ·
      obtain ⟨rfl, hD⟩ := hD
      obtain ⟨H109, S110, i111, k114⟩ := hD
      replace hp := el_go hp
      refine FW.seq ?_
      refine FW.region ?_
      refine FL.val rfl rfl rfl (E.move k114) ?_
      refine FL.val rfl rfl rfl (E.assign (v := v45) rfl) ?_
      refine FL.val rfl rfl rfl (E.assign (v := Value.bool true) rfl) ?_
      refine FL.nil ?_
      refine FW.ret ?_
      obtain rfl := Option.some.inj hp
      exact ⟨.inr rfl, res2 rfl rfl rfl ⟨_, _, _, _, rfl, S110, (els48.mono (up_mono i111))⟩⟩
    ·
      obtain ⟨he, hL⟩ := hD
      replace hp := el_rt hp
      obtain rfl := Option.some.inj hp
      subst he
      exact hL

@[reducible] def p_impl_resolve (Ha : GH) (wa : World) (r : ((List Int) × Bool)) : Ending → World → Prop :=
  fun e w' => ∃ H' : GH, ∃ v0 : Value, ∃ n0 : Nat, ∃ c0 : List Value, e = .returned (Value.tuple #[v0, Value.bool r.2]) ∧ St Ha wa H' w' [.row 3 1 v0 n0 c0] ∧ Els (up wa.heap.size H') eI 1 c0 r.1
theorem w_impl_resolve {Ha : GH} {wa : World} (hs : Sl Ha wa) (v0 : Value) (a0 : List Int) (p0 : RSl Ha eI 1 v0 a0) (v1 : Value) (a1 : List Int) (p1 : RSl Ha eI 1 v1 a1) (a2 : Int) {r : ((List Int) × Bool)} (hp : (PF.impl_resolve a0 a1 a2) = some r) :
    Calls Tryz.prog 148 #[v0, v1, Value.int .i64 a2] wa (p_impl_resolve Ha wa r) := by
  unfold PF.impl_resolve at hp
  have S0 := St.init hs
  refine calls_go (N := 30) (args := [v0, v1, Value.int .i64 a2]) Tryz.func148 rfl rfl rfl ?_
  refine FW.seq ?_
  refine FW.region ?_
  refine FL.val rfl rfl rfl (E.assign (v := Value.slice none 0 0) rfl) ?_
  refine FL.val rfl rfl rfl (E.assign (v := Value.bool false) rfl) ?_
  refine FL.nil ?_
  refine FW.seq ?_
  refine FW.seq ?_
  refine FW.region ?_
  refine FL.val rfl rfl rfl (E.move (v := v0) rfl) ?_
  refine FL.val rfl rfl rfl (E.move (v := Value.int .i64 a2) rfl) ?_
  obtain ⟨r21, hr22, hp⟩ := bnd hp
  refine FL.call rfl rfl rfl (E.call Tryz.call171 (A2 rfl rfl)) (w_slices_Contains_int_int S0.sl v0 a0 p0 a2 hr22) ?_
  rintro e w23 ⟨rfl, r24⟩
  refine ⟨_, rfl, ?_⟩
  have S25 := S0.call r24
  refine FL.val rfl rfl rfl (E.not rfl) ?_
  refine FL.val rfl rfl rfl (E.move (v := Value.bool (!r21)) rfl) ?_
  obtain ⟨t31, hqt31, hp⟩ := bnd hp
  refine FL.cut 6 (fun f w => ∃ H : GH, St Ha wa H w [] ∧ Inc Ha H ∧ f 0 = v0 ∧ f 1 = v1 ∧ f 2 = Value.int .i64 a2 ∧ f 18 = Value.bool t31) ?_ ?_
  ·
    clear hp; have hp := hqt31; clear hqt31
    rcases ifB hp with ⟨c37, hp⟩ | ⟨c37, hp⟩
    ·
      refine FL.skip (wF_no rfl rfl rfl c37) rfl ?_
      refine FL.skip (wF_no rfl rfl rfl c37) rfl ?_
      refine FL.skip (wF_no rfl rfl rfl c37) rfl ?_
      refine FL.skip (wF_no rfl rfl rfl c37) rfl ?_
      refine FL.skip (wF_no rfl rfl rfl c37) rfl ?_
      obtain rfl := Option.some.inj hp
      refine FL.val rfl rfl rfl (E.pickT rfl c37 rfl) ?_
      exact FL.nil ⟨rfl, _, S25, (Inc.rfl _), rfl, rfl, rfl, rfl⟩
    ·
      refine FL.val (wF_yes rfl rfl rfl c37) rfl rfl (E.move (v := v1) rfl) ?_
      refine FL.val (wF_yes rfl rfl rfl c37) rfl rfl (E.move (v := Value.int .i64 a2) rfl) ?_
      refine FL.val (wF_yes rfl rfl rfl c37) rfl rfl (E.neg rfl) ?_
      obtain ⟨r38, hr39, hp⟩ := bnd hp
      refine FL.call (wF_yes rfl rfl rfl c37) rfl rfl (E.call Tryz.call171 (A2 rfl rfl)) (w_slices_Contains_int_int S25.sl v1 a1 p1 (wr (-a2)) hr39) ?_
      rintro e w40 ⟨rfl, r41⟩
      refine ⟨_, rfl, ?_⟩
      have S42 := S25.call r41
      refine FL.val (wF_yes rfl rfl rfl c37) rfl rfl (E.not rfl) ?_
      obtain rfl := Option.some.inj hp
      refine FL.val rfl rfl rfl (E.pickF rfl c37 rfl) ?_
      exact FL.nil ⟨rfl, _, S42, (Inc.rfl _), rfl, rfl, rfl, rfl⟩
  rintro f36 w35 ⟨H32, S33, i34, k43, k44, k45, k46⟩
  refine FL.nil ?_
  rcases ifB hp with ⟨c47, hp⟩ | ⟨c47, hp⟩
  ·
    refine FW.condT k46 c47 ?_
    refine FW.seq ?_
    refine FW.region ?_
    refine FL.val rfl rfl rfl (E.assign (v := Value.slice none 0 0) rfl) ?_
    refine FL.val rfl rfl rfl (E.assign (v := Value.bool false) rfl) ?_
    refine FL.nil ?_
    refine FW.ret ?_
    obtain rfl := Option.some.inj hp
    exact ⟨.inr rfl, res2 rfl rfl rfl ⟨_, _, _, _, rfl, (S33.nil 3 1), Els.nil⟩⟩
  ·
    refine FW.condF k46 c47 ?_
    refine FW.skip ?_
    refine FW.seq ?_
    refine FW.region ?_
    refine FL.val rfl rfl rfl (E.move k43) ?_
    refine FL.val rfl rfl rfl (E.move k45) ?_
    obtain ⟨r48, hr49, hp⟩ := bnd hp
    refine FL.call rfl rfl rfl (E.call Tryz.call195 (A2 rfl rfl)) (w_impl_withoutVar S33.sl v0 a0 (p0.mono i34) a2 hr49) ?_
    rintro e w51 ⟨H50, v54, n55, cs56, rfl, r53, els57⟩
    refine ⟨_, rfl, ?_⟩
    have els57 := els57.mono (up_le S33.size)
    have S52 := S33.join (l' := [.row 3 1 v54 n55 cs56]) r53 rfl
    refine FL.val rfl rfl rfl (E.move k44) ?_
    refine FL.val rfl rfl rfl (E.move k45) ?_
    obtain ⟨r58, hr59, hp⟩ := bnd hp
    refine FL.call rfl rfl rfl (E.call Tryz.call195 (A2 rfl rfl)) (w_impl_withoutVar S52.sl v1 a1 (p1.mono (i34.tr r53.run.inc)) a2 hr59) ?_
    rintro e w61 ⟨H60, v64, n65, cs66, rfl, r63, els67⟩
    refine ⟨_, rfl, ?_⟩
    have els67 := els67.mono (up_le S52.size)
    have S62 := S52.join (l' := [.row 3 1 v64 n65 cs66, .row 3 1 v54 n55 cs56]) r63 rfl
    obtain ⟨H68, S69, i70, h71, nv72⟩ := S62.sealRowU (i := 1) (l' := [.row 3 1 v64 n65 cs66]) rfl (els57.mono (up_mono r63.run.inc)) (by decide) rfl
    obtain ⟨H73, S74, i75, h76, nv77⟩ := S69.sealRowU (i := 0) (l' := []) rfl (els67.mono (up_mono i70)) (by decide) rfl
    obtain ⟨v78, w79, run80, S81⟩ := S74.buildSlice (P := Tryz.prog) te22 [v54, v64] (parts := #[(0, v54), (1, v64)]) (cells := [v54, v64]) rfl (szs_cons (cells_size h71.cells) (szs_cons (cells_size h76.cells) szs_nil)) (fc_cons h71.cells (fc_cons h76.cells fc_nil)) (ones_cons h71.one (ones_cons h76.one ones_nil)) (Nat.le_of_ble_eq_true rfl)
    have els82 : Els (up wa.heap.size H73) (eL eI 1) 1 [v54, v64] [r48, r58] := (Els.snoc (H := (up wa.heap.size H73)) (E := (eL eI 1)) (k := 1) (c := [v64]) (x := r58) (Els.snoc (H := (up wa.heap.size H73)) (E := (eL eI 1)) (k := 1) (c := [v54]) (x := r48) Els.nil rfl ⟨_, rfl, (h71.mono (up_mono i75))⟩) rfl ⟨_, rfl, h76⟩)
    refine FL.val rfl rfl rfl (E.buildSlice (B2 rfl rfl) run80) ?_
    obtain ⟨H83, S84, i85, h86, nv87⟩ := S81.sealRowU (i := 0) (l' := []) rfl els82 (by decide) rfl
    obtain ⟨r88, hr89, hp⟩ := bnd hp
    refine FL.call rfl rfl rfl (E.call Tryz.call106 (A1 rfl)) (w_slices_Concat_int_int S84.sl v78 [r48, r58] (h86.mono upI) hr89) ?_
    rintro e w91 ⟨H90, v96, n97, cs98, rfl, r93, els99⟩
    refine ⟨_, rfl, ?_⟩
    obtain ⟨H94, r93, hU95⟩ := St.lendX i85 S81.sl r93
    have els99 := els99.mono (hU95.tr (up_le S81.size))
    have S92 := S81.join (l' := [.row 3 1 v96 n97 cs98, .row 61 1 v78 2 [v54, v64]]) r93 rfl
    obtain ⟨H100, S101, i102, h103, nv104⟩ := S92.sealRowU (i := 0) (l' := [.row 61 1 v78 2 [v54, v64]]) rfl els99 (by decide) rfl
    obtain ⟨r105, hr106, hp⟩ := bnd hp
    refine FL.call rfl rfl rfl (E.call Tryz.call194 (A1 rfl)) (w_impl_clause S101.sl v96 r88 (h103.mono upI) hr106) ?_
    rintro e w108 ⟨H107, v113, n114, cs115, rfl, r110, els116⟩
    refine ⟨_, rfl, ?_⟩
    obtain ⟨H111, r110, hU112⟩ := St.lendX i102 S92.sl r110
    have els116 := els116.mono (hU112.tr (up_le S92.size))
    have S109 := S92.join (l' := [.row 3 1 v113 n114 cs115, .row 3 1 v96 n97 cs98, .row 61 1 v78 2 [v54, v64]]) r110 rfl
    refine FL.val rfl rfl rfl (E.extract (i := 0) rfl rfl) ?_
    refine FL.val rfl rfl rfl (E.extract (i := 1) rfl rfl) ?_
    refine FL.val rfl rfl rfl (E.assign (v := v113) rfl) ?_
    refine FL.val rfl rfl rfl (E.assign (v := Value.bool r105.2) rfl) ?_
    refine FL.nil ?_
    refine FW.ret ?_
    obtain rfl := Option.some.inj hp
    exact ⟨.inr rfl, res2 rfl rfl rfl ⟨_, _, _, _, rfl, (S109.sel [0] (by decide) rfl), els116⟩⟩

theorem w_impl_correct {Ha : GH} {wa : World} (hs : Sl Ha wa) (a0 : Cnf) (v0_1 : Value) (p0_1 : RSl Ha (eL eI 1) 1 v0_1 a0.clauses) (v1 : Value) (a1 : List ResStep) (p1 : RSl Ha eResStep 4 v1 a1) (a2 : Int) {r : Bool} (hp : (PF.impl_correct a0 a1 a2) = some r) :
    Calls Tryz.prog 198 #[Value.agg #[Value.int .i64 a0.vars, v0_1], v1, Value.int .i64 a2] wa (Sc Ha wa (Value.bool r)) := by
  unfold PF.impl_correct at hp
  have S0 := St.init hs
  refine calls_go (N := 105) (args := [Value.agg #[Value.int .i64 a0.vars, v0_1], v1, Value.int .i64 a2]) Tryz.func198 rfl rfl rfl ?_
  refine FW.seq ?_
  refine FW.region ?_
  obtain ⟨b21, w22, run23, S24⟩ := S0.box (P := Tryz.prog) 30 [Value.int .i64 a0.vars, v0_1] (v := Value.agg #[Value.int .i64 a0.vars, v0_1]) rfl (ones_cons rfl (ones_cons p0_1.one ones_nil))
  refine FL.val rfl rfl rfl (E.box rfl run23) ?_
  obtain ⟨H25, S26, i27, at28⟩ := S24.sealBox (i := 0) (l' := []) rfl rfl
  refine FL.val rfl rfl rfl (E.assign (v := Value.bool false) rfl) ?_
  refine FL.nil ?_
  refine FW.seq ?_
  refine FW.region ?_
  refine FL.val rfl rfl rfl (E.move (v := v1) rfl) ?_
  refine FL.val rfl rfl rfl (E.move (v := Value.int .i64 a2) rfl) ?_
  obtain ⟨x35, hx36, hp⟩ := bnd hp
  obtain ⟨p29, cs30, pt31, l32, at33, rel34⟩ := p1.at hx36
  obtain ⟨v37, rfl, h38⟩ := eResStep_open rel34
  refine FL.val rfl rfl rfl (E.indexAddr te41 rfl rfl pt31) ?_
  refine FL.val rfl rfl rfl (E.load rfl (run_loadA Tryz.isAgg103 Tryz.sizeOf103 ((at33.mono i27).now S26.sl) rfl)) ?_
  obtain ⟨b39, w40, run41, S42⟩ := S26.alloc (P := Tryz.prog) 103 [Value.slice none 0 0, Value.int .i64 0, Value.int .i64 0, Value.int .i64 0] Tryz.zeroValue103 rfl (ones_cons rfl (ones_cons rfl (ones_cons rfl (ones_cons rfl ones_nil))))
  refine FL.val rfl rfl rfl (E.alloc run41) ?_
  obtain ⟨w43, run44, S45⟩ := S42.store0 (P := Tryz.prog) (t := 103) (i := 0) (cs' := [v37, Value.int .i64 x35.left, Value.int .i64 x35.right, Value.int .i64 x35.pivot]) (l' := [.box b39 103 [v37, Value.int .i64 x35.left, Value.int .i64 x35.right, Value.int .i64 x35.pivot]]) (v := Value.agg #[v37, Value.int .i64 x35.left, Value.int .i64 x35.right, Value.int .i64 x35.pivot]) (c := [v37, Value.int .i64 x35.left, Value.int .i64 x35.right, Value.int .i64 x35.pivot]) rfl Tryz.sizeOf103 rfl rfl (ones_cons h38.one (ones_cons rfl (ones_cons rfl (ones_cons rfl ones_nil)))) (Nat.le_of_ble_eq_true rfl) rfl rfl
  refine FL.act rfl rfl (E.store rfl rfl run44) ?_
  obtain ⟨H46, S47, i48, at49⟩ := S45.sealBox (i := 0) (l' := []) rfl rfl
  refine FL.nil ?_
  refine FW.seq ?_
  refine FW.seq ?_
  refine FW.region ?_
  refine FL.val rfl rfl rfl (E.fieldAddr tf30_0 rfl) ?_
  refine FL.val rfl rfl rfl (E.load rfl (run_load1 Tryz.isAgg3 ((at28.mono i48).now S47.sl) rfl)) ?_
  refine FL.val rfl rfl rfl (E.fieldAddr tf103_0 rfl) ?_
  refine FL.val rfl rfl rfl (E.load rfl (run_load1 Tryz.isAgg61 (at49.now S47.sl) rfl)) ?_
  obtain ⟨r50, hr51, hp⟩ := bnd hp
  refine FL.call rfl rfl rfl (E.call Tryz.call176 (A2 rfl rfl)) (w_impl_IsClause S47.sl a0.vars v37 x35.clause (h38.mono (i27.tr i48)) hr51) ?_
  rintro e w52 ⟨rfl, r53⟩
  refine ⟨_, rfl, ?_⟩
  have S54 := S47.call r53
  refine FL.val rfl rfl rfl (E.not rfl) ?_
  refine FL.nil ?_
  rcases ifB hp with ⟨c55, hp⟩ | ⟨c55, hp⟩
  ·
    refine FW.condT rfl c55 ?_
    refine FW.seq ?_
    refine FW.region ?_
    refine FL.val rfl rfl rfl (E.assign (v := Value.bool false) rfl) ?_
    refine FL.nil ?_
    refine FW.ret ?_
    obtain rfl := Option.some.inj hp
    exact ⟨.inr rfl, res1 rfl rfl ⟨rfl, S54.back⟩⟩
  ·
    refine FW.condF rfl c55 ?_
    refine FW.skip ?_
    refine FW.seq ?_
    refine FW.seq ?_
    refine FW.region ?_
    refine FL.val rfl rfl rfl (E.fieldAddr tf103_1 rfl) ?_
    refine FL.val rfl rfl rfl (E.load rfl (run_load1 Tryz.isAgg3 (at49.now S54.sl) rfl)) ?_
    refine FL.val rfl rfl rfl (E.eql rfl rfl) ?_
    refine FL.nil ?_
    rcases ifB hp with ⟨c56, hp⟩ | ⟨c56, hp⟩
    ·
      refine FW.condT rfl c56 ?_
      refine FW.seq ?_
      refine FW.draw (fun w' => Run w52.heap.size H46 w52 H46 w') (by kernel_rfl) (by kernel_rfl) (run_drew S54.sl) ?_
      refine FD.val rfl rfl rfl (fun w' hw' => (E.fieldAddr tf103_3 rfl)) ?_
      refine FD.val rfl rfl rfl (fun w' hw' => (E.load rfl (run_load1 Tryz.isAgg3 (at49.now (S54.call hw').sl) rfl))) ?_
      refine FD.val rfl rfl rfl (fun w' hw' => (E.eql rfl rfl)) ?_
      refine FD.val rfl rfl rfl (fun w' hw' => (E.move (v := Value.bool (x35.pivot == 0)) rfl)) ?_
      refine FD.cut 8 (fun f => f 3 = Value.pointer (some ⟨b21, 0, none⟩) ∧ f 7 = Value.pointer (some ⟨b39, 0, none⟩) ∧ f 36 = Value.bool (bif (x35.pivot == 0) then (PF.impl_within x35.right 0 (wr ((len a0.clauses) - 1))) else false)) ?_ ?_
      ·
        rcases bcase (x35.pivot == 0) with c64 | c64
        ·
          refine FD.val (wF_yes rfl rfl rfl c64) rfl rfl (fun w' hw' => (E.fieldAddr tf103_2 rfl)) ?_
          refine FD.val (wF_yes rfl rfl rfl c64) rfl rfl (fun w' hw' => (E.load rfl (run_load1 Tryz.isAgg3 (at49.now (S54.call hw').sl) rfl))) ?_
          refine FD.val (wF_yes rfl rfl rfl c64) rfl rfl (fun w' hw' => (E.fieldAddr tf30_1 rfl)) ?_
          refine FD.val (wF_yes rfl rfl rfl c64) rfl rfl (fun w' hw' => (E.load rfl (run_load1 Tryz.isAgg22 ((at28.mono i48).now (S54.call hw').sl) rfl))) ?_
          refine FD.val (wF_yes rfl rfl rfl c64) rfl rfl (fun w' hw' => (E.lenP te22 rfl p0_1)) ?_
          refine FD.val (wF_yes rfl rfl rfl c64) rfl rfl (fun w' hw' => (E.sub rfl rfl)) ?_
          refine FD.call (wF_yes rfl rfl rfl c64) rfl rfl (fun w' hw' => (E.call Tryz.call111 (A3 rfl rfl rfl))) (fun w' hw' => Calls.cls hw' (w_impl_within (S54.call hw').sl x35.right 0 (wr ((len a0.clauses) - 1)))) ?_
          refine FD.val rfl rfl rfl (fun w' hw' => (E.pickT rfl c64 rfl)) ?_
          exact FD.nil ⟨rfl, rfl, (congrArg Value.bool (bifT c64).symm)⟩
        ·
          refine FD.skip (wF_no rfl rfl rfl c64) rfl ?_
          refine FD.skip (wF_no rfl rfl rfl c64) rfl ?_
          refine FD.skip (wF_no rfl rfl rfl c64) rfl ?_
          refine FD.skip (wF_no rfl rfl rfl c64) rfl ?_
          refine FD.skip (wF_no rfl rfl rfl c64) rfl ?_
          refine FD.skip (wF_no rfl rfl rfl c64) rfl ?_
          refine FD.skip (wF_no rfl rfl rfl c64) rfl ?_
          refine FD.val rfl rfl rfl (fun w' hw' => (E.pickF rfl c64 rfl)) ?_
          exact FD.nil ⟨rfl, rfl, (congrArg Value.bool (bifF c64).symm)⟩
      rintro f63 ⟨k65, k66, k67⟩
      refine FD.val rfl rfl rfl (fun w' hw' => (E.move k67)) ?_
      obtain ⟨t80, hqt80, hp⟩ := bnd hp
      refine FD.cut 10 (fun f => f 47 = Value.bool t80) ?_ ?_
      ·
        clear hp; have hp := hqt80; clear hqt80
        rcases ifB hp with ⟨c86, hp⟩ | ⟨c86, hp⟩
        ·
          refine FD.val (wF_yes rfl rfl rfl c86) rfl rfl (fun w' hw' => (E.fieldAddr tf30_1 k65)) ?_
          refine FD.val (wF_yes rfl rfl rfl c86) rfl rfl (fun w' hw' => (E.load rfl (run_load1 Tryz.isAgg22 ((at28.mono i48).now (S54.call hw').sl) rfl))) ?_
          refine FD.val (wF_yes rfl rfl rfl c86) rfl rfl (fun w' hw' => (E.fieldAddr tf103_2 k66)) ?_
          refine FD.val (wF_yes rfl rfl rfl c86) rfl rfl (fun w' hw' => (E.load rfl (run_load1 Tryz.isAgg3 (at49.now (S54.call hw').sl) rfl))) ?_
          obtain ⟨x93, hx94, hp⟩ := bnd hp
          obtain ⟨p87, cs88, pt89, l90, at91, rel92⟩ := p0_1.at hx94
          obtain ⟨v95, rfl, h96⟩ := eL_open rel92
          refine FD.val (wF_yes rfl rfl rfl c86) rfl rfl (fun w' hw' => (E.indexAddr te22 rfl rfl pt89)) ?_
          refine FD.val (wF_yes rfl rfl rfl c86) rfl rfl (fun w' hw' => (E.load rfl (run_load0 Tryz.isAgg61 ((at91.mono (i27.tr i48)).now (S54.call hw').sl) rfl))) ?_
          refine FD.val (wF_yes rfl rfl rfl c86) rfl rfl (fun w' hw' => (E.fieldAddr tf103_0 k66)) ?_
          refine FD.val (wF_yes rfl rfl rfl c86) rfl rfl (fun w' hw' => (E.load rfl (run_load1 Tryz.isAgg61 (at49.now (S54.call hw').sl) rfl))) ?_
          obtain ⟨r97, hr98, hp⟩ := bnd hp
          refine FD.call (wF_yes rfl rfl rfl c86) rfl rfl (fun w' hw' => (E.call Tryz.call80 (A2 rfl rfl))) (fun w' hw' => Calls.cls hw' (w_slices_Equal_int_int (S54.call hw').sl v95 x93 (h96.mono (i27.tr i48)) v37 x35.clause (h38.mono (i27.tr i48)) hr98)) ?_
          obtain rfl := Option.some.inj hp
          refine FD.val rfl rfl rfl (fun w' hw' => (E.pickT rfl c86 rfl)) ?_
          exact FD.nil rfl
        ·
          refine FD.skip (wF_no rfl rfl rfl c86) rfl ?_
          refine FD.skip (wF_no rfl rfl rfl c86) rfl ?_
          refine FD.skip (wF_no rfl rfl rfl c86) rfl ?_
          refine FD.skip (wF_no rfl rfl rfl c86) rfl ?_
          refine FD.skip (wF_no rfl rfl rfl c86) rfl ?_
          refine FD.skip (wF_no rfl rfl rfl c86) rfl ?_
          refine FD.skip (wF_no rfl rfl rfl c86) rfl ?_
          refine FD.skip (wF_no rfl rfl rfl c86) rfl ?_
          refine FD.skip (wF_no rfl rfl rfl c86) rfl ?_
          obtain rfl := Option.some.inj hp
          refine FD.val rfl rfl rfl (fun w' hw' => (E.pickF rfl c86 rfl)) ?_
          exact FD.nil rfl
      intro f85 k99
      refine FD.val rfl rfl rfl (fun w' hw' => (E.assign k99)) ?_
      refine FD.nil ?_
      intro w100 r102
      have S101 := S54.call r102
      refine FW.ret ?_
      obtain rfl := Option.some.inj hp
      exact ⟨.inr rfl, res1 rfl rfl ⟨rfl, S101.back⟩⟩
    ·
      refine FW.condF rfl c56 ?_
      refine FW.skip ?_
      refine FW.seq ?_
      refine FW.region ?_
      refine FL.val rfl rfl rfl (E.load rfl (run_loadA Tryz.isAgg30 Tryz.sizeOf30 ((at28.mono i48).now S54.sl) rfl)) ?_
      refine FL.val rfl rfl rfl (E.move (v := v1) rfl) ?_
      refine FL.val rfl rfl rfl (E.move (v := Value.int .i64 a2) rfl) ?_
      refine FL.val rfl rfl rfl (E.fieldAddr tf103_1 rfl) ?_
      refine FL.val rfl rfl rfl (E.load rfl (run_load1 Tryz.isAgg3 (at49.now S54.sl) rfl)) ?_
      obtain ⟨r103, hr104, hp⟩ := bnd hp
      refine FL.call rfl rfl rfl (E.call Tryz.call226 (A4 rfl rfl rfl rfl)) (w_impl_earlier S54.sl a0 v0_1 (p0_1.mono (i27.tr i48)) v1 a1 (p1.mono (i27.tr i48)) a2 x35.left hr104) ?_
      rintro e w106 ⟨H105, v109, rfl, r108, h110⟩
      refine ⟨_, rfl, ?_⟩
      have S107 := S54.call r108
      refine FL.val rfl rfl rfl (E.move (v := Value.tuple #[v109, Value.bool r103.2]) rfl) ?_
      refine FL.val rfl rfl rfl (E.extract (i := 0) rfl rfl) ?_
      refine FL.val rfl rfl rfl (E.extract (i := 1) rfl rfl) ?_
      refine FL.val rfl rfl rfl (E.assign (v := v109) rfl) ?_
      refine FL.val rfl rfl rfl (E.assign (v := Value.bool r103.2) rfl) ?_
      refine FL.nil ?_
      refine FW.seq ?_
      refine FW.seq ?_
      refine FW.region ?_
      refine FL.val rfl rfl rfl (E.move (v := Value.bool r103.2) rfl) ?_
      refine FL.val rfl rfl rfl (E.not rfl) ?_
      refine FL.nil ?_
      rcases ifB hp with ⟨c111, hp⟩ | ⟨c111, hp⟩
      ·
        refine FW.condT rfl c111 ?_
        refine FW.seq ?_
        refine FW.region ?_
        refine FL.val rfl rfl rfl (E.assign (v := Value.bool false) rfl) ?_
        refine FL.nil ?_
        refine FW.ret ?_
        obtain rfl := Option.some.inj hp
        exact ⟨.inr rfl, res1 rfl rfl ⟨rfl, S107.back⟩⟩
      ·
        refine FW.condF rfl c111 ?_
        refine FW.skip ?_
        refine FW.seq ?_
        refine FW.seq ?_
        refine FW.region ?_
        refine FL.val rfl rfl rfl (E.fieldAddr tf103_2 rfl) ?_
        refine FL.val rfl rfl rfl (E.load rfl (run_load1 Tryz.isAgg3 ((at49.mono r108.inc).now S107.sl) rfl)) ?_
        refine FL.val rfl rfl rfl (E.eql rfl rfl) ?_
        refine FL.nil ?_
        rcases ifB hp with ⟨c112, hp⟩ | ⟨c112, hp⟩
        ·
          refine FW.condT rfl c112 ?_
          refine FW.seq ?_
          refine FW.region ?_
          refine FL.val rfl rfl rfl (E.fieldAddr tf103_3 rfl) ?_
          refine FL.val rfl rfl rfl (E.load rfl (run_load1 Tryz.isAgg3 ((at49.mono r108.inc).now S107.sl) rfl)) ?_
          refine FL.val rfl rfl rfl (E.eql rfl rfl) ?_
          refine FL.val rfl rfl rfl (E.move (v := Value.bool (x35.pivot == 0)) rfl) ?_
          obtain ⟨t118, hqt118, hp⟩ := bnd hp
          refine FL.cut 5 (fun f w => ∃ H : GH, St Ha wa H w [] ∧ Inc H105 H ∧ f 70 = Value.bool t118) ?_ ?_
          ·
            clear hp; have hp := hqt118; clear hqt118
            rcases ifB hp with ⟨c124, hp⟩ | ⟨c124, hp⟩
            ·
              refine FL.val (wF_yes rfl rfl rfl c124) rfl rfl (E.move (v := v109) rfl) ?_
              refine FL.val (wF_yes rfl rfl rfl c124) rfl rfl (E.fieldAddr tf103_0 rfl) ?_
              refine FL.val (wF_yes rfl rfl rfl c124) rfl rfl (E.load rfl (run_load1 Tryz.isAgg61 ((at49.mono r108.inc).now S107.sl) rfl)) ?_
              obtain ⟨r125, hr126, hp⟩ := bnd hp
              refine FL.call (wF_yes rfl rfl rfl c124) rfl rfl (E.call Tryz.call227 (A2 rfl rfl)) (w_impl_part S107.sl v109 r103.1 h110 v37 x35.clause (h38.mono ((i27.tr i48).tr r108.inc)) hr126) ?_
              rintro e w127 ⟨rfl, r128⟩
              refine ⟨_, rfl, ?_⟩
              have S129 := S107.call r128
              obtain rfl := Option.some.inj hp
              refine FL.val rfl rfl rfl (E.pickT rfl c124 rfl) ?_
              exact FL.nil ⟨rfl, _, S129, (Inc.rfl _), rfl⟩
            ·
              refine FL.skip (wF_no rfl rfl rfl c124) rfl ?_
              refine FL.skip (wF_no rfl rfl rfl c124) rfl ?_
              refine FL.skip (wF_no rfl rfl rfl c124) rfl ?_
              refine FL.skip (wF_no rfl rfl rfl c124) rfl ?_
              obtain rfl := Option.some.inj hp
              refine FL.val rfl rfl rfl (E.pickF rfl c124 rfl) ?_
              exact FL.nil ⟨rfl, _, S107, (Inc.rfl _), rfl⟩
          rintro f123 w122 ⟨H119, S120, i121, k130⟩
          refine FL.val rfl rfl rfl (E.assign k130) ?_
          refine FL.nil ?_
          refine FW.ret ?_
          obtain rfl := Option.some.inj hp
          exact ⟨.inr rfl, res1 rfl rfl ⟨rfl, S120.back⟩⟩
        ·
          refine FW.condF rfl c112 ?_
          refine FW.skip ?_
          refine FW.seq ?_
          refine FW.region ?_
          refine FL.val rfl rfl rfl (E.load rfl (run_loadA Tryz.isAgg30 Tryz.sizeOf30 ((at28.mono (i48.tr r108.inc)).now S107.sl) rfl)) ?_
          refine FL.val rfl rfl rfl (E.move (v := v1) rfl) ?_
          refine FL.val rfl rfl rfl (E.move (v := Value.int .i64 a2) rfl) ?_
          refine FL.val rfl rfl rfl (E.fieldAddr tf103_2 rfl) ?_
          refine FL.val rfl rfl rfl (E.load rfl (run_load1 Tryz.isAgg3 ((at49.mono r108.inc).now S107.sl) rfl)) ?_
          obtain ⟨r131, hr132, hp⟩ := bnd hp
          refine FL.call rfl rfl rfl (E.call Tryz.call226 (A4 rfl rfl rfl rfl)) (w_impl_earlier S107.sl a0 v0_1 (p0_1.mono ((i27.tr i48).tr r108.inc)) v1 a1 (p1.mono ((i27.tr i48).tr r108.inc)) a2 x35.right hr132) ?_
          rintro e w134 ⟨H133, v137, rfl, r136, h138⟩
          refine ⟨_, rfl, ?_⟩
          have S135 := S107.call r136
          refine FL.val rfl rfl rfl (E.move (v := Value.tuple #[v137, Value.bool r131.2]) rfl) ?_
          refine FL.val rfl rfl rfl (E.extract (i := 0) rfl rfl) ?_
          refine FL.val rfl rfl rfl (E.extract (i := 1) rfl rfl) ?_
          refine FL.val rfl rfl rfl (E.assign (v := v137) rfl) ?_
          refine FL.val rfl rfl rfl (E.assign (v := Value.bool r131.2) rfl) ?_
          refine FL.nil ?_
          refine FW.seq ?_
          refine FW.seq ?_
          refine FW.region ?_
          refine FL.val rfl rfl rfl (E.move (v := Value.bool r131.2) rfl) ?_
          refine FL.val rfl rfl rfl (E.not rfl) ?_
          refine FL.val rfl rfl rfl (E.move (v := Value.bool (!r131.2)) rfl) ?_
          refine FL.cut 7 (fun f w => ∃ H : GH, St Ha wa H w [] ∧ Inc H133 H ∧ f 7 = Value.pointer (some ⟨b39, 0, none⟩) ∧ f 8 = v109 ∧ f 10 = v137 ∧ f 89 = Value.bool (bif (!r131.2) then true else (!(PF.impl_isVar a0.vars x35.pivot)))) ?_ ?_
          ·
            rcases bcase (!r131.2) with c148 | c148
            ·
              refine FL.skip (wF_no rfl rfl rfl c148) rfl ?_
              refine FL.skip (wF_no rfl rfl rfl c148) rfl ?_
              refine FL.skip (wF_no rfl rfl rfl c148) rfl ?_
              refine FL.skip (wF_no rfl rfl rfl c148) rfl ?_
              refine FL.skip (wF_no rfl rfl rfl c148) rfl ?_
              refine FL.skip (wF_no rfl rfl rfl c148) rfl ?_
              refine FL.val rfl rfl rfl (E.pickT rfl c148 rfl) ?_
              exact FL.nil ⟨rfl, _, S135, (Inc.rfl _), rfl, rfl, rfl, (congrArg Value.bool (bifT c148).symm)⟩
            ·
              refine FL.val (wF_yes rfl rfl rfl c148) rfl rfl (E.fieldAddr tf30_0 rfl) ?_
              refine FL.val (wF_yes rfl rfl rfl c148) rfl rfl (E.load rfl (run_load1 Tryz.isAgg3 ((at28.mono ((i48.tr r108.inc).tr r136.inc)).now S135.sl) rfl)) ?_
              refine FL.val (wF_yes rfl rfl rfl c148) rfl rfl (E.fieldAddr tf103_3 rfl) ?_
              refine FL.val (wF_yes rfl rfl rfl c148) rfl rfl (E.load rfl (run_load1 Tryz.isAgg3 ((at49.mono (r108.inc.tr r136.inc)).now S135.sl) rfl)) ?_
              refine FL.call (wF_yes rfl rfl rfl c148) rfl rfl (E.call Tryz.call147 (A2 rfl rfl)) (w_impl_isVar S135.sl a0.vars x35.pivot) ?_
              rintro e w149 ⟨rfl, r150⟩
              refine ⟨_, rfl, ?_⟩
              have S151 := S135.call r150
              refine FL.val (wF_yes rfl rfl rfl c148) rfl rfl (E.not rfl) ?_
              refine FL.val rfl rfl rfl (E.pickF rfl c148 rfl) ?_
              exact FL.nil ⟨rfl, _, S151, (Inc.rfl _), rfl, rfl, rfl, (congrArg Value.bool (bifF c148).symm)⟩
          rintro f147 w146 ⟨H143, S144, i145, k152, k153, k154, k155⟩
          refine FL.nil ?_
          rcases ifB hp with ⟨c156, hp⟩ | ⟨c156, hp⟩
          ·
            refine FW.condT k155 c156 ?_
            refine FW.seq ?_
            refine FW.region ?_
            refine FL.val rfl rfl rfl (E.assign (v := Value.bool false) rfl) ?_
            refine FL.nil ?_
            refine FW.ret ?_
            obtain rfl := Option.some.inj hp
            exact ⟨.inr rfl, res1 rfl rfl ⟨rfl, S144.back⟩⟩
          ·
            refine FW.condF k155 c156 ?_
            refine FW.skip ?_
            refine FW.seq ?_
            refine FW.region ?_
            refine FL.val rfl rfl rfl (E.move k153) ?_
            refine FL.val rfl rfl rfl (E.move k154) ?_
            refine FL.val rfl rfl rfl (E.fieldAddr tf103_3 k152) ?_
            refine FL.val rfl rfl rfl (E.load rfl (run_load1 Tryz.isAgg3 ((at49.mono ((r108.inc.tr r136.inc).tr i145)).now S144.sl) rfl)) ?_
            obtain ⟨r157, hr158, hp⟩ := bnd hp
            refine FL.call rfl rfl rfl (E.call Tryz.call148 (A3 rfl rfl rfl)) (w_impl_resolve S144.sl v109 r103.1 (h110.mono (r136.inc.tr i145)) v137 r131.1 (h138.mono i145) x35.pivot hr158) ?_
            rintro e w160 ⟨H159, v163, n164, cs165, rfl, r162, els166⟩
            refine ⟨_, rfl, ?_⟩
            have els166 := els166.mono (up_le S144.size)
            have S161 := S144.join (l' := [.row 3 1 v163 n164 cs165]) r162 rfl
            refine FL.val rfl rfl rfl (E.move (v := Value.tuple #[v163, Value.bool r157.2]) rfl) ?_
            refine FL.val rfl rfl rfl (E.extract (i := 0) rfl rfl) ?_
            refine FL.val rfl rfl rfl (E.extract (i := 1) rfl rfl) ?_
            refine FL.val rfl rfl rfl (E.assign (v := v163) rfl) ?_
            refine FL.val rfl rfl rfl (E.assign (v := Value.bool r157.2) rfl) ?_
            refine FL.nil ?_
            refine FW.seq ?_
            refine FW.region ?_
            refine FL.val rfl rfl rfl (E.move (v := Value.bool r157.2) rfl) ?_
            refine FL.val rfl rfl rfl (E.move (v := Value.bool r157.2) rfl) ?_
            obtain ⟨t177, hqt177, hp⟩ := bnd hp
            refine FL.cut 5 (fun f w => ∃ H : GH, St Ha wa H w [.row 3 1 v163 n164 cs165] ∧ Inc H159 H ∧ f 104 = Value.bool t177) ?_ ?_
            ·
              clear hp; have hp := hqt177; clear hqt177
              rcases ifB hp with ⟨c183, hp⟩ | ⟨c183, hp⟩
              ·
                refine FL.val (wF_yes rfl rfl rfl c183) rfl rfl (E.move (v := v163) rfl) ?_
                refine FL.val (wF_yes rfl rfl rfl c183) rfl rfl (E.fieldAddr tf103_0 k152) ?_
                refine FL.val (wF_yes rfl rfl rfl c183) rfl rfl (E.load rfl (run_load1 Tryz.isAgg61 ((at49.mono (((r108.inc.tr r136.inc).tr i145).tr r162.run.inc)).now S161.sl) rfl)) ?_
                obtain ⟨H184, S185, i186, h187, nv188⟩ := S161.sealRowU (i := 0) (l' := []) rfl els166 (by decide) rfl
                obtain ⟨r189, hr190, hp⟩ := bnd hp
                refine FL.call (wF_yes rfl rfl rfl c183) rfl rfl (E.call Tryz.call80 (A2 rfl rfl)) (w_slices_Equal_int_int S185.sl v163 r157.1 (h187.mono upI) v37 x35.clause (h38.mono ((((((i27.tr i48).tr r108.inc).tr r136.inc).tr i145).tr r162.run.inc).tr i186)) hr190) ?_
                rintro e w191 ⟨rfl, r192⟩
                refine ⟨_, rfl, ?_⟩
                have r192 := Run.lend i186 S161.sl r192
                have S193 := S161.call r192
                obtain rfl := Option.some.inj hp
                refine FL.val rfl rfl rfl (E.pickT rfl c183 rfl) ?_
                exact FL.nil ⟨rfl, _, S193, (Inc.rfl _), rfl⟩
              ·
                refine FL.skip (wF_no rfl rfl rfl c183) rfl ?_
                refine FL.skip (wF_no rfl rfl rfl c183) rfl ?_
                refine FL.skip (wF_no rfl rfl rfl c183) rfl ?_
                refine FL.skip (wF_no rfl rfl rfl c183) rfl ?_
                obtain rfl := Option.some.inj hp
                refine FL.val rfl rfl rfl (E.pickF rfl c183 rfl) ?_
                exact FL.nil ⟨rfl, _, S161, (Inc.rfl _), rfl⟩
            rintro f182 w181 ⟨H178, S179, i180, k194⟩
            refine FL.val rfl rfl rfl (E.assign k194) ?_
            refine FL.nil ?_
            refine FW.ret ?_
            obtain rfl := Option.some.inj hp
            exact ⟨.inr rfl, res1 rfl rfl ⟨rfl, S179.back⟩⟩

theorem w_impl_firstWrong {Ha : GH} {wa : World} (hs : Sl Ha wa) (a0 : Cnf) (v0_1 : Value) (p0_1 : RSl Ha (eL eI 1) 1 v0_1 a0.clauses) (v1 : Value) (a1 : List ResStep) (p1 : RSl Ha eResStep 4 v1 a1) {r : Int} (hp : (PF.impl_firstWrong a0 a1) = some r) :
    Calls Tryz.prog 160 #[Value.agg #[Value.int .i64 a0.vars, v0_1], v1] wa (Sc Ha wa (Value.int .i64 r)) := by
  unfold PF.impl_firstWrong at hp
  have S0 := St.init hs
  refine calls_go (N := 18) (args := [Value.agg #[Value.int .i64 a0.vars, v0_1], v1]) Tryz.func160 rfl rfl rfl ?_
  refine FW.seq ?_
  refine FW.region ?_
  obtain ⟨b21, w22, run23, S24⟩ := S0.box (P := Tryz.prog) 30 [Value.int .i64 a0.vars, v0_1] (v := Value.agg #[Value.int .i64 a0.vars, v0_1]) rfl (ones_cons rfl (ones_cons p0_1.one ones_nil))
  refine FL.val rfl rfl rfl (E.box rfl run23) ?_
  obtain ⟨H25, S26, i27, at28⟩ := S24.sealBox (i := 0) (l' := []) rfl rfl
  refine FL.val rfl rfl rfl (E.assign (v := Value.int .i64 0) rfl) ?_
  refine FL.nil ?_
  refine FW.seq ?_
  refine FW.seq ?_
  refine FW.region ?_
  refine FL.val rfl rfl rfl (E.move (v := v1) rfl) ?_
  refine FL.val rfl rfl rfl (E.lenP te41 rfl p1) ?_
  refine FL.val rfl rfl rfl (E.move (v := Value.int .i64 0) rfl) ?_
  refine FL.nil ?_
  obtain ⟨q30, hq, hp⟩ := bndR hp
  refine FW.block ?_
  refine FW.mono (FW.forL (S := Unit) (X := Int) (fun (i30 : Nat) (s30 : Unit) f w => ∃ H : GH, St Ha wa H w [] ∧ Inc H25 H ∧ f 8 = Value.int .i64 ((i30 : Nat) : Int) ∧ f 1 = v1 ∧ f 2 = Value.pointer (some ⟨b21, 0, none⟩) ∧ f 7 = Value.int .i64 (len a1)) (fun q e f w => match q with | .go s30 => e = Exit.exit 0 ∧ (∃ H : GH, St Ha wa H w [] ∧ Inc H25 H) | .rt x => ((e = Exit.ret) ∧ (fun e f w => (e = Exit.normal ∨ e = Exit.ret) ∧ ∀ a, Fr (δ := []) 18 a f → ∃ v, (results Tryz.f160 a.tmps).run Tryz.prog w = .ok v w ∧ (Sc Ha wa (Value.int .i64 x)) (.returned v) w) e f w)) hq ⟨_, S26, (Inc.rfl _), rfl, rfl, rfl, rfl⟩ ?_ ?_) ?_
  ·
    clear hp hq
    rintro i30 y29 s30 f50 w49 ⟨H46, S47, i48, k51, k52, k53, k54⟩ hx30 o61 hp
    refine FW.seq ?_
    refine FW.region ?_
    refine FL.val rfl rfl rfl (E.lssT k51 k54 (lss_len hx30)) ?_
    refine FL.nil ?_
    refine FW.seq ?_
    refine FW.condT rfl rfl ?_
    refine FW.skip ?_
    refine FW.seq ?_
    refine FW.block ?_
    refine FW.seq ?_
    refine FW.region ?_
    refine FL.val rfl rfl rfl (E.move k51) ?_
    refine FL.val rfl rfl rfl (E.assign (v := Value.int .i64 ((i30 : Nat) : Int)) rfl) ?_
    refine FL.nil ?_
    refine FW.seq ?_
    refine FW.region ?_
    refine FL.val rfl rfl rfl (E.load k53 (run_loadA Tryz.isAgg30 Tryz.sizeOf30 ((at28.mono i48).now S47.sl) rfl)) ?_
    refine FL.val rfl rfl rfl (E.move k52) ?_
    refine FL.val rfl rfl rfl (E.move (v := Value.int .i64 ((i30 : Nat) : Int)) rfl) ?_
    obtain ⟨r55, hr56, hp⟩ := bnd hp
    refine FL.call rfl rfl rfl (E.call Tryz.call198 (A3 rfl rfl rfl)) (w_impl_correct S47.sl a0 v0_1 (p0_1.mono (i27.tr i48)) v1 a1 (p1.mono (i27.tr i48)) ((i30 : Nat) : Int) hr56) ?_
    rintro e w57 ⟨rfl, r58⟩
    refine ⟨_, rfl, ?_⟩
    have S59 := S47.call r58
    refine FL.val rfl rfl rfl (E.not rfl) ?_
    refine FL.nil ?_
    rcases ifB hp with ⟨c60, hp⟩ | ⟨c60, hp⟩
    ·
      refine FW.condT rfl c60 ?_
      refine FW.seq ?_
      refine FW.region ?_
      refine FL.val rfl rfl rfl (E.move (v := Value.int .i64 ((i30 : Nat) : Int)) rfl) ?_
      refine FL.val rfl rfl rfl (E.assign (v := Value.int .i64 ((i30 : Nat) : Int)) rfl) ?_
      refine FL.nil ?_
      refine FW.ret ?_
      obtain rfl := Option.some.inj hp
      exact ⟨nofun, rfl, ⟨.inr rfl, res1 rfl rfl ⟨rfl, S59.back⟩⟩⟩
    ·
      refine FW.condF rfl c60 ?_
      refine FW.skip ?_
      refine FW.region ?_
      refine FL.val rfl rfl rfl (E.add k51 rfl) ?_
      refine FL.val rfl rfl rfl (E.move (v := Value.int .i64 (wr (((i30 : Nat) : Int) + 1))) rfl) ?_
      refine FL.nil ?_
      obtain rfl := Option.some.inj hp
      exact ⟨rfl, ⟨_, S59, i48, (nat_succ rfl (lt_of_get hx30) (p1.mono (i27.tr i48)).le), k52, k53, k54⟩⟩
  ·
    clear hp hq
    rintro s30 f71 w70 ⟨H67, S68, i69, k72, k73, k74, k75⟩
    refine FW.seq ?_
    refine FW.region ?_
    refine FL.val rfl rfl rfl (E.lss k72 k75) ?_
    refine FL.nil ?_
    refine FW.seq ?_
    refine FW.condF rfl dlt_len ?_
    refine FW.exit ?_
    exact ⟨nofun, rfl, ⟨_, S68, i69⟩⟩
  ·
    clear hq
    intro e f66 w65 hD
    rcases q30 with s30 | x30
    ·
      obtain ⟨rfl, hD⟩ := hD
      obtain ⟨H62, S63, i64⟩ := hD
      replace hp := el_go hp
      refine FW.seq ?_
      refine FW.region ?_
      refine FL.val rfl rfl rfl (E.assign (v := Value.int .i64 (-1)) rfl) ?_
      refine FL.nil ?_
      refine FW.ret ?_
      obtain rfl := Option.some.inj hp
      exact ⟨.inr rfl, res1 rfl rfl ⟨rfl, S63.back⟩⟩
    ·
      obtain ⟨he, hL⟩ := hD
      replace hp := el_rt hp
      obtain rfl := Option.some.inj hp
      subst he
      exact hL

theorem w_impl_IsDerivation {Ha : GH} {wa : World} (hs : Sl Ha wa) (a0 : Cnf) (v0_1 : Value) (p0_1 : RSl Ha (eL eI 1) 1 v0_1 a0.clauses) (v1 : Value) (a1 : List ResStep) (p1 : RSl Ha eResStep 4 v1 a1) {r : Bool} (hp : (PF.impl_IsDerivation a0 a1) = some r) :
    Calls Tryz.prog 110 #[Value.agg #[Value.int .i64 a0.vars, v0_1], v1] wa (Sc Ha wa (Value.bool r)) := by
  unfold PF.impl_IsDerivation at hp
  have S0 := St.init hs
  refine calls_go (N := 18) (args := [Value.agg #[Value.int .i64 a0.vars, v0_1], v1]) Tryz.func110 rfl rfl rfl ?_
  refine FW.seq ?_
  refine FW.region ?_
  obtain ⟨b21, w22, run23, S24⟩ := S0.box (P := Tryz.prog) 30 [Value.int .i64 a0.vars, v0_1] (v := Value.agg #[Value.int .i64 a0.vars, v0_1]) rfl (ones_cons rfl (ones_cons p0_1.one ones_nil))
  refine FL.val rfl rfl rfl (E.box rfl run23) ?_
  obtain ⟨H25, S26, i27, at28⟩ := S24.sealBox (i := 0) (l' := []) rfl rfl
  refine FL.val rfl rfl rfl (E.assign (v := Value.bool false) rfl) ?_
  refine FL.nil ?_
  refine FW.seq ?_
  refine FW.region ?_
  refine FL.val rfl rfl rfl (E.load rfl (run_loadA Tryz.isAgg30 Tryz.sizeOf30 (at28.now S26.sl) rfl)) ?_
  obtain ⟨r29, hr30, hp⟩ := bnd hp
  refine FL.call rfl rfl rfl (E.call Tryz.call135 (A1 rfl)) (w_impl_IsCnf S26.sl a0 v0_1 (p0_1.mono i27) hr30) ?_
  rintro e w31 ⟨rfl, r32⟩
  refine ⟨_, rfl, ?_⟩
  have S33 := S26.call r32
  refine FL.val rfl rfl rfl (E.move (v := Value.bool r29) rfl) ?_
  refine FL.cut 4 (fun f w => ∃ H : GH, St Ha wa H w [] ∧ Inc H25 H ∧ f 1 = v1 ∧ f 2 = Value.pointer (some ⟨b21, 0, none⟩) ∧ f 11 = Value.bool (bif r29 then (decide ((len a1) ≤ 200)) else false)) ?_ ?_
  ·
    rcases bcase r29 with c40 | c40
    ·
      refine FL.val (wF_yes rfl rfl rfl c40) rfl rfl (E.move (v := v1) rfl) ?_
      refine FL.val (wF_yes rfl rfl rfl c40) rfl rfl (E.lenP te41 rfl p1) ?_
      refine FL.val (wF_yes rfl rfl rfl c40) rfl rfl (E.leq rfl rfl) ?_
      refine FL.val rfl rfl rfl (E.pickT rfl c40 rfl) ?_
      exact FL.nil ⟨rfl, _, S33, (Inc.rfl _), rfl, rfl, (congrArg Value.bool (bifT c40).symm)⟩
    ·
      refine FL.skip (wF_no rfl rfl rfl c40) rfl ?_
      refine FL.skip (wF_no rfl rfl rfl c40) rfl ?_
      refine FL.skip (wF_no rfl rfl rfl c40) rfl ?_
      refine FL.val rfl rfl rfl (E.pickF rfl c40 rfl) ?_
      exact FL.nil ⟨rfl, _, S33, (Inc.rfl _), rfl, rfl, (congrArg Value.bool (bifF c40).symm)⟩
  rintro f39 w38 ⟨H35, S36, i37, k41, k42, k43⟩
  refine FL.val rfl rfl rfl (E.move k43) ?_
  obtain ⟨t49, hqt49, hp⟩ := bnd hp
  refine FL.cut 5 (fun f w => ∃ H : GH, St Ha wa H w [] ∧ Inc H35 H ∧ f 17 = Value.bool t49) ?_ ?_
  ·
    clear hp; have hp := hqt49; clear hqt49
    rcases ifB hp with ⟨c55, hp⟩ | ⟨c55, hp⟩
    ·
      refine FL.val (wF_yes rfl rfl rfl c55) rfl rfl (E.load k42 (run_loadA Tryz.isAgg30 Tryz.sizeOf30 ((at28.mono i37).now S36.sl) rfl)) ?_
      refine FL.val (wF_yes rfl rfl rfl c55) rfl rfl (E.move k41) ?_
      obtain ⟨r56, hr57, hp⟩ := bnd hp
      refine FL.call (wF_yes rfl rfl rfl c55) rfl rfl (E.call Tryz.call160 (A2 rfl rfl)) (w_impl_firstWrong S36.sl a0 v0_1 (p0_1.mono (i27.tr i37)) v1 a1 (p1.mono (i27.tr i37)) hr57) ?_
      rintro e w58 ⟨rfl, r59⟩
      refine ⟨_, rfl, ?_⟩
      have S60 := S36.call r59
      refine FL.val (wF_yes rfl rfl rfl c55) rfl rfl (E.lss rfl rfl) ?_
      obtain rfl := Option.some.inj hp
      refine FL.val rfl rfl rfl (E.pickT rfl c55 rfl) ?_
      exact FL.nil ⟨rfl, _, S60, (Inc.rfl _), rfl⟩
    ·
      refine FL.skip (wF_no rfl rfl rfl c55) rfl ?_
      refine FL.skip (wF_no rfl rfl rfl c55) rfl ?_
      refine FL.skip (wF_no rfl rfl rfl c55) rfl ?_
      refine FL.skip (wF_no rfl rfl rfl c55) rfl ?_
      obtain rfl := Option.some.inj hp
      refine FL.val rfl rfl rfl (E.pickF rfl c55 rfl) ?_
      exact FL.nil ⟨rfl, _, S36, (Inc.rfl _), rfl⟩
  rintro f54 w53 ⟨H50, S51, i52, k61⟩
  refine FL.val rfl rfl rfl (E.assign k61) ?_
  refine FL.nil ?_
  refine FW.ret ?_
  obtain rfl := Option.some.inj hp
  exact ⟨.inr rfl, res1 rfl rfl ⟨rfl, S51.back⟩⟩

@[reducible] def p_back168 (Ha : GH) (wa : World) (v : Value) : Ending → World → Prop :=
  fun e w' => ∃ H' b, e = .returned (.func (.func 209) #[] #[.pointer (some ⟨b, 0, none⟩)]) ∧ Run wa.heap.size Ha wa H' w' ∧ CAt H' ⟨b, 0, none⟩ [v]
theorem w_back168 {Ha : GH} {wa : World} (hs : Sl Ha wa) (v : Value) (xs : List ResStep) (p : RSl Ha eResStep 4 v xs) :
    Calls Tryz.prog 168 #[v] wa (p_back168 Ha wa v) := by
  have S0 := St.init hs
  refine calls_go (N := 4) (args := [v]) Tryz.func168 rfl rfl rfl ?_
  refine FW.seq ?_
  refine FW.region ?_
  obtain ⟨b, w1, run, S1⟩ := S0.box (P := Tryz.prog) 41 [v] (v := v) p.cells (ones_cons p.one ones_nil)
  refine FL.val rfl rfl rfl (E.box rfl run) ?_
  refine FL.val rfl rfl rfl (E.assign rfl) ?_
  refine FL.nil ?_
  refine FW.seq ?_
  refine FW.region ?_
  refine FL.val rfl rfl rfl (E.makeFunc A0 (A1 rfl)) ?_
  refine FL.val rfl rfl rfl (E.assign rfl) ?_
  refine FL.nil ?_
  refine FW.ret ?_
  obtain ⟨H1, S2, i1, at1⟩ := S1.sealBox (i := 0) (l' := []) rfl rfl
  exact ⟨.inr rfl, res1 rfl rfl ⟨H1, b, rfl, S2.run, at1⟩⟩
theorem w_iter209 {Hs : GH} {b : Addr} {v : Value} {xs : List ResStep} (hb : CAt Hs b [v]) (hv : RSl Hs eResStep 4 v xs) (L : List (Value × ResStep × Nat)) (hn : L.map Prod.snd = xs.zipIdx.reverse)
    (hA : ∀ j a, L[j]? = some a → a.2.2 + j + 1 = xs.length ∧ ∃ p cs, PtrOf 4 v (a.2.2 : Int) p ∧ cs.length = 4 ∧ CAt Hs p cs ∧ eResStep.rel Hs cs a.2.1 ∧ a.1 = (fun cs => Value.agg cs.toArray) cs) :
    IterOk Tryz.prog Hs 209 #[.pointer (some b)] (fun a => [Value.int .i64 (a.2.2 : Int), a.1]) L := by
  have hL : L.length = xs.length := by simpa using congrArg List.length hn
  have hle := hv.le
  intro l K Kx W hsl hy h0
  refine calls_go (N := 19) (args := [Value.func (.yield l) #[] #[], Value.pointer (some b)]) Tryz.func209 rfl rfl rfl ?_
  refine FW.seq ?_
  refine FW.region ?_
  refine FL.val rfl rfl rfl (E.load rfl (run_load0 Tryz.isAgg41 (hb.now (hsl 0 W h0)) rfl)) ?_
  refine FL.val rfl rfl rfl (E.lenP te41 rfl hv) ?_
  refine FL.val rfl rfl rfl (E.sub rfl rfl) ?_
  refine FL.val rfl rfl rfl (E.assign rfl) ?_
  refine FL.nil ?_
  refine FW.block ?_
  refine FW.loopG (fun m f w => ∃ j, j ≤ xs.length ∧ m = xs.length - j ∧ K j w ∧ f 0 = Value.func (.yield l) #[] #[] ∧ f 1 = Value.pointer (some b) ∧ f 3 = Value.int .i64 ((xs.length : Int) - 1 - j)) ?_ (m := xs.length) ⟨0, Nat.zero_le _, rfl, h0, rfl, rfl, congrArg (Value.int .i64) (by
    rw [wr_of] <;> simp only [len, maxLen] at * <;> omega)⟩
  rintro m f w ⟨j, hj, rfl, hk, k0, k1, k3⟩
  refine FW.seq ?_
  refine FW.seq ?_
  refine FW.region ?_
  refine FL.val rfl rfl rfl (E.move k3) ?_
  refine FL.val rfl rfl rfl (E.geq rfl rfl) ?_
  refine FL.nil ?_
  by_cases hlt : j < xs.length
  · refine FW.condT rfl (decide_eq_true (by omega)) ?_
    refine FW.skip ?_
    refine FW.seq ?_
    refine FW.block ?_
    refine FW.seq ?_
    refine FW.region ?_
    obtain ⟨a, ha⟩ : ∃ a, L[j]? = some a := ⟨_, List.getElem?_eq_getElem (by omega)⟩
    obtain ⟨hlen, p, cs, hp, hl, hc, hr, hu⟩ := hA j a ha
    have k3' : f 3 = Value.int .i64 ((a.2.2 : Nat) : Int) := by rw [k3]; exact congrArg _ (by omega)
    refine FL.val rfl rfl rfl (E.move k0) ?_
    refine FL.val rfl rfl rfl (E.move k3') ?_
    refine FL.val rfl rfl rfl (E.load k1 (run_load0 Tryz.isAgg41 (hb.now (hsl j w hk)) rfl)) ?_
    refine FL.val rfl rfl rfl (E.move k3') ?_
    refine FL.val rfl rfl rfl (E.indexAddr te41 rfl rfl hp) ?_
    refine FL.val rfl rfl rfl (E.load (v := Value.agg cs.toArray) rfl (run_loadA Tryz.isAgg103 Tryz.sizeOf103 (hc.now (hsl j w hk)) hl)) ?_
    refine FL.yield rfl rfl rfl (E.yield (args := #[Value.int .i64 ((a.2.2 : Nat) : Int), Value.agg cs.toArray]) rfl (A2 rfl rfl)) (args := [Value.int .i64 ((a.2.2 : Nat) : Int), Value.agg cs.toArray]) (fun n => by have h := hy j a w ha hk n; have e : a.1 = Value.agg cs.toArray := hu; rw [← e]; exact h) ?_
    rintro e w' (⟨rfl, hk'⟩ | ⟨rfl, hk'⟩)
    · refine ⟨_, rfl, ?_⟩
      refine FL.val rfl rfl rfl (E.not rfl) ?_
      refine FL.nil ?_
      refine FW.condF rfl rfl ?_
      refine FW.skip ?_
      refine FW.region ?_
      refine FL.val rfl rfl rfl (E.move k3) ?_
      refine FL.val rfl rfl rfl (E.sub rfl rfl) ?_
      refine FL.val rfl rfl rfl (E.assign rfl) ?_
      refine FL.nil ?_
      refine ⟨xs.length - (j + 1), by omega, j + 1, hlt, rfl, hk', k0, k1, congrArg (Value.int .i64) ?_⟩
      simp only [maxLen] at *
      rw [wr_of] <;> omega
    · refine ⟨_, rfl, ?_⟩
      refine FL.val rfl rfl rfl (E.not rfl) ?_
      refine FL.nil ?_
      refine FW.condT rfl rfl ?_
      refine FW.ret ?_
      exact ⟨.inr rfl, res0 rfl ⟨⟨_, rfl⟩, .inr hk'⟩⟩
  · refine FW.condF rfl (decide_eq_false (by omega)) ?_
    refine FW.exit ?_
    have e : j = L.length := by omega
    exact ⟨.inl rfl, res0 rfl ⟨⟨_, rfl⟩, .inl (e ▸ hk)⟩⟩

theorem w_impl_ResStep_isAxiom {Ha : GH} {wa : World} (hs : Sl Ha wa) (a0 : ResStep) (v0_0 : Value) (p0_0 : RSl Ha eI 1 v0_0 a0.clause) :
    Calls Tryz.prog 121 #[Value.agg #[v0_0, Value.int .i64 a0.left, Value.int .i64 a0.right, Value.int .i64 a0.pivot]] wa (Sc Ha wa (Value.bool (PF.impl_ResStep_isAxiom a0))) := by
  obtain ⟨r, hp⟩ : ∃ r, (PF.impl_ResStep_isAxiom a0) = r := ⟨_, rfl⟩
  rw [hp]
  unfold PF.impl_ResStep_isAxiom at hp
  have S0 := St.init hs
  refine calls_go (N := 6) (args := [Value.agg #[v0_0, Value.int .i64 a0.left, Value.int .i64 a0.right, Value.int .i64 a0.pivot]]) Tryz.func121 rfl rfl rfl ?_
  refine FW.seq ?_
  refine FW.region ?_
  obtain ⟨b21, w22, run23, S24⟩ := S0.box (P := Tryz.prog) 103 [v0_0, Value.int .i64 a0.left, Value.int .i64 a0.right, Value.int .i64 a0.pivot] (v := Value.agg #[v0_0, Value.int .i64 a0.left, Value.int .i64 a0.right, Value.int .i64 a0.pivot]) rfl (ones_cons p0_0.one (ones_cons rfl (ones_cons rfl (ones_cons rfl ones_nil))))
  refine FL.val rfl rfl rfl (E.box rfl run23) ?_
  obtain ⟨H25, S26, i27, at28⟩ := S24.sealBox (i := 0) (l' := []) rfl rfl
  refine FL.val rfl rfl rfl (E.assign (v := Value.bool false) rfl) ?_
  refine FL.nil ?_
  refine FW.seq ?_
  refine FW.region ?_
  refine FL.val rfl rfl rfl (E.fieldAddr tf103_1 rfl) ?_
  refine FL.val rfl rfl rfl (E.load rfl (run_load1 Tryz.isAgg3 (at28.now S26.sl) rfl)) ?_
  refine FL.val rfl rfl rfl (E.lss rfl rfl) ?_
  refine FL.val rfl rfl rfl (E.assign (v := Value.bool (decide (a0.left < 0))) rfl) ?_
  refine FL.nil ?_
  refine FW.ret ?_
  obtain rfl := hp
  exact ⟨.inr rfl, res1 rfl rfl ⟨rfl, S26.back⟩⟩

theorem w_impl_ResStep_isWeakening {Ha : GH} {wa : World} (hs : Sl Ha wa) (a0 : ResStep) (v0_0 : Value) (p0_0 : RSl Ha eI 1 v0_0 a0.clause) :
    Calls Tryz.prog 161 #[Value.agg #[v0_0, Value.int .i64 a0.left, Value.int .i64 a0.right, Value.int .i64 a0.pivot]] wa (Sc Ha wa (Value.bool (PF.impl_ResStep_isWeakening a0))) := by
  obtain ⟨r, hp⟩ : ∃ r, (PF.impl_ResStep_isWeakening a0) = r := ⟨_, rfl⟩
  rw [hp]
  unfold PF.impl_ResStep_isWeakening at hp
  have S0 := St.init hs
  refine calls_go (N := 11) (args := [Value.agg #[v0_0, Value.int .i64 a0.left, Value.int .i64 a0.right, Value.int .i64 a0.pivot]]) Tryz.func161 rfl rfl rfl ?_
  refine FW.seq ?_
  refine FW.region ?_
  obtain ⟨b21, w22, run23, S24⟩ := S0.box (P := Tryz.prog) 103 [v0_0, Value.int .i64 a0.left, Value.int .i64 a0.right, Value.int .i64 a0.pivot] (v := Value.agg #[v0_0, Value.int .i64 a0.left, Value.int .i64 a0.right, Value.int .i64 a0.pivot]) rfl (ones_cons p0_0.one (ones_cons rfl (ones_cons rfl (ones_cons rfl ones_nil))))
  refine FL.val rfl rfl rfl (E.box rfl run23) ?_
  obtain ⟨H25, S26, i27, at28⟩ := S24.sealBox (i := 0) (l' := []) rfl rfl
  refine FL.val rfl rfl rfl (E.assign (v := Value.bool false) rfl) ?_
  refine FL.nil ?_
  refine FW.seq ?_
  refine FW.region ?_
  refine FL.val rfl rfl rfl (E.fieldAddr tf103_1 rfl) ?_
  refine FL.val rfl rfl rfl (E.load rfl (run_load1 Tryz.isAgg3 (at28.now S26.sl) rfl)) ?_
  refine FL.val rfl rfl rfl (E.geq rfl rfl) ?_
  refine FL.val rfl rfl rfl (E.move (v := Value.bool (decide (0 ≤ a0.left))) rfl) ?_
  refine FL.cut 4 (fun f w => ∃ H : GH, St Ha wa H w [] ∧ Inc H25 H ∧ f 10 = Value.bool (bif (decide (0 ≤ a0.left)) then (decide (a0.right < 0)) else false)) ?_ ?_
  ·
    rcases bcase (decide (0 ≤ a0.left)) with c35 | c35
    ·
      refine FL.val (wF_yes rfl rfl rfl c35) rfl rfl (E.fieldAddr tf103_2 rfl) ?_
      refine FL.val (wF_yes rfl rfl rfl c35) rfl rfl (E.load rfl (run_load1 Tryz.isAgg3 (at28.now S26.sl) rfl)) ?_
      refine FL.val (wF_yes rfl rfl rfl c35) rfl rfl (E.lss rfl rfl) ?_
      refine FL.val rfl rfl rfl (E.pickT rfl c35 rfl) ?_
      exact FL.nil ⟨rfl, _, S26, (Inc.rfl _), (congrArg Value.bool (bifT c35).symm)⟩
    ·
      refine FL.skip (wF_no rfl rfl rfl c35) rfl ?_
      refine FL.skip (wF_no rfl rfl rfl c35) rfl ?_
      refine FL.skip (wF_no rfl rfl rfl c35) rfl ?_
      refine FL.val rfl rfl rfl (E.pickF rfl c35 rfl) ?_
      exact FL.nil ⟨rfl, _, S26, (Inc.rfl _), (congrArg Value.bool (bifF c35).symm)⟩
  rintro f34 w33 ⟨H30, S31, i32, k36⟩
  refine FL.val rfl rfl rfl (E.assign k36) ?_
  refine FL.nil ?_
  refine FW.ret ?_
  obtain rfl := hp
  exact ⟨.inr rfl, res1 rfl rfl ⟨rfl, S31.back⟩⟩

@[reducible] def p_impl_ResStep_premises (Ha : GH) (wa : World) (r : (List Int)) : Ending → World → Prop :=
  fun e w' => ∃ H' : GH, ∃ v0 : Value, ∃ n0 : Nat, ∃ c0 : List Value, e = .returned (v0) ∧ St Ha wa H' w' [.row 3 1 v0 n0 c0] ∧ Els (up wa.heap.size H') eI 1 c0 r
theorem w_impl_ResStep_premises {Ha : GH} {wa : World} (hs : Sl Ha wa) (a0 : ResStep) (v0_0 : Value) (p0_0 : RSl Ha eI 1 v0_0 a0.clause) :
    Calls Tryz.prog 112 #[Value.agg #[v0_0, Value.int .i64 a0.left, Value.int .i64 a0.right, Value.int .i64 a0.pivot]] wa (p_impl_ResStep_premises Ha wa (PF.impl_ResStep_premises a0)) := by
  obtain ⟨r, hp⟩ : ∃ r, (PF.impl_ResStep_premises a0) = r := ⟨_, rfl⟩
  rw [hp]
  unfold PF.impl_ResStep_premises at hp
  have S0 := St.init hs
  refine calls_go (N := 17) (args := [Value.agg #[v0_0, Value.int .i64 a0.left, Value.int .i64 a0.right, Value.int .i64 a0.pivot]]) Tryz.func112 rfl rfl rfl ?_
  refine FW.seq ?_
  refine FW.region ?_
  obtain ⟨b21, w22, run23, S24⟩ := S0.box (P := Tryz.prog) 103 [v0_0, Value.int .i64 a0.left, Value.int .i64 a0.right, Value.int .i64 a0.pivot] (v := Value.agg #[v0_0, Value.int .i64 a0.left, Value.int .i64 a0.right, Value.int .i64 a0.pivot]) rfl (ones_cons p0_0.one (ones_cons rfl (ones_cons rfl (ones_cons rfl ones_nil))))
  refine FL.val rfl rfl rfl (E.box rfl run23) ?_
  obtain ⟨H25, S26, i27, at28⟩ := S24.sealBox (i := 0) (l' := []) rfl rfl
  refine FL.val rfl rfl rfl (E.assign (v := Value.slice none 0 0) rfl) ?_
  refine FL.nil ?_
  refine FW.seq ?_
  refine FW.block ?_
  refine FW.seq ?_
  refine FW.region ?_
  refine FL.val rfl rfl rfl (E.load rfl (run_loadA Tryz.isAgg103 Tryz.sizeOf103 (at28.now S26.sl) rfl)) ?_
  refine FL.call rfl rfl rfl (E.call Tryz.call121 (A1 rfl)) (w_impl_ResStep_isAxiom S26.sl a0 v0_0 (p0_0.mono i27)) ?_
  rintro e w29 ⟨rfl, r30⟩
  refine ⟨_, rfl, ?_⟩
  have S31 := S26.call r30
  refine FL.val rfl rfl rfl (E.assign (v := Value.bool (PF.impl_ResStep_isAxiom a0)) rfl) ?_
  refine FL.nil ?_
  rcases ifT hp with ⟨c32, hp⟩ | ⟨c32, hp⟩
  ·
    refine FW.condT rfl c32 ?_
    refine FW.seq ?_
    refine FW.region ?_
    refine FL.val rfl rfl rfl (E.assign (v := Value.slice none 0 0) rfl) ?_
    refine FL.nil ?_
    refine FW.ret ?_
    obtain rfl := hp
    exact ⟨.inr rfl, res1 rfl rfl ⟨_, _, _, _, rfl, (S31.nil 3 1), Els.nil⟩⟩
  ·
    refine FW.condF rfl c32 ?_
    refine FW.seq ?_
    refine FW.region ?_
    refine FL.val rfl rfl rfl (E.load rfl (run_loadA Tryz.isAgg103 Tryz.sizeOf103 (at28.now S31.sl) rfl)) ?_
    refine FL.call rfl rfl rfl (E.call Tryz.call161 (A1 rfl)) (w_impl_ResStep_isWeakening S31.sl a0 v0_0 (p0_0.mono i27)) ?_
    rintro e w33 ⟨rfl, r34⟩
    refine ⟨_, rfl, ?_⟩
    have S35 := S31.call r34
    refine FL.val rfl rfl rfl (E.assign (v := Value.bool (PF.impl_ResStep_isWeakening a0)) rfl) ?_
    refine FL.nil ?_
    rcases ifT hp with ⟨c36, hp⟩ | ⟨c36, hp⟩
    ·
      refine FW.condT rfl c36 ?_
      refine FW.seq ?_
      refine FW.region ?_
      refine FL.val rfl rfl rfl (E.fieldAddr tf103_1 rfl) ?_
      refine FL.val rfl rfl rfl (E.load rfl (run_load1 Tryz.isAgg3 (at28.now S35.sl) rfl)) ?_
      obtain ⟨v37, w38, run39, S40⟩ := S35.buildSlice (P := Tryz.prog) te61 [Value.int .i64 a0.left] (parts := #[(0, Value.int .i64 a0.left)]) (cells := [Value.int .i64 a0.left]) rfl (szs_cons rfl szs_nil) (fc_cons rfl fc_nil) (ones_cons rfl ones_nil) (Nat.le_of_ble_eq_true rfl)
      have els41 : Els (up wa.heap.size H25) eI 1 [Value.int .i64 a0.left] [a0.left] := (Els.snoc (H := (up wa.heap.size H25)) (E := eI) (k := 1) (c := [Value.int .i64 a0.left]) (x := a0.left) Els.nil rfl rfl)
      refine FL.val rfl rfl rfl (E.buildSlice (B1 rfl) run39) ?_
      refine FL.val rfl rfl rfl (E.assign (v := v37) rfl) ?_
      refine FL.nil ?_
      refine FW.ret ?_
      obtain rfl := hp
      exact ⟨.inr rfl, res1 rfl rfl ⟨_, _, _, _, rfl, S40, els41⟩⟩
    ·
      refine FW.condF rfl c36 ?_
      refine FW.skip ?_
      refine FW.seq ?_
      refine FW.region ?_
      refine FL.val rfl rfl rfl (E.fieldAddr tf103_1 rfl) ?_
      refine FL.val rfl rfl rfl (E.load rfl (run_load1 Tryz.isAgg3 (at28.now S35.sl) rfl)) ?_
      refine FL.val rfl rfl rfl (E.fieldAddr tf103_2 rfl) ?_
      refine FL.val rfl rfl rfl (E.load rfl (run_load1 Tryz.isAgg3 (at28.now S35.sl) rfl)) ?_
      obtain ⟨v42, w43, run44, S45⟩ := S35.buildSlice (P := Tryz.prog) te61 [Value.int .i64 a0.left, Value.int .i64 a0.right] (parts := #[(0, Value.int .i64 a0.left), (1, Value.int .i64 a0.right)]) (cells := [Value.int .i64 a0.left, Value.int .i64 a0.right]) rfl (szs_cons rfl (szs_cons rfl szs_nil)) (fc_cons rfl (fc_cons rfl fc_nil)) (ones_cons rfl (ones_cons rfl ones_nil)) (Nat.le_of_ble_eq_true rfl)
      have els46 : Els (up wa.heap.size H25) eI 1 [Value.int .i64 a0.left, Value.int .i64 a0.right] [a0.left, a0.right] := (Els.snoc (H := (up wa.heap.size H25)) (E := eI) (k := 1) (c := [Value.int .i64 a0.right]) (x := a0.right) (Els.snoc (H := (up wa.heap.size H25)) (E := eI) (k := 1) (c := [Value.int .i64 a0.left]) (x := a0.left) Els.nil rfl rfl) rfl rfl)
      refine FL.val rfl rfl rfl (E.buildSlice (B2 rfl rfl) run44) ?_
      refine FL.val rfl rfl rfl (E.assign (v := v42) rfl) ?_
      refine FL.nil ?_
      refine FW.ret ?_
      obtain rfl := hp
      exact ⟨.inr rfl, res1 rfl rfl ⟨_, _, _, _, rfl, S45, els46⟩⟩

@[reducible] def p_slices_Reverse_int_int (H0 : GH) (w0 : World) (Ha : GH) (L : List MO) (v0 : Value) (n0 : Nat) (r : (List Int)) : Ending → World → Prop :=
  fun e w' => ∃ H' : GH, ∃ c0k : List Value, e = .returned (Value.tuple #[]) ∧ (St H0 w0 H' w' (.row 3 1 v0 n0 c0k :: L) ∧ Inc Ha H') ∧ Els (up w0.heap.size H') eI 1 c0k r
theorem w_slices_Reverse_int_int {H0 Ha : GH} {w0 wa : World} {L : List MO} {v0 : Value} {n0 : Nat} {k0 : List Value} (S0 : St H0 w0 Ha wa (.row 3 1 v0 n0 k0 :: L)) (a0 : List Int) (p0 : Els (up w0.heap.size Ha) eI 1 k0 a0) {r : (List Int)} (hp : (PF.slices_Reverse_int_int a0) = some r) :
    Calls Tryz.prog 169 #[v0] wa (p_slices_Reverse_int_int H0 w0 Ha L v0 n0 r) := by
  unfold PF.slices_Reverse_int_int at hp
  refine calls_go (N := 28) (args := [v0]) Tryz.func169 rfl rfl rfl ?_
  refine FW.seq ?_
  refine FW.region ?_
  refine FL.val rfl rfl rfl (E.move (v := v0) rfl) ?_
  refine FL.val rfl rfl rfl (E.lenO te61 rfl S0 (i := 0) rfl p0 (by decide)) ?_
  refine FL.val rfl rfl rfl (E.sub rfl rfl) ?_
  refine FL.val rfl rfl rfl (E.assign (v := Value.int .i64 0) rfl) ?_
  refine FL.val rfl rfl rfl (E.assign (v := Value.int .i64 (wr ((len a0) - 1))) rfl) ?_
  refine FL.nil ?_
  obtain ⟨q21, hq, hp⟩ := bndR hp
  refine FW.block ?_
  refine FW.mono (FW.iter (S := ((List Int) × Int × Int)) (X := Empty) (fun (s21 : ((List Int) × Int × Int)) f w => ∃ H : GH, ∃ cs7242 : List Value, St H0 w0 H w (.row 3 1 v0 n0 cs7242 :: L) ∧ Inc Ha H ∧ Els (up w0.heap.size H) eI 1 cs7242 s21.1 ∧ f 0 = v0 ∧ f 2 = Value.int .i64 s21.2.1 ∧ f 3 = Value.int .i64 s21.2.2) (fun (q : Rs ((List Int) × Int × Int) Empty) e f w => match q with | .go s21 => e = Exit.exit 0 ∧ (∃ H : GH, ∃ cs7242 : List Value, St H0 w0 H w (.row 3 1 v0 n0 cs7242 :: L) ∧ Inc Ha H ∧ Els (up w0.heap.size H) eI 1 cs7242 s21.1) | .rt x => x.elim) hq ⟨_, _, S0, (Inc.rfl _), p0, rfl, rfl, rfl⟩ ?_) ?_
  ·
    clear hp hq
    rintro s21 f14468 w14467 ⟨H14464, cs7242, S14465, i14466, els7243, k14469, k14470, k14471⟩ o21684 hp
    refine FW.seq ?_
    refine FW.seq ?_
    refine FW.region ?_
    refine FL.val rfl rfl rfl (E.move k14470) ?_
    refine FL.val rfl rfl rfl (E.move k14471) ?_
    refine FL.val rfl rfl rfl (E.lss rfl rfl) ?_
    refine FL.nil ?_
    rcases ifB hp with ⟨c14472, hp⟩ | ⟨c14472, hp⟩
    ·
      refine FW.condT rfl c14472 ?_
      refine FW.skip ?_
      refine FW.seq ?_
      refine FW.block ?_
      obtain ⟨x17279, hx17280, hp⟩ := bnd hp
      obtain ⟨x18879, hx18880, hp⟩ := bnd hp
      obtain ⟨x19679, hx19680, hp⟩ := bnd hp
      obtain ⟨xs20076, hput20077, hp⟩ := bnd hp
      obtain ⟨x20479, hx20480, hp⟩ := bnd hp
      obtain ⟨xs20876, hput20877, hp⟩ := bnd hp
      refine FW.drawA (Sl H14464) (fun f w => ∃ H : GH, ∃ cs21673 : List Value, St H0 w0 H w (.row 3 1 v0 n0 cs21673 :: L) ∧ Inc H14464 H ∧ Els (up w0.heap.size H) eI 1 cs21673 xs20876 ∧ f 0 = v0 ∧ f 2 = Value.int .i64 s21.2.1 ∧ f 3 = Value.int .i64 s21.2.2) (by kernel_rfl) S14465.sl ?_ ?_
      ·
        intro w14473 r14474
        have S14475 := S14465.call r14474
        refine FA.take (i := 0) (l' := #[true, false, false, false, false, false, false, false, false, false, false, false, false, false, false, false]) rfl (by kernel_rfl) (by kernel_rfl) (by kernel_rfl) (by kernel_rfl) S14475.sl rfl rfl rfl (fun w' hw' => (E.move k14469)) ?_
        refine FA.take (i := 1) (l' := #[true, true, false, false, false, false, false, false, false, false, false, false, false, false, false, false]) rfl (by kernel_rfl) (by kernel_rfl) (by kernel_rfl) (by kernel_rfl) S14475.sl rfl rfl rfl (fun w' hw' => (E.move k14470)) ?_
        refine FA.take (i := 2) (l' := #[true, true, true, false, false, false, false, false, false, false, false, false, false, false, false, false]) rfl (by kernel_rfl) (by kernel_rfl) (by kernel_rfl) (by kernel_rfl) S14475.sl rfl rfl rfl (fun w' hw' => (E.move k14469)) ?_
        refine FA.take (i := 3) (l' := #[true, true, true, true, false, false, false, false, false, false, false, false, false, false, false, false]) rfl (by kernel_rfl) (by kernel_rfl) (by kernel_rfl) (by kernel_rfl) S14475.sl rfl rfl rfl (fun w' hw' => (E.move k14471)) ?_
        refine FA.take (i := 4) (l' := #[true, true, true, true, true, false, false, false, false, false, false, false, false, false, false, false]) rfl (by kernel_rfl) (by kernel_rfl) (by kernel_rfl) (by kernel_rfl) S14475.sl rfl rfl rfl (fun w' hw' => (E.move k14469)) ?_
        refine FA.take (i := 5) (l' := #[true, true, true, true, true, true, false, false, false, false, false, false, false, false, false, false]) rfl (by kernel_rfl) (by kernel_rfl) (by kernel_rfl) (by kernel_rfl) S14475.sl rfl rfl rfl (fun w' hw' => (E.move k14471)) ?_
        refine FA.take (i := 8) (l' := #[true, true, true, true, true, true, false, false, true, false, false, false, false, false, false, false]) rfl (by kernel_rfl) (by kernel_rfl) (by kernel_rfl) (by kernel_rfl) S14475.sl rfl rfl rfl (fun w' hw' => (E.move k14469)) ?_
        refine FA.take (i := 9) (l' := #[true, true, true, true, true, true, false, false, true, true, false, false, false, false, false, false]) rfl (by kernel_rfl) (by kernel_rfl) (by kernel_rfl) (by kernel_rfl) S14475.sl rfl rfl rfl (fun w' hw' => (E.move k14470)) ?_
        refine FA.all2 (i := 6) (j := 10) (by kernel_rfl) ?_ ?_
        ·
          obtain ⟨p17273, cs17274, pt17275, l17276, at17277, rel17278⟩ := S14475.row_at (i := 0) rfl els7243 (by decide) hx17280
          obtain rfl := eI_open rel17278
          refine FO.val (l' := #[true, true, true, true, true, true, true, false, true, true, false, false, false, false, false, false]) rfl (by kernel_rfl) rfl rfl rfl (E.indexAddr te61 rfl rfl pt17275) ?_
          refine ⟨S14475.sl, ?_⟩
          refine FA.all2 (i := 7) (j := 10) (by kernel_rfl) ?_ ?_
          ·
            refine FO.val (l' := #[true, true, true, true, true, true, true, true, true, true, false, false, false, false, false, false]) rfl (by kernel_rfl) rfl rfl rfl (E.load rfl (run_load0 Tryz.isAgg3 at17277 rfl)) ?_
            refine ⟨S14475.sl, ?_⟩
            refine FA.all1 (i := 10) (by kernel_rfl) ?_
            ·
              obtain ⟨p18873, cs18874, pt18875, l18876, at18877, rel18878⟩ := S14475.row_at (i := 0) rfl els7243 (by decide) hx18880
              obtain rfl := eI_open rel18878
              refine FO.val (l' := #[true, true, true, true, true, true, true, true, true, true, true, false, false, false, false, false]) rfl (by kernel_rfl) rfl rfl rfl (E.indexAddr te61 rfl rfl pt18875) ?_
              refine ⟨S14475.sl, ?_⟩
              refine FA.all1 (i := 11) (by kernel_rfl) ?_
              ·
                refine FO.val (l' := #[true, true, true, true, true, true, true, true, true, true, true, true, false, false, false, false]) rfl (by kernel_rfl) rfl rfl rfl (E.load rfl (run_load0 Tryz.isAgg3 at18877 rfl)) ?_
                refine ⟨S14475.sl, ?_⟩
                refine FA.all1 (i := 12) (by kernel_rfl) ?_
                ·
                  obtain ⟨p19673, cs19674, pt19675, l19676, at19677, rel19678⟩ := S14475.row_at (i := 0) rfl els7243 (by decide) hx19680
                  obtain rfl := eI_open rel19678
                  refine FO.val (l' := #[true, true, true, true, true, true, true, true, true, true, true, true, true, false, false, false]) rfl (by kernel_rfl) rfl rfl rfl (E.indexAddr te61 rfl rfl pt19675) ?_
                  refine ⟨S14475.sl, ?_⟩
                  refine FA.all1 (i := 13) (by kernel_rfl) ?_
                  ·
                    obtain ⟨w20073, cs20079, run20074, S20075, els20078, ce20080⟩ := S14475.putEls (P := Tryz.prog) (t := 3) (i := 0) rfl els7243 hput20077 pt19675 Tryz.sizeOf3 (u := Value.int .i64 x17279) (c := [Value.int .i64 x17279]) rfl rfl (ones_cons rfl ones_nil) rfl
                    have S20075 : St H0 w0 H14464 w20073 (.row 3 1 v0 n0 cs20079 :: L) := S20075
                    refine FO.act (l' := #[true, true, true, true, true, true, true, true, true, true, true, true, true, true, false, false]) rfl (by kernel_rfl) rfl rfl (E.store rfl rfl run20074) ?_
                    refine ⟨S20075.sl, ?_⟩
                    refine FA.all1 (i := 14) (by kernel_rfl) ?_
                    ·
                      obtain ⟨p20473, cs20474, pt20475, l20476, at20477, rel20478⟩ := S20075.row_at (i := 0) rfl els20078 (by decide) hx20480
                      obtain rfl := eI_open rel20478
                      refine FO.val (l' := #[true, true, true, true, true, true, true, true, true, true, true, true, true, true, true, false]) rfl (by kernel_rfl) rfl rfl rfl (E.indexAddr te61 rfl rfl pt20475) ?_
                      refine ⟨S20075.sl, ?_⟩
                      refine FA.all1 (i := 15) (by kernel_rfl) ?_
                      ·
                        obtain ⟨w20873, cs20879, run20874, S20875, els20878, ce20880⟩ := S20075.putEls (P := Tryz.prog) (t := 3) (i := 0) rfl els20078 hput20877 pt20475 Tryz.sizeOf3 (u := Value.int .i64 x18879) (c := [Value.int .i64 x18879]) rfl rfl (ones_cons rfl ones_nil) rfl
                        have S20875 : St H0 w0 H14464 w20873 (.row 3 1 v0 n0 cs20879 :: L) := S20875
                        refine FO.act (l' := #[true, true, true, true, true, true, true, true, true, true, true, true, true, true, true, true]) rfl (by kernel_rfl) rfl rfl (E.store rfl rfl run20874) ?_
                        refine ⟨S20875.sl, ?_⟩
                        exact FA.done (by kernel_rfl) ⟨_, _, S20875, (Inc.rfl _), els20878, k14469, k14470, k14471⟩
          ·
            obtain ⟨p18873, cs18874, pt18875, l18876, at18877, rel18878⟩ := S14475.row_at (i := 0) rfl els7243 (by decide) hx18880
            obtain rfl := eI_open rel18878
            refine FO.val (l' := #[true, true, true, true, true, true, true, false, true, true, true, false, false, false, false, false]) rfl (by kernel_rfl) rfl rfl rfl (E.indexAddr te61 rfl rfl pt18875) ?_
            refine ⟨S14475.sl, ?_⟩
            refine FA.all2 (i := 7) (j := 11) (by kernel_rfl) ?_ ?_
            ·
              refine FO.val (l' := #[true, true, true, true, true, true, true, true, true, true, true, false, false, false, false, false]) rfl (by kernel_rfl) rfl rfl rfl (E.load rfl (run_load0 Tryz.isAgg3 at17277 rfl)) ?_
              refine ⟨S14475.sl, ?_⟩
              refine FA.all1 (i := 11) (by kernel_rfl) ?_
              ·
                refine FO.val (l' := #[true, true, true, true, true, true, true, true, true, true, true, true, false, false, false, false]) rfl (by kernel_rfl) rfl rfl rfl (E.load rfl (run_load0 Tryz.isAgg3 at18877 rfl)) ?_
                refine ⟨S14475.sl, ?_⟩
                refine FA.all1 (i := 12) (by kernel_rfl) ?_
                ·
                  obtain ⟨p19673, cs19674, pt19675, l19676, at19677, rel19678⟩ := S14475.row_at (i := 0) rfl els7243 (by decide) hx19680
                  obtain rfl := eI_open rel19678
                  refine FO.val (l' := #[true, true, true, true, true, true, true, true, true, true, true, true, true, false, false, false]) rfl (by kernel_rfl) rfl rfl rfl (E.indexAddr te61 rfl rfl pt19675) ?_
                  refine ⟨S14475.sl, ?_⟩
                  refine FA.all1 (i := 13) (by kernel_rfl) ?_
                  ·
                    obtain ⟨w20073, cs20079, run20074, S20075, els20078, ce20080⟩ := S14475.putEls (P := Tryz.prog) (t := 3) (i := 0) rfl els7243 hput20077 pt19675 Tryz.sizeOf3 (u := Value.int .i64 x17279) (c := [Value.int .i64 x17279]) rfl rfl (ones_cons rfl ones_nil) rfl
                    have S20075 : St H0 w0 H14464 w20073 (.row 3 1 v0 n0 cs20079 :: L) := S20075
                    refine FO.act (l' := #[true, true, true, true, true, true, true, true, true, true, true, true, true, true, false, false]) rfl (by kernel_rfl) rfl rfl (E.store rfl rfl run20074) ?_
                    refine ⟨S20075.sl, ?_⟩
                    refine FA.all1 (i := 14) (by kernel_rfl) ?_
                    ·
                      obtain ⟨p20473, cs20474, pt20475, l20476, at20477, rel20478⟩ := S20075.row_at (i := 0) rfl els20078 (by decide) hx20480
                      obtain rfl := eI_open rel20478
                      refine FO.val (l' := #[true, true, true, true, true, true, true, true, true, true, true, true, true, true, true, false]) rfl (by kernel_rfl) rfl rfl rfl (E.indexAddr te61 rfl rfl pt20475) ?_
                      refine ⟨S20075.sl, ?_⟩
                      refine FA.all1 (i := 15) (by kernel_rfl) ?_
                      ·
                        obtain ⟨w20873, cs20879, run20874, S20875, els20878, ce20880⟩ := S20075.putEls (P := Tryz.prog) (t := 3) (i := 0) rfl els20078 hput20877 pt20475 Tryz.sizeOf3 (u := Value.int .i64 x18879) (c := [Value.int .i64 x18879]) rfl rfl (ones_cons rfl ones_nil) rfl
                        have S20875 : St H0 w0 H14464 w20873 (.row 3 1 v0 n0 cs20879 :: L) := S20875
                        refine FO.act (l' := #[true, true, true, true, true, true, true, true, true, true, true, true, true, true, true, true]) rfl (by kernel_rfl) rfl rfl (E.store rfl rfl run20874) ?_
                        refine ⟨S20875.sl, ?_⟩
                        exact FA.done (by kernel_rfl) ⟨_, _, S20875, (Inc.rfl _), els20878, k14469, k14470, k14471⟩
            ·
              refine FO.val (l' := #[true, true, true, true, true, true, true, false, true, true, true, true, false, false, false, false]) rfl (by kernel_rfl) rfl rfl rfl (E.load rfl (run_load0 Tryz.isAgg3 at18877 rfl)) ?_
              refine ⟨S14475.sl, ?_⟩
              refine FA.all1 (i := 7) (by kernel_rfl) ?_
              ·
                refine FO.val (l' := #[true, true, true, true, true, true, true, true, true, true, true, true, false, false, false, false]) rfl (by kernel_rfl) rfl rfl rfl (E.load rfl (run_load0 Tryz.isAgg3 at17277 rfl)) ?_
                refine ⟨S14475.sl, ?_⟩
                refine FA.all1 (i := 12) (by kernel_rfl) ?_
                ·
                  obtain ⟨p19673, cs19674, pt19675, l19676, at19677, rel19678⟩ := S14475.row_at (i := 0) rfl els7243 (by decide) hx19680
                  obtain rfl := eI_open rel19678
                  refine FO.val (l' := #[true, true, true, true, true, true, true, true, true, true, true, true, true, false, false, false]) rfl (by kernel_rfl) rfl rfl rfl (E.indexAddr te61 rfl rfl pt19675) ?_
                  refine ⟨S14475.sl, ?_⟩
                  refine FA.all1 (i := 13) (by kernel_rfl) ?_
                  ·
                    obtain ⟨w20073, cs20079, run20074, S20075, els20078, ce20080⟩ := S14475.putEls (P := Tryz.prog) (t := 3) (i := 0) rfl els7243 hput20077 pt19675 Tryz.sizeOf3 (u := Value.int .i64 x17279) (c := [Value.int .i64 x17279]) rfl rfl (ones_cons rfl ones_nil) rfl
                    have S20075 : St H0 w0 H14464 w20073 (.row 3 1 v0 n0 cs20079 :: L) := S20075
                    refine FO.act (l' := #[true, true, true, true, true, true, true, true, true, true, true, true, true, true, false, false]) rfl (by kernel_rfl) rfl rfl (E.store rfl rfl run20074) ?_
                    refine ⟨S20075.sl, ?_⟩
                    refine FA.all1 (i := 14) (by kernel_rfl) ?_
                    ·
                      obtain ⟨p20473, cs20474, pt20475, l20476, at20477, rel20478⟩ := S20075.row_at (i := 0) rfl els20078 (by decide) hx20480
                      obtain rfl := eI_open rel20478
                      refine FO.val (l' := #[true, true, true, true, true, true, true, true, true, true, true, true, true, true, true, false]) rfl (by kernel_rfl) rfl rfl rfl (E.indexAddr te61 rfl rfl pt20475) ?_
                      refine ⟨S20075.sl, ?_⟩
                      refine FA.all1 (i := 15) (by kernel_rfl) ?_
                      ·
                        obtain ⟨w20873, cs20879, run20874, S20875, els20878, ce20880⟩ := S20075.putEls (P := Tryz.prog) (t := 3) (i := 0) rfl els20078 hput20877 pt20475 Tryz.sizeOf3 (u := Value.int .i64 x18879) (c := [Value.int .i64 x18879]) rfl rfl (ones_cons rfl ones_nil) rfl
                        have S20875 : St H0 w0 H14464 w20873 (.row 3 1 v0 n0 cs20879 :: L) := S20875
                        refine FO.act (l' := #[true, true, true, true, true, true, true, true, true, true, true, true, true, true, true, true]) rfl (by kernel_rfl) rfl rfl (E.store rfl rfl run20874) ?_
                        refine ⟨S20875.sl, ?_⟩
                        exact FA.done (by kernel_rfl) ⟨_, _, S20875, (Inc.rfl _), els20878, k14469, k14470, k14471⟩
        ·
          obtain ⟨p18873, cs18874, pt18875, l18876, at18877, rel18878⟩ := S14475.row_at (i := 0) rfl els7243 (by decide) hx18880
          obtain rfl := eI_open rel18878
          refine FO.val (l' := #[true, true, true, true, true, true, false, false, true, true, true, false, false, false, false, false]) rfl (by kernel_rfl) rfl rfl rfl (E.indexAddr te61 rfl rfl pt18875) ?_
          refine ⟨S14475.sl, ?_⟩
          refine FA.all2 (i := 6) (j := 11) (by kernel_rfl) ?_ ?_
          ·
            obtain ⟨p17273, cs17274, pt17275, l17276, at17277, rel17278⟩ := S14475.row_at (i := 0) rfl els7243 (by decide) hx17280
            obtain rfl := eI_open rel17278
            refine FO.val (l' := #[true, true, true, true, true, true, true, false, true, true, true, false, false, false, false, false]) rfl (by kernel_rfl) rfl rfl rfl (E.indexAddr te61 rfl rfl pt17275) ?_
            refine ⟨S14475.sl, ?_⟩
            refine FA.all2 (i := 7) (j := 11) (by kernel_rfl) ?_ ?_
            ·
              refine FO.val (l' := #[true, true, true, true, true, true, true, true, true, true, true, false, false, false, false, false]) rfl (by kernel_rfl) rfl rfl rfl (E.load rfl (run_load0 Tryz.isAgg3 at17277 rfl)) ?_
              refine ⟨S14475.sl, ?_⟩
              refine FA.all1 (i := 11) (by kernel_rfl) ?_
              ·
                refine FO.val (l' := #[true, true, true, true, true, true, true, true, true, true, true, true, false, false, false, false]) rfl (by kernel_rfl) rfl rfl rfl (E.load rfl (run_load0 Tryz.isAgg3 at18877 rfl)) ?_
                refine ⟨S14475.sl, ?_⟩
                refine FA.all1 (i := 12) (by kernel_rfl) ?_
                ·
                  obtain ⟨p19673, cs19674, pt19675, l19676, at19677, rel19678⟩ := S14475.row_at (i := 0) rfl els7243 (by decide) hx19680
                  obtain rfl := eI_open rel19678
                  refine FO.val (l' := #[true, true, true, true, true, true, true, true, true, true, true, true, true, false, false, false]) rfl (by kernel_rfl) rfl rfl rfl (E.indexAddr te61 rfl rfl pt19675) ?_
                  refine ⟨S14475.sl, ?_⟩
                  refine FA.all1 (i := 13) (by kernel_rfl) ?_
                  ·
                    obtain ⟨w20073, cs20079, run20074, S20075, els20078, ce20080⟩ := S14475.putEls (P := Tryz.prog) (t := 3) (i := 0) rfl els7243 hput20077 pt19675 Tryz.sizeOf3 (u := Value.int .i64 x17279) (c := [Value.int .i64 x17279]) rfl rfl (ones_cons rfl ones_nil) rfl
                    have S20075 : St H0 w0 H14464 w20073 (.row 3 1 v0 n0 cs20079 :: L) := S20075
                    refine FO.act (l' := #[true, true, true, true, true, true, true, true, true, true, true, true, true, true, false, false]) rfl (by kernel_rfl) rfl rfl (E.store rfl rfl run20074) ?_
                    refine ⟨S20075.sl, ?_⟩
                    refine FA.all1 (i := 14) (by kernel_rfl) ?_
                    ·
                      obtain ⟨p20473, cs20474, pt20475, l20476, at20477, rel20478⟩ := S20075.row_at (i := 0) rfl els20078 (by decide) hx20480
                      obtain rfl := eI_open rel20478
                      refine FO.val (l' := #[true, true, true, true, true, true, true, true, true, true, true, true, true, true, true, false]) rfl (by kernel_rfl) rfl rfl rfl (E.indexAddr te61 rfl rfl pt20475) ?_
                      refine ⟨S20075.sl, ?_⟩
                      refine FA.all1 (i := 15) (by kernel_rfl) ?_
                      ·
                        obtain ⟨w20873, cs20879, run20874, S20875, els20878, ce20880⟩ := S20075.putEls (P := Tryz.prog) (t := 3) (i := 0) rfl els20078 hput20877 pt20475 Tryz.sizeOf3 (u := Value.int .i64 x18879) (c := [Value.int .i64 x18879]) rfl rfl (ones_cons rfl ones_nil) rfl
                        have S20875 : St H0 w0 H14464 w20873 (.row 3 1 v0 n0 cs20879 :: L) := S20875
                        refine FO.act (l' := #[true, true, true, true, true, true, true, true, true, true, true, true, true, true, true, true]) rfl (by kernel_rfl) rfl rfl (E.store rfl rfl run20874) ?_
                        refine ⟨S20875.sl, ?_⟩
                        exact FA.done (by kernel_rfl) ⟨_, _, S20875, (Inc.rfl _), els20878, k14469, k14470, k14471⟩
            ·
              refine FO.val (l' := #[true, true, true, true, true, true, true, false, true, true, true, true, false, false, false, false]) rfl (by kernel_rfl) rfl rfl rfl (E.load rfl (run_load0 Tryz.isAgg3 at18877 rfl)) ?_
              refine ⟨S14475.sl, ?_⟩
              refine FA.all1 (i := 7) (by kernel_rfl) ?_
              ·
                refine FO.val (l' := #[true, true, true, true, true, true, true, true, true, true, true, true, false, false, false, false]) rfl (by kernel_rfl) rfl rfl rfl (E.load rfl (run_load0 Tryz.isAgg3 at17277 rfl)) ?_
                refine ⟨S14475.sl, ?_⟩
                refine FA.all1 (i := 12) (by kernel_rfl) ?_
                ·
                  obtain ⟨p19673, cs19674, pt19675, l19676, at19677, rel19678⟩ := S14475.row_at (i := 0) rfl els7243 (by decide) hx19680
                  obtain rfl := eI_open rel19678
                  refine FO.val (l' := #[true, true, true, true, true, true, true, true, true, true, true, true, true, false, false, false]) rfl (by kernel_rfl) rfl rfl rfl (E.indexAddr te61 rfl rfl pt19675) ?_
                  refine ⟨S14475.sl, ?_⟩
                  refine FA.all1 (i := 13) (by kernel_rfl) ?_
                  ·
                    obtain ⟨w20073, cs20079, run20074, S20075, els20078, ce20080⟩ := S14475.putEls (P := Tryz.prog) (t := 3) (i := 0) rfl els7243 hput20077 pt19675 Tryz.sizeOf3 (u := Value.int .i64 x17279) (c := [Value.int .i64 x17279]) rfl rfl (ones_cons rfl ones_nil) rfl
                    have S20075 : St H0 w0 H14464 w20073 (.row 3 1 v0 n0 cs20079 :: L) := S20075
                    refine FO.act (l' := #[true, true, true, true, true, true, true, true, true, true, true, true, true, true, false, false]) rfl (by kernel_rfl) rfl rfl (E.store rfl rfl run20074) ?_
                    refine ⟨S20075.sl, ?_⟩
                    refine FA.all1 (i := 14) (by kernel_rfl) ?_
                    ·
                      obtain ⟨p20473, cs20474, pt20475, l20476, at20477, rel20478⟩ := S20075.row_at (i := 0) rfl els20078 (by decide) hx20480
                      obtain rfl := eI_open rel20478
                      refine FO.val (l' := #[true, true, true, true, true, true, true, true, true, true, true, true, true, true, true, false]) rfl (by kernel_rfl) rfl rfl rfl (E.indexAddr te61 rfl rfl pt20475) ?_
                      refine ⟨S20075.sl, ?_⟩
                      refine FA.all1 (i := 15) (by kernel_rfl) ?_
                      ·
                        obtain ⟨w20873, cs20879, run20874, S20875, els20878, ce20880⟩ := S20075.putEls (P := Tryz.prog) (t := 3) (i := 0) rfl els20078 hput20877 pt20475 Tryz.sizeOf3 (u := Value.int .i64 x18879) (c := [Value.int .i64 x18879]) rfl rfl (ones_cons rfl ones_nil) rfl
                        have S20875 : St H0 w0 H14464 w20873 (.row 3 1 v0 n0 cs20879 :: L) := S20875
                        refine FO.act (l' := #[true, true, true, true, true, true, true, true, true, true, true, true, true, true, true, true]) rfl (by kernel_rfl) rfl rfl (E.store rfl rfl run20874) ?_
                        refine ⟨S20875.sl, ?_⟩
                        exact FA.done (by kernel_rfl) ⟨_, _, S20875, (Inc.rfl _), els20878, k14469, k14470, k14471⟩
          ·
            refine FO.val (l' := #[true, true, true, true, true, true, false, false, true, true, true, true, false, false, false, false]) rfl (by kernel_rfl) rfl rfl rfl (E.load rfl (run_load0 Tryz.isAgg3 at18877 rfl)) ?_
            refine ⟨S14475.sl, ?_⟩
            refine FA.all1 (i := 6) (by kernel_rfl) ?_
            ·
              obtain ⟨p17273, cs17274, pt17275, l17276, at17277, rel17278⟩ := S14475.row_at (i := 0) rfl els7243 (by decide) hx17280
              obtain rfl := eI_open rel17278
              refine FO.val (l' := #[true, true, true, true, true, true, true, false, true, true, true, true, false, false, false, false]) rfl (by kernel_rfl) rfl rfl rfl (E.indexAddr te61 rfl rfl pt17275) ?_
              refine ⟨S14475.sl, ?_⟩
              refine FA.all1 (i := 7) (by kernel_rfl) ?_
              ·
                refine FO.val (l' := #[true, true, true, true, true, true, true, true, true, true, true, true, false, false, false, false]) rfl (by kernel_rfl) rfl rfl rfl (E.load rfl (run_load0 Tryz.isAgg3 at17277 rfl)) ?_
                refine ⟨S14475.sl, ?_⟩
                refine FA.all1 (i := 12) (by kernel_rfl) ?_
                ·
                  obtain ⟨p19673, cs19674, pt19675, l19676, at19677, rel19678⟩ := S14475.row_at (i := 0) rfl els7243 (by decide) hx19680
                  obtain rfl := eI_open rel19678
                  refine FO.val (l' := #[true, true, true, true, true, true, true, true, true, true, true, true, true, false, false, false]) rfl (by kernel_rfl) rfl rfl rfl (E.indexAddr te61 rfl rfl pt19675) ?_
                  refine ⟨S14475.sl, ?_⟩
                  refine FA.all1 (i := 13) (by kernel_rfl) ?_
                  ·
                    obtain ⟨w20073, cs20079, run20074, S20075, els20078, ce20080⟩ := S14475.putEls (P := Tryz.prog) (t := 3) (i := 0) rfl els7243 hput20077 pt19675 Tryz.sizeOf3 (u := Value.int .i64 x17279) (c := [Value.int .i64 x17279]) rfl rfl (ones_cons rfl ones_nil) rfl
                    have S20075 : St H0 w0 H14464 w20073 (.row 3 1 v0 n0 cs20079 :: L) := S20075
                    refine FO.act (l' := #[true, true, true, true, true, true, true, true, true, true, true, true, true, true, false, false]) rfl (by kernel_rfl) rfl rfl (E.store rfl rfl run20074) ?_
                    refine ⟨S20075.sl, ?_⟩
                    refine FA.all1 (i := 14) (by kernel_rfl) ?_
                    ·
                      obtain ⟨p20473, cs20474, pt20475, l20476, at20477, rel20478⟩ := S20075.row_at (i := 0) rfl els20078 (by decide) hx20480
                      obtain rfl := eI_open rel20478
                      refine FO.val (l' := #[true, true, true, true, true, true, true, true, true, true, true, true, true, true, true, false]) rfl (by kernel_rfl) rfl rfl rfl (E.indexAddr te61 rfl rfl pt20475) ?_
                      refine ⟨S20075.sl, ?_⟩
                      refine FA.all1 (i := 15) (by kernel_rfl) ?_
                      ·
                        obtain ⟨w20873, cs20879, run20874, S20875, els20878, ce20880⟩ := S20075.putEls (P := Tryz.prog) (t := 3) (i := 0) rfl els20078 hput20877 pt20475 Tryz.sizeOf3 (u := Value.int .i64 x18879) (c := [Value.int .i64 x18879]) rfl rfl (ones_cons rfl ones_nil) rfl
                        have S20875 : St H0 w0 H14464 w20873 (.row 3 1 v0 n0 cs20879 :: L) := S20875
                        refine FO.act (l' := #[true, true, true, true, true, true, true, true, true, true, true, true, true, true, true, true]) rfl (by kernel_rfl) rfl rfl (E.store rfl rfl run20874) ?_
                        refine ⟨S20875.sl, ?_⟩
                        exact FA.done (by kernel_rfl) ⟨_, _, S20875, (Inc.rfl _), els20878, k14469, k14470, k14471⟩
      ·
        rintro f21680 w21679 ⟨H21676, cs21673, S21677, i21678, els21674, k21681, k21682, k21683⟩
        refine FW.region ?_
        refine FL.val rfl rfl rfl (E.move k21682) ?_
        refine FL.val rfl rfl rfl (E.add rfl rfl) ?_
        refine FL.val rfl rfl rfl (E.move k21683) ?_
        refine FL.val rfl rfl rfl (E.sub rfl rfl) ?_
        refine FL.val rfl rfl rfl (E.assign (v := Value.int .i64 (wr (s21.2.1 + 1))) rfl) ?_
        refine FL.val rfl rfl rfl (E.assign (v := Value.int .i64 (wr (s21.2.2 - 1))) rfl) ?_
        refine FL.nil ?_
        obtain rfl := Option.some.inj hp
        exact ⟨rfl, ⟨_, _, S21677, (i14466.tr i21678), els21674, k21681, rfl, rfl⟩⟩
    ·
      refine FW.condF rfl c14472 ?_
      refine FW.exit ?_
      obtain rfl := Option.some.inj hp
      exact ⟨nofun, rfl, ⟨_, _, S14465, i14466, els7243⟩⟩
  ·
    clear hq
    intro e f21689 w21688 hD
    rcases q21 with s21 | x21
    ·
      obtain ⟨rfl, hD⟩ := hD
      obtain ⟨H21685, cs7242, S21686, i21687, els7243⟩ := hD
      replace hp := el_go hp
      obtain rfl := Option.some.inj hp
      exact ⟨.inl rfl, res0 rfl ⟨_, _, rfl, ⟨S21686, i21687⟩, els7243⟩⟩
    · exact x21.elim

@[reducible] def p_impl_neededSteps (Ha : GH) (wa : World) (r : (List Int)) : Ending → World → Prop :=
  fun e w' => ∃ H' : GH, ∃ v0 : Value, ∃ n0 : Nat, ∃ c0 : List Value, e = .returned (v0) ∧ St Ha wa H' w' [.row 3 1 v0 n0 c0] ∧ Els (up wa.heap.size H') eI 1 c0 r
theorem w_impl_neededSteps {Ha : GH} {wa : World} (hs : Sl Ha wa) (v0 : Value) (a0 : List ResStep) (p0 : RSl Ha eResStep 4 v0 a0) {r : (List Int)} (hp : (PF.impl_neededSteps a0) = some r) :
    Calls Tryz.prog 120 #[v0] wa (p_impl_neededSteps Ha wa r) := by
  unfold PF.impl_neededSteps at hp
  have S0 := St.init hs
  refine calls_goM (N := 46) (args := [v0]) Tryz.func120 rfl rfl rfl ?_
  refine FT.seq ?_
  refine FW.region ?_
  obtain ⟨b21, w22, run23, S24⟩ := S0.box (P := Tryz.prog) 41 [v0] (v := v0) p0.cells (ones_cons p0.one ones_nil)
  refine FL.val rfl rfl rfl (E.box rfl run23) ?_
  obtain ⟨H25, S26, i27, at28⟩ := S24.sealBox (i := 0) (l' := []) rfl rfl
  refine FL.val rfl rfl rfl (E.assign (v := Value.slice none 0 0) rfl) ?_
  refine FL.nil ?_
  refine FT.seq ?_
  refine FW.region ?_
  refine FL.val rfl rfl rfl (E.load rfl (run_load0 Tryz.isAgg41 (at28.now S26.sl) rfl)) ?_
  refine FL.val rfl rfl rfl (E.lenP te41 rfl p0) ?_
  obtain ⟨xs29, hm30, hp⟩ := bnd hp
  obtain ⟨v31, w32, n36, cs37, run33, S34, els35, hbl38⟩ := S26.makeEls (P := Tryz.prog) te128 (G := (up wa.heap.size H25)) (En := eB) (x0 := false) hm30 rfl (ones_cons rfl ones_nil) .i64 .i64
  refine FL.val rfl rfl rfl (E.makeSlice rfl rfl run33) ?_
  obtain ⟨b39, w40, run41, S42⟩ := S34.alloc (P := Tryz.prog) 128 [Value.slice none 0 0] Tryz.zeroValue128 rfl (ones_cons rfl ones_nil)
  refine FL.val rfl rfl rfl (E.alloc run41) ?_
  obtain ⟨w43, run44, S45⟩ := S42.store0 (P := Tryz.prog) (t := 128) (i := 0) (cs' := [v31]) (l' := [.box b39 128 [v31], .row 4 1 v31 n36 cs37]) (v := v31) (c := [v31]) rfl Tryz.sizeOf128 (Ln.cells (S42.row_ln (i := 1) rfl)) rfl (ones_cons (Ln.one (S42.row_ln (i := 1) rfl)) ones_nil) (Nat.le_of_ble_eq_true rfl) rfl rfl
  refine FL.act rfl rfl (E.store rfl rfl run44) ?_
  refine FL.nil ?_
  refine FT.seq ?_
  refine FW.region ?_
  have S50 := S45.nil 3 1
  have els51 : Els (up wa.heap.size H25) eI 1 [] [] := Els.nil
  obtain ⟨b46, w47, run48, S49⟩ := S50.alloc (P := Tryz.prog) 61 [Value.slice none 0 0] Tryz.zeroValue61 rfl (ones_cons rfl ones_nil)
  refine FL.val rfl rfl rfl (E.alloc run48) ?_
  refine FL.nil ?_
  refine FT.seqT ?_
  refine FT.seq ?_
  refine FW.region ?_
  refine FL.val rfl rfl rfl (E.load rfl (run_load0 Tryz.isAgg41 (at28.now S49.sl) rfl)) ?_
  refine FL.call rfl rfl rfl (E.call Tryz.call168 (A1 rfl)) (w_back168 S49.sl v0 a0 (p0.mono i27)) ?_
  rintro e w53 ⟨H52, b55, rfl, r56, at57⟩
  refine ⟨_, rfl, ?_⟩
  have S54 := S49.call r56
  refine FL.nil ?_
  obtain ⟨q58, hq, hp⟩ := bndR hp
  obtain ⟨L58, hL58, hA58⟩ := back_list (p0.mono (i27.tr r56.inc)) (fun cs => Value.agg cs.toArray)
  replace hq := forB_eq hq hL58
  refine FT.range (S := ((List Int) × (List Bool))) (X := Empty) (Hs := H52) (L := L58) (pj := Prod.snd) rfl Tryz.call209 (w_iter209 at57 (p0.mono (i27.tr r56.inc)) L58 hL58 hA58) rfl (fun _ => rfl) (fun (T58 : List MO) (s58 : ((List Int) × (List Bool))) (w : World) => ∃ H : GH, ∃ v263 : Value, ∃ n264 : Nat, ∃ cs265 : List Value, ∃ v267 : Value, ∃ n268 : Nat, ∃ cs269 : List Value, St Ha wa H w (.box b46 61 [v263] :: .row 3 1 v263 n264 cs265 :: .box b39 128 [v267] :: .row 4 1 v267 n268 cs269 :: T58) ∧ Inc H52 H ∧ Els (up wa.heap.size H) eI 1 cs265 s58.1 ∧ Els (up wa.heap.size H) eB 1 cs269 s58.2) (fun _ _ _ => False) (fun s58 T58 w ⟨H, v263, n264, cs265, v267, n268, cs269, S, i0, f0, f1⟩ => ⟨H, [.box b46 61 [v263], .row 3 1 v263 n264 cs265, .box b39 128 [v267], .row 4 1 v267 n268 cs269], S, i0, fun T2 w2 S2 => ⟨H, v263, n264, cs265, v267, n268, cs269, S2, i0, f0, f1⟩⟩) (fun x => x.elim) ⟨_, _, _, _, _, _, _, S54, (Inc.rfl _), (els51.mono (up_mono r56.inc)), (els35.mono (up_mono r56.inc))⟩ hq ?_ ?_ (fun _ x => x.elim)
  ·
    clear hp hq
    rintro l58 i58 T58 T58' ⟨u58, y58, j58⟩ s58 w478 o58 ha58 ⟨H475, v263, n264, cs265, v267, n268, cs269, S476, i477, els266, els270⟩ hp
    replace hp : bd (ix s58.2 ((j58 : Nat) : Int)) (fun x505 => (bif (bif (!x505) then (decide (((j58 : Nat) : Int) < (wr ((len a0) - 1)))) else false) then some (Lp.nx (s58.1, s58.2)) else bd (app s58.1 [((j58 : Nat) : Int)]) (fun xs526 => bd (chk (len (PF.impl_ResStep_premises y58))) (fun m548 => bdR (forR (S := (List Bool)) (X := Empty) 0 m548 (fun i549 s549 => bd (ix (PF.impl_ResStep_premises y58) ((i549 : Nat) : Int)) (fun x641 => bd (ix s549 x641) (fun x649 => bd (put s549 x641 true) (fun xs654 => some (Lp.nx xs654))))) s58.2) (fun s549 => some (Lp.nx (xs526, s549))) (fun x549 => nomatch x549))))) = some o58 := hp
    obtain ⟨l483, _, cs482, _, _, _, rel480, hu481⟩ := hA58 i58 _ ha58
    replace rel480 : eResStep.rel H52 cs482 y58 := rel480
    obtain ⟨v484, rfl, h485⟩ := eResStep_open rel480
    replace hu481 : u58 = Value.agg #[v484, Value.int .i64 y58.left, Value.int .i64 y58.right, Value.int .i64 y58.pivot] := hu481
    subst hu481
    change FW (ρ := some l58) (δ := []) Tryz.prog 46 _ _ (upd (upd _ 14 (Value.int .i64 ((j58 : Nat) : Int))) 15 (Value.agg #[v484, Value.int .i64 y58.left, Value.int .i64 y58.right, Value.int .i64 y58.pivot])) _
    refine FW.seq ?_
    refine FW.region ?_
    refine FL.val rfl rfl rfl (E.assign (v := Value.int .i64 ((j58 : Nat) : Int)) rfl) ?_
    refine FL.nil ?_
    refine FW.region ?_
    obtain ⟨b486, w487, run488, S489⟩ := S476.alloc (P := Tryz.prog) 103 [Value.slice none 0 0, Value.int .i64 0, Value.int .i64 0, Value.int .i64 0] Tryz.zeroValue103 rfl (ones_cons rfl (ones_cons rfl (ones_cons rfl (ones_cons rfl ones_nil))))
    refine FL.val rfl rfl rfl (E.alloc run488) ?_
    obtain ⟨w490, run491, S492⟩ := S489.store0 (P := Tryz.prog) (t := 103) (i := 0) (cs' := [v484, Value.int .i64 y58.left, Value.int .i64 y58.right, Value.int .i64 y58.pivot]) (l' := (.box b486 103 [v484, Value.int .i64 y58.left, Value.int .i64 y58.right, Value.int .i64 y58.pivot] :: .box b46 61 [v263] :: .row 3 1 v263 n264 cs265 :: .box b39 128 [v267] :: .row 4 1 v267 n268 cs269 :: T58)) (v := Value.agg #[v484, Value.int .i64 y58.left, Value.int .i64 y58.right, Value.int .i64 y58.pivot]) (c := [v484, Value.int .i64 y58.left, Value.int .i64 y58.right, Value.int .i64 y58.pivot]) rfl Tryz.sizeOf103 rfl rfl (ones_cons h485.one (ones_cons rfl (ones_cons rfl (ones_cons rfl ones_nil)))) (Nat.le_of_ble_eq_true rfl) rfl rfl
    refine FL.act rfl rfl (E.store rfl rfl run491) ?_
    obtain ⟨H493, S494, i495, at496⟩ := S492.sealBox (i := 0) (l' := (.box b46 61 [v263] :: .row 3 1 v263 n264 cs265 :: .box b39 128 [v267] :: .row 4 1 v267 n268 cs269 :: T58)) rfl rfl
    refine FL.nil ?_
    refine ⟨rfl, _, [.box b46 61 [v263], .row 3 1 v263 n264 cs265, .box b39 128 [v267], .row 4 1 v267 n268 cs269], S494, ?_⟩
    intro w497 S498
    replace S498 : St Ha wa H493 w497 (.box b46 61 [v263] :: .row 3 1 v263 n264 cs265 :: .box b39 128 [v267] :: .row 4 1 v267 n268 cs269 :: T58') := S498
    refine FW.block ?_
    refine FW.seq ?_
    refine FW.seq ?_
    refine FW.region ?_
    refine FL.val rfl rfl rfl (E.load rfl (run_load0 Tryz.isAgg128 (S498.box_now (i := 2) rfl) rfl)) ?_
    refine FL.val rfl rfl rfl (E.move (v := Value.int .i64 ((j58 : Nat) : Int)) rfl) ?_
    obtain ⟨x505, hx506, hp⟩ := bnd hp
    obtain ⟨p499, cs500, pt501, l502, at503, rel504⟩ := S498.row_at (i := 3) rfl els270 (by decide) hx506
    obtain rfl := eB_open rel504
    refine FL.val rfl rfl rfl (E.indexAddr te128 rfl rfl pt501) ?_
    refine FL.val rfl rfl rfl (E.load rfl (run_load0 Tryz.isAgg4 at503 rfl)) ?_
    refine FL.val rfl rfl rfl (E.not rfl) ?_
    refine FL.val rfl rfl rfl (E.move (v := Value.bool (!x505)) rfl) ?_
    refine FL.cut 6 (fun f w => ∃ H : GH, St Ha wa H w (.box b46 61 [v263] :: .row 3 1 v263 n264 cs265 :: .box b39 128 [v267] :: .row 4 1 v267 n268 cs269 :: T58') ∧ Inc H493 H ∧ f 1 = Value.pointer (some ⟨b21, 0, none⟩) ∧ f 3 = Value.pointer (some (⟨b39, 0, none⟩ : Addr)) ∧ f 4 = Value.pointer (some (⟨b46, 0, none⟩ : Addr)) ∧ f 5 = Value.int .i64 ((j58 : Nat) : Int) ∧ f 6 = Value.pointer (some ⟨b486, 0, none⟩) ∧ f 27 = Value.bool (bif (!x505) then (decide (((j58 : Nat) : Int) < (wr ((len a0) - 1)))) else false)) ?_ ?_
    ·
      rcases bcase (!x505) with c513 | c513
      ·
        refine FL.val (wF_yes rfl rfl rfl c513) rfl rfl (E.move (v := Value.int .i64 ((j58 : Nat) : Int)) rfl) ?_
        refine FL.val (wF_yes rfl rfl rfl c513) rfl rfl (E.load rfl (run_load0 Tryz.isAgg41 ((at28.mono ((r56.inc.tr i477).tr i495)).now S498.sl) rfl)) ?_
        refine FL.val (wF_yes rfl rfl rfl c513) rfl rfl (E.lenP te41 rfl p0) ?_
        refine FL.val (wF_yes rfl rfl rfl c513) rfl rfl (E.sub rfl rfl) ?_
        refine FL.val (wF_yes rfl rfl rfl c513) rfl rfl (E.lss rfl rfl) ?_
        refine FL.val rfl rfl rfl (E.pickT rfl c513 rfl) ?_
        exact FL.nil ⟨rfl, _, S498, (Inc.rfl _), rfl, rfl, rfl, rfl, rfl, (congrArg Value.bool (bifT c513).symm)⟩
      ·
        refine FL.skip (wF_no rfl rfl rfl c513) rfl ?_
        refine FL.skip (wF_no rfl rfl rfl c513) rfl ?_
        refine FL.skip (wF_no rfl rfl rfl c513) rfl ?_
        refine FL.skip (wF_no rfl rfl rfl c513) rfl ?_
        refine FL.skip (wF_no rfl rfl rfl c513) rfl ?_
        refine FL.val rfl rfl rfl (E.pickF rfl c513 rfl) ?_
        exact FL.nil ⟨rfl, _, S498, (Inc.rfl _), rfl, rfl, rfl, rfl, rfl, (congrArg Value.bool (bifF c513).symm)⟩
    rintro f512 w511 ⟨H508, S509, i510, k514, k515, k516, k517, k518, k519⟩
    refine FL.nil ?_
    rcases ifB hp with ⟨c520, hp⟩ | ⟨c520, hp⟩
    ·
      refine FW.condT k519 c520 ?_
      refine FW.exit ?_
      obtain rfl := Option.some.inj hp
      exact ⟨rfl, ⟨_, _, _, _, _, _, _, S509, ((i477.tr i495).tr i510), (els266.mono (up_mono (i495.tr i510))), (els270.mono (up_mono (i495.tr i510)))⟩⟩
    ·
      refine FW.condF k519 c520 ?_
      refine FW.skip ?_
      refine FW.seq ?_
      refine FW.region ?_
      refine FL.val rfl rfl rfl (E.load k516 (run_load0 Tryz.isAgg61 (S509.box_now (i := 0) rfl) rfl)) ?_
      refine FL.val rfl rfl rfl (E.move k517) ?_
      obtain ⟨v521, w522, run523, S524⟩ := S509.buildSlice (P := Tryz.prog) te61 [Value.int .i64 ((j58 : Nat) : Int)] (parts := #[(0, Value.int .i64 ((j58 : Nat) : Int))]) (cells := [Value.int .i64 ((j58 : Nat) : Int)]) rfl (szs_cons rfl szs_nil) (fc_cons rfl fc_nil) (ones_cons rfl ones_nil) (Nat.le_of_ble_eq_true rfl)
      have els525 : Els (up wa.heap.size H508) eI 1 [Value.int .i64 ((j58 : Nat) : Int)] [((j58 : Nat) : Int)] := (Els.snoc (H := (up wa.heap.size H508)) (E := eI) (k := 1) (c := [Value.int .i64 ((j58 : Nat) : Int)]) (x := ((j58 : Nat) : Int)) Els.nil rfl rfl)
      refine FL.val rfl rfl rfl (E.buildSlice (B1 rfl) run523) ?_
      obtain ⟨xs526, hz527, hp⟩ := bnd hp
      obtain ⟨v528, w531, n529, cs530, run532, S533, els534, ce535⟩ := S524.appendO (P := Tryz.prog) te61 (i := 2) (j := 0) rfl (els266.mono (up_mono (i495.tr i510))) rfl els525 hz527
      have S533 : St Ha wa H508 w531 (.row 3 1 v521 1 [Value.int .i64 ((j58 : Nat) : Int)] :: .box b46 61 [v263] :: .row 3 1 v528 n529 cs530 :: .box b39 128 [v267] :: .row 4 1 v267 n268 cs269 :: T58') := S533
      have S536 : St Ha wa H508 w531 (.box b46 61 [v263] :: .row 3 1 v528 n529 cs530 :: .box b39 128 [v267] :: .row 4 1 v267 n268 cs269 :: T58') := S533.drop 0
      refine FL.val rfl rfl rfl (E.append rfl rfl run532) ?_
      obtain ⟨w537, run538, S539⟩ := S536.store0 (P := Tryz.prog) (t := 61) (i := 0) (cs' := [v528]) (l' := (.box b46 61 [v528] :: .row 3 1 v528 n529 cs530 :: .box b39 128 [v267] :: .row 4 1 v267 n268 cs269 :: T58')) (v := v528) (c := [v528]) rfl Tryz.sizeOf61 (Ln.cells (S536.row_ln (i := 1) rfl)) rfl (ones_cons (Ln.one (S536.row_ln (i := 1) rfl)) ones_nil) (Nat.le_of_ble_eq_true rfl) rfl rfl
      refine FL.act rfl rfl (E.store k516 rfl run538) ?_
      refine FL.nil ?_
      refine FW.seq ?_
      refine FW.region ?_
      refine FL.val rfl rfl rfl (E.load k518 (run_loadA Tryz.isAgg103 Tryz.sizeOf103 ((at496.mono i510).now S539.sl) rfl)) ?_
      refine FL.call rfl rfl rfl (E.call Tryz.call112 (A1 rfl)) (w_impl_ResStep_premises S539.sl y58 v484 (h485.mono ((i477.tr i495).tr i510))) ?_
      rintro e w541 ⟨H540, v544, n545, cs546, rfl, r543, els547⟩
      refine ⟨_, rfl, ?_⟩
      have els547 := els547.mono (up_le S539.size)
      have S542 := S539.join (l' := (.row 3 1 v544 n545 cs546 :: .box b46 61 [v528] :: .row 3 1 v528 n529 cs530 :: .box b39 128 [v267] :: .row 4 1 v267 n268 cs269 :: T58')) r543 rfl
      refine FL.val rfl rfl rfl (E.lenO te61 rfl S542 (i := 0) rfl els547 (by decide)) ?_
      refine FL.val rfl rfl rfl (E.move (v := Value.int .i64 0) rfl) ?_
      refine FL.nil ?_
      obtain ⟨m548, hchk549, hp⟩ := bnd hp
      obtain ⟨q549, hq, hp⟩ := bndR hp
      refine FW.block ?_
      refine FW.mono (FW.forR (S := (List Bool)) (X := Empty) (fun (i549 : Nat) (s549 : (List Bool)) f w => ∃ H : GH, ∃ v585 : Value, ∃ n586 : Nat, ∃ cs587 : List Value, St Ha wa H w (.row 3 1 v544 n545 cs546 :: .box b46 61 [v528] :: .row 3 1 v528 n529 cs530 :: .box b39 128 [v585] :: .row 4 1 v585 n586 cs587 :: T58') ∧ Inc H540 H ∧ Els (up wa.heap.size H) eB 1 cs587 s549 ∧ f 35 = Value.int .i64 ((i549 : Nat) : Int) ∧ f 1 = Value.pointer (some ⟨b21, 0, none⟩) ∧ f 3 = Value.pointer (some (⟨b39, 0, none⟩ : Addr)) ∧ f 4 = Value.pointer (some (⟨b46, 0, none⟩ : Addr)) ∧ f 33 = v544 ∧ f 34 = Value.int .i64 (len (PF.impl_ResStep_premises y58))) (fun (q : Rs (List Bool) Empty) e f w => match q with | .go s549 => e = Exit.exit 2 ∧ (∃ H : GH, ∃ v585 : Value, ∃ n586 : Nat, ∃ cs587 : List Value, St Ha wa H w (.row 3 1 v544 n545 cs546 :: .box b46 61 [v528] :: .row 3 1 v528 n529 cs530 :: .box b39 128 [v585] :: .row 4 1 v585 n586 cs587 :: T58') ∧ Inc H540 H ∧ Els (up wa.heap.size H) eB 1 cs587 s549 ∧ f 1 = Value.pointer (some ⟨b21, 0, none⟩) ∧ f 3 = Value.pointer (some (⟨b39, 0, none⟩ : Addr)) ∧ f 4 = Value.pointer (some (⟨b46, 0, none⟩ : Addr))) | .rt x => x.elim) hq ⟨_, _, _, _, S542, (Inc.rfl _), (els270.mono (up_mono ((i495.tr i510).tr r543.run.inc))), rfl, k514, k515, k516, rfl, rfl⟩ ?_ ?_) ?_
      ·
        clear hp hq
        rintro i549 s549 f628 w627 ⟨H624, v585, n586, cs587, S625, i626, els588, k629, k630, k631, k632, k633, k634⟩ hi549 hj549 o659 hp
        refine FW.seq ?_
        refine FW.region ?_
        refine FL.val rfl rfl rfl (E.lssT k629 k634 (lss_chk hj549 hchk549)) ?_
        refine FL.nil ?_
        refine FW.seq ?_
        refine FW.condT rfl rfl ?_
        refine FW.skip ?_
        refine FW.seq ?_
        refine FW.block ?_
        refine FW.seq ?_
        refine FW.region ?_
        obtain ⟨x641, hx642, hp⟩ := bnd hp
        obtain ⟨p635, cs636, pt637, l638, at639, rel640⟩ := S625.row_at (i := 0) rfl els547 (by decide) hx642
        obtain rfl := eI_open rel640
        refine FL.val rfl rfl rfl (E.indexAddr te61 k633 k629 pt637) ?_
        refine FL.val rfl rfl rfl (E.load rfl (run_load0 Tryz.isAgg3 at639 rfl)) ?_
        refine FL.val rfl rfl rfl (E.assign (v := Value.int .i64 x641) rfl) ?_
        refine FL.nil ?_
        refine FW.region ?_
        refine FL.val rfl rfl rfl (E.load k631 (run_load0 Tryz.isAgg128 (S625.box_now (i := 3) rfl) rfl)) ?_
        refine FL.val rfl rfl rfl (E.move (v := Value.int .i64 x641) rfl) ?_
        obtain ⟨x649, hx650, hp⟩ := bnd hp
        obtain ⟨p643, cs644, pt645, l646, at647, rel648⟩ := S625.row_at (i := 4) rfl els588 (by decide) hx650
        obtain rfl := eB_open rel648
        refine FL.val rfl rfl rfl (E.indexAddr te128 rfl rfl pt645) ?_
        obtain ⟨xs654, hput655, hp⟩ := bnd hp
        obtain ⟨w651, cs657, run652, S653, els656, ce658⟩ := S625.putEls (P := Tryz.prog) (t := 4) (i := 4) rfl els588 hput655 pt645 Tryz.sizeOf4 (u := Value.bool true) (c := [Value.bool true]) rfl rfl (ones_cons rfl ones_nil) rfl
        have S653 : St Ha wa H624 w651 (.row 3 1 v544 n545 cs546 :: .box b46 61 [v528] :: .row 3 1 v528 n529 cs530 :: .box b39 128 [v585] :: .row 4 1 v585 n586 cs657 :: T58') := S653
        refine FL.act rfl rfl (E.store rfl rfl run652) ?_
        refine FL.nil ?_
        refine FW.region ?_
        refine FL.val rfl rfl rfl (E.add k629 rfl) ?_
        refine FL.val rfl rfl rfl (E.move (v := Value.int .i64 (wr (((i549 : Nat) : Int) + 1))) rfl) ?_
        refine FL.nil ?_
        obtain rfl := Option.some.inj hp
        exact ⟨rfl, ⟨_, _, _, _, S653, i626, els656, (nat_succ rfl hj549 (chk_le hchk549)), k630, k631, k632, k633, k634⟩⟩
      ·
        clear hp hq
        rintro s549 f672 w671 ⟨H668, v585, n586, cs587, S669, i670, els588, k673, k674, k675, k676, k677, k678⟩
        refine FW.seq ?_
        refine FW.region ?_
        refine FL.val rfl rfl rfl (E.lss k673 k678) ?_
        refine FL.nil ?_
        refine FW.seq ?_
        refine FW.condF rfl (dlt_maxchk hchk549) ?_
        refine FW.exit ?_
        exact ⟨nofun, rfl, ⟨_, _, _, _, S669, i670, els588, k674, k675, k676⟩⟩
      ·
        clear hq
        intro e f664 w663 hD
        rcases q549 with s549 | x549
        ·
          obtain ⟨rfl, hD⟩ := hD
          obtain ⟨H660, v585, n586, cs587, S661, i662, els588, k665, k666, k667⟩ := hD
          replace hp := el_go hp
          obtain rfl := Option.some.inj hp
          exact ⟨rfl, ⟨_, _, _, _, _, _, _, (S661.selT (a := [.row 3 1 v544 n545 cs546, .box b46 61 [v528], .row 3 1 v528 n529 cs530, .box b39 128 [v585], .row 4 1 v585 n586 cs587]) (l' := [.box b46 61 [v528], .row 3 1 v528 n529 cs530, .box b39 128 [v585], .row 4 1 v585 n586 cs587]) [1, 2, 3, 4] (by decide) rfl), ((((i477.tr i495).tr i510).tr r543.run.inc).tr i662), (els534.mono (up_mono (r543.run.inc.tr i662))), els588⟩⟩
        · exact x549.elim
  ·
    clear hq
    rintro D58 s58 rfl w682 ⟨H679, v263, n264, cs265, v267, n268, cs269, S680, i681, els266, els270⟩
    replace hp := el_go hp
    refine FT.then_ ?_
    refine FT.seq ?_
    refine FW.region ?_
    refine FL.val rfl rfl rfl (E.load rfl (run_load0 Tryz.isAgg61 (S680.box_now (i := 0) rfl) rfl)) ?_
    obtain ⟨r684, hr685, hp⟩ := bnd hp
    have S686 : St Ha wa H679 w682 (.row 3 1 v263 n264 cs265 :: .box b46 61 [v263] :: .box b39 128 [v267] :: .row 4 1 v267 n268 cs269 :: [.raw D58 (.deferred (some []))]) := S680.front 1 rfl rfl
    refine FL.call rfl rfl rfl (E.call Tryz.call169 (A1 rfl)) (w_slices_Reverse_int_int (L := (.box b46 61 [v263] :: .box b39 128 [v267] :: .row 4 1 v267 n268 cs269 :: [.raw D58 (.deferred (some []))])) S686 s58.1 els266 hr685) ?_
    rintro e w688 ⟨H687, cs691, rfl, ⟨S689, i690⟩, els692⟩
    refine ⟨_, rfl, ?_⟩
    have S689 : St Ha wa H687 w688 (.row 3 1 v263 n264 cs691 :: .box b46 61 [v263] :: .box b39 128 [v267] :: .row 4 1 v267 n268 cs269 :: [.raw D58 (.deferred (some []))]) := S689
    refine FL.nil ?_
    refine FT.seq ?_
    refine FW.region ?_
    refine FL.val rfl rfl rfl (E.load rfl (run_load0 Tryz.isAgg61 (S689.box_now (i := 1) rfl) rfl)) ?_
    refine FL.val rfl rfl rfl (E.assign (v := v263) rfl) ?_
    refine FL.nil ?_
    refine FT.last ?_
    refine FW.ret ?_
    have hD693 := St.shutAt (l := [.row 3 1 v263 n264 cs691, .box b46 61 [v263], .box b39 128 [v267], .row 4 1 v267 n268 cs269]) S689
    have S694 := St.shut (l := [.row 3 1 v263 n264 cs691, .box b46 61 [v263], .box b39 128 [v267], .row 4 1 v267 n268 cs269]) S689 (.deferred none)
    obtain rfl := Option.some.inj hp
    exact ends1 hD693 (res1 rfl rfl ⟨_, _, _, _, rfl, (S694.sel [0] (by decide) rfl), els692⟩) (.inr rfl)

@[reducible] def p_slices_Sort_int_int (H0 : GH) (w0 : World) (Ha : GH) (L : List MO) (v0 : Value) (n0 : Nat) (r : (List Int)) : Ending → World → Prop :=
  fun e w' => ∃ H' : GH, ∃ c0k : List Value, e = .returned (Value.tuple #[]) ∧ (St H0 w0 H' w' (.row 3 1 v0 n0 c0k :: L) ∧ Inc Ha H') ∧ Els (up w0.heap.size H') eI 1 c0k r
theorem w_slices_Sort_int_int {H0 Ha : GH} {w0 wa : World} {L : List MO} {v0 : Value} {n0 : Nat} {k0 : List Value} (S0 : St H0 w0 Ha wa (.row 3 1 v0 n0 k0 :: L)) (a0 : List Int) (p0 : Els (up w0.heap.size Ha) eI 1 k0 a0) {r : (List Int)} (hp : (PF.slices_Sort_int_int a0) = some r) :
    Calls Tryz.prog 113 #[v0] wa (p_slices_Sort_int_int H0 w0 Ha L v0 n0 r) := by
  refine (St.sortInts (l := .row 3 1 v0 n0 k0 :: L) (i := 0) S0 rfl p0 (fun p cap w => Any.slices_Sort_int_none Tryz.sint113 p cap w) (fun blk off cap zs w hH hb hs => Any.slices_Sort_int Tryz.sint113 blk off cap zs w hH hb hs) hp).mono ?_
  rintro e w' ⟨rfl, c', h1, h2⟩
  exact ⟨_, _, rfl, ⟨h1, Inc.rfl _⟩, h2⟩

@[reducible] def p_impl_UsedAxioms (Ha : GH) (wa : World) (r : ((List Int) × Bool)) : Ending → World → Prop :=
  fun e w' => ∃ H' : GH, ∃ v0 : Value, ∃ n0 : Nat, ∃ c0 : List Value, e = .returned (Value.tuple #[v0, Value.bool r.2]) ∧ St Ha wa H' w' [.row 3 1 v0 n0 c0] ∧ Els (up wa.heap.size H') eI 1 c0 r.1
theorem w_impl_UsedAxioms {Ha : GH} {wa : World} (hs : Sl Ha wa) (a0 : Cnf) (v0_1 : Value) (p0_1 : RSl Ha (eL eI 1) 1 v0_1 a0.clauses) (v1 : Value) (a1 : List ResStep) (p1 : RSl Ha eResStep 4 v1 a1) {r : ((List Int) × Bool)} (hp : (PF.impl_UsedAxioms a0 a1) = some r) :
    Calls Tryz.prog 57 #[Value.agg #[Value.int .i64 a0.vars, v0_1], v1] wa (p_impl_UsedAxioms Ha wa r) := by
  unfold PF.impl_UsedAxioms at hp
  have S0 := St.init hs
  refine calls_go (N := 38) (args := [Value.agg #[Value.int .i64 a0.vars, v0_1], v1]) Tryz.func57 rfl rfl rfl ?_
  refine FW.seq ?_
  refine FW.region ?_
  obtain ⟨b21, w22, run23, S24⟩ := S0.box (P := Tryz.prog) 30 [Value.int .i64 a0.vars, v0_1] (v := Value.agg #[Value.int .i64 a0.vars, v0_1]) rfl (ones_cons rfl (ones_cons p0_1.one ones_nil))
  refine FL.val rfl rfl rfl (E.box rfl run23) ?_
  obtain ⟨H25, S26, i27, at28⟩ := S24.sealBox (i := 0) (l' := []) rfl rfl
  refine FL.val rfl rfl rfl (E.assign (v := Value.slice none 0 0) rfl) ?_
  refine FL.val rfl rfl rfl (E.assign (v := Value.bool false) rfl) ?_
  refine FL.nil ?_
  refine FW.seq ?_
  refine FW.seq ?_
  refine FW.region ?_
  refine FL.val rfl rfl rfl (E.load rfl (run_loadA Tryz.isAgg30 Tryz.sizeOf30 (at28.now S26.sl) rfl)) ?_
  refine FL.val rfl rfl rfl (E.move (v := v1) rfl) ?_
  obtain ⟨r29, hr30, hp⟩ := bnd hp
  refine FL.call rfl rfl rfl (E.call Tryz.call110 (A2 rfl rfl)) (w_impl_IsDerivation S26.sl a0 v0_1 (p0_1.mono i27) v1 a1 (p1.mono i27) hr30) ?_
  rintro e w31 ⟨rfl, r32⟩
  refine ⟨_, rfl, ?_⟩
  have S33 := S26.call r32
  refine FL.val rfl rfl rfl (E.not rfl) ?_
  refine FL.nil ?_
  rcases ifB hp with ⟨c34, hp⟩ | ⟨c34, hp⟩
  ·
    refine FW.condT rfl c34 ?_
    refine FW.seq ?_
    refine FW.region ?_
    refine FL.val rfl rfl rfl (E.assign (v := Value.slice none 0 0) rfl) ?_
    refine FL.val rfl rfl rfl (E.assign (v := Value.bool false) rfl) ?_
    refine FL.nil ?_
    refine FW.ret ?_
    obtain rfl := Option.some.inj hp
    exact ⟨.inr rfl, res2 rfl rfl rfl ⟨_, _, _, _, rfl, (S33.nil 3 1), Els.nil⟩⟩
  ·
    refine FW.condF rfl c34 ?_
    refine FW.skip ?_
    refine FW.seq ?_
    refine FW.region ?_
    refine FL.val rfl rfl rfl (E.assign (v := Value.slice none 0 0) rfl) ?_
    refine FL.nil ?_
    refine FW.seq ?_
    refine FW.seq ?_
    refine FW.region ?_
    refine FL.val rfl rfl rfl (E.move (v := v1) rfl) ?_
    obtain ⟨r35, hr36, hp⟩ := bnd hp
    refine FL.call rfl rfl rfl (E.call Tryz.call120 (A1 rfl)) (w_impl_neededSteps S33.sl v1 a1 (p1.mono i27) hr36) ?_
    rintro e w38 ⟨H37, v41, n42, cs43, rfl, r40, els44⟩
    refine ⟨_, rfl, ?_⟩
    have els44 := els44.mono (up_le S33.size)
    have S39 := S33.join (l' := [.row 3 1 v41 n42 cs43]) r40 rfl
    refine FL.val rfl rfl rfl (E.lenO te61 rfl S39 (i := 0) rfl els44 (by decide)) ?_
    refine FL.val rfl rfl rfl (E.move (v := Value.int .i64 0) rfl) ?_
    refine FL.nil ?_
    obtain ⟨m45, hchk46, hp⟩ := bnd hp
    obtain ⟨q46, hq, hp⟩ := bndR hp
    refine FW.block ?_
    refine FW.mono (FW.forR (S := (List Int)) (X := Empty) (fun (i46 : Nat) (s46 : (List Int)) f w => ∃ H : GH, ∃ v47 : Value, ∃ n48 : Nat, ∃ cs49 : List Value, St Ha wa H w [.row 3 1 v41 n42 cs43, .row 3 1 v47 n48 cs49] ∧ Inc H37 H ∧ Els (up wa.heap.size H) eI 1 cs49 s46 ∧ f 16 = Value.int .i64 ((i46 : Nat) : Int) ∧ f 1 = v1 ∧ f 6 = v47 ∧ f 14 = v41 ∧ f 15 = Value.int .i64 (len r35)) (fun (q : Rs (List Int) Empty) e f w => match q with | .go s46 => e = Exit.exit 0 ∧ (∃ H : GH, ∃ v47 : Value, ∃ n48 : Nat, ∃ cs49 : List Value, St Ha wa H w [.row 3 1 v41 n42 cs43, .row 3 1 v47 n48 cs49] ∧ Inc H37 H ∧ Els (up wa.heap.size H) eI 1 cs49 s46 ∧ f 6 = v47) | .rt x => x.elim) hq ⟨_, _, _, _, ((S39.nil 3 1).sel [1, 0] (by decide) rfl), (Inc.rfl _), Els.nil, rfl, rfl, rfl, rfl, rfl⟩ ?_ ?_) ?_
    ·
      clear hp hq
      rintro i46 s46 f113 w112 ⟨H109, v47, n48, cs49, S110, i111, els50, k114, k115, k116, k117, k118⟩ hi46 hj46 o167 hp
      refine FW.seq ?_
      refine FW.region ?_
      refine FL.val rfl rfl rfl (E.lssT k114 k118 (lss_chk hj46 hchk46)) ?_
      refine FL.nil ?_
      refine FW.seq ?_
      refine FW.condT rfl rfl ?_
      refine FW.skip ?_
      refine FW.seq ?_
      refine FW.block ?_
      refine FW.seq ?_
      refine FW.region ?_
      obtain ⟨x125, hx126, hp⟩ := bnd hp
      obtain ⟨p119, cs120, pt121, l122, at123, rel124⟩ := S110.row_at (i := 0) rfl els44 (by decide) hx126
      obtain rfl := eI_open rel124
      refine FL.val rfl rfl rfl (E.indexAddr te61 k117 k114 pt121) ?_
      refine FL.val rfl rfl rfl (E.load rfl (run_load0 Tryz.isAgg3 at123 rfl)) ?_
      refine FL.val rfl rfl rfl (E.assign (v := Value.int .i64 x125) rfl) ?_
      refine FL.nil ?_
      refine FW.seq ?_
      refine FW.region ?_
      refine FL.val rfl rfl rfl (E.move k115) ?_
      refine FL.val rfl rfl rfl (E.move (v := Value.int .i64 x125) rfl) ?_
      obtain ⟨x133, hx134, hp⟩ := bnd hp
      obtain ⟨p127, cs128, pt129, l130, at131, rel132⟩ := p1.at hx134
      obtain ⟨v135, rfl, h136⟩ := eResStep_open rel132
      refine FL.val rfl rfl rfl (E.indexAddr te41 rfl rfl pt129) ?_
      refine FL.val rfl rfl rfl (E.load rfl (run_loadA Tryz.isAgg103 Tryz.sizeOf103 ((at131.mono ((i27.tr r40.run.inc).tr i111)).now S110.sl) rfl)) ?_
      refine FL.call rfl rfl rfl (E.call Tryz.call121 (A1 rfl)) (w_impl_ResStep_isAxiom S110.sl x133 v135 (h136.mono ((i27.tr r40.run.inc).tr i111))) ?_
      rintro e w137 ⟨rfl, r138⟩
      refine ⟨_, rfl, ?_⟩
      have S139 := S110.call r138
      refine FL.nil ?_
      rcases ifB hp with ⟨c140, hp⟩ | ⟨c140, hp⟩
      ·
        refine FW.condT rfl c140 ?_
        refine FW.region ?_
        refine FL.val rfl rfl rfl (E.move k116) ?_
        refine FL.val rfl rfl rfl (E.move k115) ?_
        refine FL.val rfl rfl rfl (E.move (v := Value.int .i64 x125) rfl) ?_
        obtain ⟨x147, hx148, hp⟩ := bnd hp
        obtain ⟨p141, cs142, pt143, l144, at145, rel146⟩ := p1.at hx148
        obtain ⟨v149, rfl, h150⟩ := eResStep_open rel146
        refine FL.val rfl rfl rfl (E.indexAddr te41 rfl rfl pt143) ?_
        refine FL.val rfl rfl rfl (E.fieldAddr tf103_2 rfl) ?_
        refine FL.val rfl rfl rfl (E.load rfl (run_load1 Tryz.isAgg3 ((at145.mono ((i27.tr r40.run.inc).tr i111)).now S139.sl) rfl)) ?_
        obtain ⟨v151, w152, run153, S154⟩ := S139.buildSlice (P := Tryz.prog) te61 [Value.int .i64 x147.right] (parts := #[(0, Value.int .i64 x147.right)]) (cells := [Value.int .i64 x147.right]) rfl (szs_cons rfl szs_nil) (fc_cons rfl fc_nil) (ones_cons rfl ones_nil) (Nat.le_of_ble_eq_true rfl)
        have els155 : Els (up wa.heap.size H109) eI 1 [Value.int .i64 x147.right] [x147.right] := (Els.snoc (H := (up wa.heap.size H109)) (E := eI) (k := 1) (c := [Value.int .i64 x147.right]) (x := x147.right) Els.nil rfl rfl)
        refine FL.val rfl rfl rfl (E.buildSlice (B1 rfl) run153) ?_
        obtain ⟨xs156, hz157, hp⟩ := bnd hp
        obtain ⟨v158, w161, n159, cs160, run162, S163, els164, ce165⟩ := S154.appendO (P := Tryz.prog) te61 (i := 2) (j := 0) rfl els50 rfl els155 hz157
        have S163 : St Ha wa H109 w161 [.row 3 1 v151 1 [Value.int .i64 x147.right], .row 3 1 v41 n42 cs43, .row 3 1 v158 n159 cs160] := S163
        have S166 : St Ha wa H109 w161 [.row 3 1 v41 n42 cs43, .row 3 1 v158 n159 cs160] := S163.drop 0
        refine FL.val rfl rfl rfl (E.append rfl rfl run162) ?_
        refine FL.val rfl rfl rfl (E.assign (v := v158) rfl) ?_
        refine FL.nil ?_
        refine FW.region ?_
        refine FL.val rfl rfl rfl (E.add k114 rfl) ?_
        refine FL.val rfl rfl rfl (E.move (v := Value.int .i64 (wr (((i46 : Nat) : Int) + 1))) rfl) ?_
        refine FL.nil ?_
        obtain rfl := Option.some.inj hp
        exact ⟨rfl, ⟨_, _, _, _, S166, i111, els164, (nat_succ rfl hj46 (chk_le hchk46)), k115, rfl, k117, k118⟩⟩
      ·
        refine FW.condF rfl c140 ?_
        refine FW.skip ?_
        refine FW.region ?_
        refine FL.val rfl rfl rfl (E.add k114 rfl) ?_
        refine FL.val rfl rfl rfl (E.move (v := Value.int .i64 (wr (((i46 : Nat) : Int) + 1))) rfl) ?_
        refine FL.nil ?_
        obtain rfl := Option.some.inj hp
        exact ⟨rfl, ⟨_, _, _, _, S139, i111, els50, (nat_succ rfl hj46 (chk_le hchk46)), k115, k116, k117, k118⟩⟩
    ·
      clear hp hq
      rintro s46 f197 w196 ⟨H193, v47, n48, cs49, S194, i195, els50, k198, k199, k200, k201, k202⟩
      refine FW.seq ?_
      refine FW.region ?_
      refine FL.val rfl rfl rfl (E.lss k198 k202) ?_
      refine FL.nil ?_
      refine FW.seq ?_
      refine FW.condF rfl (dlt_maxchk hchk46) ?_
      refine FW.exit ?_
      exact ⟨nofun, rfl, ⟨_, _, _, _, S194, i195, els50, k200⟩⟩
    ·
      clear hq
      intro e f172 w171 hD
      rcases q46 with s46 | x46
      ·
        obtain ⟨rfl, hD⟩ := hD
        obtain ⟨H168, v47, n48, cs49, S169, i170, els50, k173⟩ := hD
        replace hp := el_go hp
        refine FW.seq ?_
        refine FW.region ?_
        refine FL.val rfl rfl rfl (E.move k173) ?_
        obtain ⟨r174, hr175, hp⟩ := bnd hp
        have S176 : St Ha wa H168 w171 [.row 3 1 v47 n48 cs49, .row 3 1 v41 n42 cs43] := S169.front 1 rfl rfl
        refine FL.call rfl rfl rfl (E.call Tryz.call113 (A1 rfl)) (w_slices_Sort_int_int (L := [.row 3 1 v41 n42 cs43]) S176 s46 els50 hr175) ?_
        rintro e w178 ⟨H177, cs181, rfl, ⟨S179, i180⟩, els182⟩
        refine ⟨_, rfl, ?_⟩
        have S179 : St Ha wa H177 w178 [.row 3 1 v47 n48 cs181, .row 3 1 v41 n42 cs43] := S179
        refine FL.nil ?_
        refine FW.seq ?_
        refine FW.region ?_
        refine FL.val rfl rfl rfl (E.move k173) ?_
        obtain ⟨r183, hr184, hp⟩ := bnd hp
        refine FL.call rfl rfl rfl (E.call Tryz.call114 (A1 rfl)) (w_slices_Compact_int_int (L := [.row 3 1 v41 n42 cs43]) S179 r174 els182 hr184) ?_
        rintro e w186 ⟨H185, v189, n190, cs191, rfl, ⟨S187, i188⟩, els192⟩
        refine ⟨_, rfl, ?_⟩
        have S187 : St Ha wa H185 w186 [.row 3 1 v189 n190 cs191, .row 3 1 v41 n42 cs43] := S187
        refine FL.val rfl rfl rfl (E.assign (v := v189) rfl) ?_
        refine FL.val rfl rfl rfl (E.assign (v := Value.bool true) rfl) ?_
        refine FL.nil ?_
        refine FW.ret ?_
        obtain rfl := Option.some.inj hp
        exact ⟨.inr rfl, res2 rfl rfl rfl ⟨_, _, _, _, rfl, (S187.sel [0] (by decide) rfl), els192⟩⟩
      · exact x46.elim

theorem w_laws_eqIntS {Ha : GH} {wa : World} (hs : Sl Ha wa) (v0 : Value) (a0 : List Int) (p0 : RSl Ha eI 1 v0 a0) (v1 : Value) (a1 : List Int) (p1 : RSl Ha eI 1 v1 a1) {r : Bool} (hp : (PF.laws_eqIntS a0 a1) = some r) :
    Calls Tryz.prog 48 #[v0, v1] wa (Sc Ha wa (Value.bool r)) := by
  unfold PF.laws_eqIntS at hp
  have S0 := St.init hs
  refine calls_go (N := 26) (args := [v0, v1]) Tryz.func48 rfl rfl rfl ?_
  refine FW.seq ?_
  refine FW.region ?_
  refine FL.val rfl rfl rfl (E.assign (v := Value.bool false) rfl) ?_
  refine FL.nil ?_
  refine FW.seq ?_
  refine FW.seq ?_
  refine FW.region ?_
  refine FL.val rfl rfl rfl (E.move (v := v0) rfl) ?_
  refine FL.val rfl rfl rfl (E.lenP te61 rfl p0) ?_
  refine FL.val rfl rfl rfl (E.move (v := v1) rfl) ?_
  refine FL.val rfl rfl rfl (E.lenP te61 rfl p1) ?_
  refine FL.val rfl rfl rfl (E.neq rfl rfl) ?_
  refine FL.nil ?_
  rcases ifB hp with ⟨c21, hp⟩ | ⟨c21, hp⟩
  ·
    refine FW.condT rfl c21 ?_
    refine FW.seq ?_
    refine FW.region ?_
    refine FL.val rfl rfl rfl (E.assign (v := Value.bool false) rfl) ?_
    refine FL.nil ?_
    refine FW.ret ?_
    obtain rfl := Option.some.inj hp
    exact ⟨.inr rfl, res1 rfl rfl ⟨rfl, S0.back⟩⟩
  ·
    refine FW.condF rfl c21 ?_
    refine FW.skip ?_
    refine FW.seq ?_
    refine FW.seq ?_
    refine FW.region ?_
    refine FL.val rfl rfl rfl (E.assign (v := Value.int .i64 0) rfl) ?_
    refine FL.nil ?_
    obtain ⟨q23, hq, hp⟩ := bndR hp
    refine FW.block ?_
    refine FW.mono (FW.forL (S := Unit) (X := Bool) (fun (i23 : Nat) (s23 : Unit) f w => ∃ H : GH, St Ha wa H w [] ∧ Inc Ha H ∧ f 5 = Value.int .i64 ((i23 : Nat) : Int) ∧ f 0 = v0 ∧ f 1 = v1) (fun q e f w => match q with | .go s23 => e = Exit.exit 0 ∧ (∃ H : GH, St Ha wa H w [] ∧ Inc Ha H) | .rt x => ((e = Exit.ret) ∧ (fun e f w => (e = Exit.normal ∨ e = Exit.ret) ∧ ∀ a, Fr (δ := []) 26 a f → ∃ v, (results Tryz.f48 a.tmps).run Tryz.prog w = .ok v w ∧ (Sc Ha wa (Value.bool x)) (.returned v) w) e f w)) hq ⟨_, S0, (Inc.rfl _), rfl, rfl, rfl⟩ ?_ ?_) ?_
    ·
      clear hp hq
      rintro i23 y22 s23 f55 w54 ⟨H51, S52, i53, k56, k57, k58⟩ hx23 o78 hp
      refine FW.seq ?_
      refine FW.seq ?_
      refine FW.region ?_
      refine FL.val rfl rfl rfl (E.move k56) ?_
      refine FL.val rfl rfl rfl (E.move k57) ?_
      refine FL.val rfl rfl rfl (E.lenP te61 rfl p0) ?_
      refine FL.val rfl rfl rfl (E.lssT rfl rfl (lss_len hx23)) ?_
      refine FL.nil ?_
      refine FW.condT rfl rfl ?_
      refine FW.skip ?_
      refine FW.seq ?_
      refine FW.block ?_
      refine FW.seq ?_
      refine FW.draw (fun w' => Run w54.heap.size H51 w54 H51 w') (by kernel_rfl) (by kernel_rfl) (run_drew S52.sl) ?_
      refine FD.val rfl rfl rfl (fun w' hw' => (E.move k57)) ?_
      refine FD.val rfl rfl rfl (fun w' hw' => (E.move k56)) ?_
      obtain ⟨p60, cs61, pt62, l63, at64, rel65⟩ := p0.at (ix_nat hx23)
      obtain rfl := eI_open rel65
      refine FD.val rfl rfl rfl (fun w' hw' => (E.indexAddr te61 rfl rfl pt62)) ?_
      refine FD.val rfl rfl rfl (fun w' hw' => (E.load rfl (run_load0 Tryz.isAgg3 ((at64.mono i53).now (S52.call hw').sl) rfl))) ?_
      refine FD.val rfl rfl rfl (fun w' hw' => (E.move k58)) ?_
      refine FD.val rfl rfl rfl (fun w' hw' => (E.move k56)) ?_
      obtain ⟨x72, hx73, hp⟩ := bnd hp
      obtain ⟨p66, cs67, pt68, l69, at70, rel71⟩ := p1.at hx73
      obtain rfl := eI_open rel71
      refine FD.val rfl rfl rfl (fun w' hw' => (E.indexAddr te61 rfl rfl pt68)) ?_
      refine FD.val rfl rfl rfl (fun w' hw' => (E.load rfl (run_load0 Tryz.isAgg3 ((at70.mono i53).now (S52.call hw').sl) rfl))) ?_
      refine FD.val rfl rfl rfl (fun w' hw' => (E.neq rfl rfl)) ?_
      refine FD.nil ?_
      intro w74 r76
      have S75 := S52.call r76
      rcases ifB hp with ⟨c77, hp⟩ | ⟨c77, hp⟩
      ·
        refine FW.condT rfl c77 ?_
        refine FW.seq ?_
        refine FW.region ?_
        refine FL.val rfl rfl rfl (E.assign (v := Value.bool false) rfl) ?_
        refine FL.nil ?_
        refine FW.ret ?_
        obtain rfl := Option.some.inj hp
        exact ⟨nofun, rfl, ⟨.inr rfl, res1 rfl rfl ⟨rfl, S75.back⟩⟩⟩
      ·
        refine FW.condF rfl c77 ?_
        refine FW.skip ?_
        refine FW.region ?_
        refine FL.val rfl rfl rfl (E.move k56) ?_
        refine FL.val rfl rfl rfl (E.add rfl rfl) ?_
        refine FL.val rfl rfl rfl (E.assign (v := Value.int .i64 (wr (((i23 : Nat) : Int) + 1))) rfl) ?_
        refine FL.nil ?_
        obtain rfl := Option.some.inj hp
        exact ⟨rfl, ⟨_, S75, i53, (nat_succ rfl (lt_of_get hx23) (p0.mono i53).le), k57, k58⟩⟩
    ·
      clear hp hq
      rintro s23 f88 w87 ⟨H84, S85, i86, k89, k90, k91⟩
      refine FW.seq ?_
      refine FW.seq ?_
      refine FW.region ?_
      refine FL.val rfl rfl rfl (E.move k89) ?_
      refine FL.val rfl rfl rfl (E.move k90) ?_
      refine FL.val rfl rfl rfl (E.lenP te61 rfl p0) ?_
      refine FL.val rfl rfl rfl (E.lss rfl rfl) ?_
      refine FL.nil ?_
      refine FW.condF rfl dlt_len ?_
      refine FW.exit ?_
      exact ⟨nofun, rfl, ⟨_, S85, i86⟩⟩
    ·
      clear hq
      intro e f83 w82 hD
      rcases q23 with s23 | x23
      ·
        obtain ⟨rfl, hD⟩ := hD
        obtain ⟨H79, S80, i81⟩ := hD
        replace hp := el_go hp
        refine FW.seq ?_
        refine FW.region ?_
        refine FL.val rfl rfl rfl (E.assign (v := Value.bool true) rfl) ?_
        refine FL.nil ?_
        refine FW.ret ?_
        obtain rfl := Option.some.inj hp
        exact ⟨.inr rfl, res1 rfl rfl ⟨rfl, S80.back⟩⟩
      ·
        obtain ⟨he, hL⟩ := hD
        replace hp := el_rt hp
        obtain rfl := Option.some.inj hp
        subst he
        exact hL

theorem w_laws_eqIntSS {Ha : GH} {wa : World} (hs : Sl Ha wa) (v0 : Value) (a0 : List (List Int)) (p0 : RSl Ha (eL eI 1) 1 v0 a0) (v1 : Value) (a1 : List (List Int)) (p1 : RSl Ha (eL eI 1) 1 v1 a1) {r : Bool} (hp : (PF.laws_eqIntSS a0 a1) = some r) :
    Calls Tryz.prog 21 #[v0, v1] wa (Sc Ha wa (Value.bool r)) := by
  unfold PF.laws_eqIntSS at hp
  have S0 := St.init hs
  refine calls_go (N := 27) (args := [v0, v1]) Tryz.func21 rfl rfl rfl ?_
  refine FW.seq ?_
  refine FW.region ?_
  refine FL.val rfl rfl rfl (E.assign (v := Value.bool false) rfl) ?_
  refine FL.nil ?_
  refine FW.seq ?_
  refine FW.seq ?_
  refine FW.region ?_
  refine FL.val rfl rfl rfl (E.move (v := v0) rfl) ?_
  refine FL.val rfl rfl rfl (E.lenP te22 rfl p0) ?_
  refine FL.val rfl rfl rfl (E.move (v := v1) rfl) ?_
  refine FL.val rfl rfl rfl (E.lenP te22 rfl p1) ?_
  refine FL.val rfl rfl rfl (E.neq rfl rfl) ?_
  refine FL.nil ?_
  rcases ifB hp with ⟨c21, hp⟩ | ⟨c21, hp⟩
  ·
    refine FW.condT rfl c21 ?_
    refine FW.seq ?_
    refine FW.region ?_
    refine FL.val rfl rfl rfl (E.assign (v := Value.bool false) rfl) ?_
    refine FL.nil ?_
    refine FW.ret ?_
    obtain rfl := Option.some.inj hp
    exact ⟨.inr rfl, res1 rfl rfl ⟨rfl, S0.back⟩⟩
  ·
    refine FW.condF rfl c21 ?_
    refine FW.skip ?_
    refine FW.seq ?_
    refine FW.seq ?_
    refine FW.region ?_
    refine FL.val rfl rfl rfl (E.assign (v := Value.int .i64 0) rfl) ?_
    refine FL.nil ?_
    obtain ⟨q23, hq, hp⟩ := bndR hp
    refine FW.block ?_
    refine FW.mono (FW.forL (S := Unit) (X := Bool) (fun (i23 : Nat) (s23 : Unit) f w => ∃ H : GH, St Ha wa H w [] ∧ Inc Ha H ∧ f 5 = Value.int .i64 ((i23 : Nat) : Int) ∧ f 0 = v0 ∧ f 1 = v1) (fun q e f w => match q with | .go s23 => e = Exit.exit 0 ∧ (∃ H : GH, St Ha wa H w [] ∧ Inc Ha H) | .rt x => ((e = Exit.ret) ∧ (fun e f w => (e = Exit.normal ∨ e = Exit.ret) ∧ ∀ a, Fr (δ := []) 27 a f → ∃ v, (results Tryz.f21 a.tmps).run Tryz.prog w = .ok v w ∧ (Sc Ha wa (Value.bool x)) (.returned v) w) e f w)) hq ⟨_, S0, (Inc.rfl _), rfl, rfl, rfl⟩ ?_ ?_) ?_
    ·
      clear hp hq
      rintro i23 y22 s23 f61 w60 ⟨H57, S58, i59, k62, k63, k64⟩ hx23 o90 hp
      refine FW.seq ?_
      refine FW.seq ?_
      refine FW.region ?_
      refine FL.val rfl rfl rfl (E.move k62) ?_
      refine FL.val rfl rfl rfl (E.move k63) ?_
      refine FL.val rfl rfl rfl (E.lenP te22 rfl p0) ?_
      refine FL.val rfl rfl rfl (E.lssT rfl rfl (lss_len hx23)) ?_
      refine FL.nil ?_
      refine FW.condT rfl rfl ?_
      refine FW.skip ?_
      refine FW.seq ?_
      refine FW.block ?_
      refine FW.seq ?_
      refine FW.draw (fun w' => Run w60.heap.size H57 w60 H57 w') (by kernel_rfl) (by kernel_rfl) (run_drew S58.sl) ?_
      refine FD.val rfl rfl rfl (fun w' hw' => (E.move k63)) ?_
      refine FD.val rfl rfl rfl (fun w' hw' => (E.move k62)) ?_
      obtain ⟨p66, cs67, pt68, l69, at70, rel71⟩ := p0.at (ix_nat hx23)
      obtain ⟨v72, rfl, h73⟩ := eL_open rel71
      refine FD.val rfl rfl rfl (fun w' hw' => (E.indexAddr te22 rfl rfl pt68)) ?_
      refine FD.val rfl rfl rfl (fun w' hw' => (E.load rfl (run_load0 Tryz.isAgg61 ((at70.mono i59).now (S58.call hw').sl) rfl))) ?_
      refine FD.val rfl rfl rfl (fun w' hw' => (E.move k64)) ?_
      refine FD.val rfl rfl rfl (fun w' hw' => (E.move k62)) ?_
      obtain ⟨x80, hx81, hp⟩ := bnd hp
      obtain ⟨p74, cs75, pt76, l77, at78, rel79⟩ := p1.at hx81
      obtain ⟨v82, rfl, h83⟩ := eL_open rel79
      refine FD.val rfl rfl rfl (fun w' hw' => (E.indexAddr te22 rfl rfl pt76)) ?_
      refine FD.val rfl rfl rfl (fun w' hw' => (E.load rfl (run_load0 Tryz.isAgg61 ((at78.mono i59).now (S58.call hw').sl) rfl))) ?_
      obtain ⟨r84, hr85, hp⟩ := bnd hp
      refine FD.call rfl rfl rfl (fun w' hw' => (E.call Tryz.call48 (A2 rfl rfl))) (fun w' hw' => Calls.cls hw' (w_laws_eqIntS (S58.call hw').sl v72 y22 (h73.mono i59) v82 x80 (h83.mono i59) hr85)) ?_
      refine FD.val rfl rfl rfl (fun w' hw' => (E.not rfl)) ?_
      refine FD.nil ?_
      intro w86 r88
      have S87 := S58.call r88
      rcases ifB hp with ⟨c89, hp⟩ | ⟨c89, hp⟩
      ·
        refine FW.condT rfl c89 ?_
        refine FW.seq ?_
        refine FW.region ?_
        refine FL.val rfl rfl rfl (E.assign (v := Value.bool false) rfl) ?_
        refine FL.nil ?_
        refine FW.ret ?_
        obtain rfl := Option.some.inj hp
        exact ⟨nofun, rfl, ⟨.inr rfl, res1 rfl rfl ⟨rfl, S87.back⟩⟩⟩
      ·
        refine FW.condF rfl c89 ?_
        refine FW.skip ?_
        refine FW.region ?_
        refine FL.val rfl rfl rfl (E.move k62) ?_
        refine FL.val rfl rfl rfl (E.add rfl rfl) ?_
        refine FL.val rfl rfl rfl (E.assign (v := Value.int .i64 (wr (((i23 : Nat) : Int) + 1))) rfl) ?_
        refine FL.nil ?_
        obtain rfl := Option.some.inj hp
        exact ⟨rfl, ⟨_, S87, i59, (nat_succ rfl (lt_of_get hx23) (p0.mono i59).le), k63, k64⟩⟩
    ·
      clear hp hq
      rintro s23 f100 w99 ⟨H96, S97, i98, k101, k102, k103⟩
      refine FW.seq ?_
      refine FW.seq ?_
      refine FW.region ?_
      refine FL.val rfl rfl rfl (E.move k101) ?_
      refine FL.val rfl rfl rfl (E.move k102) ?_
      refine FL.val rfl rfl rfl (E.lenP te22 rfl p0) ?_
      refine FL.val rfl rfl rfl (E.lss rfl rfl) ?_
      refine FL.nil ?_
      refine FW.condF rfl dlt_len ?_
      refine FW.exit ?_
      exact ⟨nofun, rfl, ⟨_, S97, i98⟩⟩
    ·
      clear hq
      intro e f95 w94 hD
      rcases q23 with s23 | x23
      ·
        obtain ⟨rfl, hD⟩ := hD
        obtain ⟨H91, S92, i93⟩ := hD
        replace hp := el_go hp
        refine FW.seq ?_
        refine FW.region ?_
        refine FL.val rfl rfl rfl (E.assign (v := Value.bool true) rfl) ?_
        refine FL.nil ?_
        refine FW.ret ?_
        obtain rfl := Option.some.inj hp
        exact ⟨.inr rfl, res1 rfl rfl ⟨rfl, S92.back⟩⟩
      ·
        obtain ⟨he, hL⟩ := hD
        replace hp := el_rt hp
        obtain rfl := Option.some.inj hp
        subst he
        exact hL

theorem w_laws_eqCnf {Ha : GH} {wa : World} (hs : Sl Ha wa) (a0 : Cnf) (v0_1 : Value) (p0_1 : RSl Ha (eL eI 1) 1 v0_1 a0.clauses) (a1 : Cnf) (v1_1 : Value) (p1_1 : RSl Ha (eL eI 1) 1 v1_1 a1.clauses) {r : Bool} (hp : (PF.laws_eqCnf a0 a1) = some r) :
    Calls Tryz.prog 22 #[Value.agg #[Value.int .i64 a0.vars, v0_1], Value.agg #[Value.int .i64 a1.vars, v1_1]] wa (Sc Ha wa (Value.bool r)) := by
  unfold PF.laws_eqCnf at hp
  have S0 := St.init hs
  refine calls_go (N := 16) (args := [Value.agg #[Value.int .i64 a0.vars, v0_1], Value.agg #[Value.int .i64 a1.vars, v1_1]]) Tryz.func22 rfl rfl rfl ?_
  refine FW.seq ?_
  refine FW.region ?_
  obtain ⟨b21, w22, run23, S24⟩ := S0.box (P := Tryz.prog) 30 [Value.int .i64 a0.vars, v0_1] (v := Value.agg #[Value.int .i64 a0.vars, v0_1]) rfl (ones_cons rfl (ones_cons p0_1.one ones_nil))
  refine FL.val rfl rfl rfl (E.box rfl run23) ?_
  obtain ⟨H25, S26, i27, at28⟩ := S24.sealBox (i := 0) (l' := []) rfl rfl
  obtain ⟨b29, w30, run31, S32⟩ := S26.box (P := Tryz.prog) 30 [Value.int .i64 a1.vars, v1_1] (v := Value.agg #[Value.int .i64 a1.vars, v1_1]) rfl (ones_cons rfl (ones_cons p1_1.one ones_nil))
  refine FL.val rfl rfl rfl (E.box rfl run31) ?_
  obtain ⟨H33, S34, i35, at36⟩ := S32.sealBox (i := 0) (l' := []) rfl rfl
  refine FL.val rfl rfl rfl (E.assign (v := Value.bool false) rfl) ?_
  refine FL.nil ?_
  refine FW.seq ?_
  refine FW.seq ?_
  refine FW.region ?_
  refine FL.val rfl rfl rfl (E.fieldAddr tf30_0 rfl) ?_
  refine FL.val rfl rfl rfl (E.load rfl (run_load1 Tryz.isAgg3 ((at28.mono i35).now S34.sl) rfl)) ?_
  refine FL.val rfl rfl rfl (E.fieldAddr tf30_0 rfl) ?_
  refine FL.val rfl rfl rfl (E.load rfl (run_load1 Tryz.isAgg3 (at36.now S34.sl) rfl)) ?_
  refine FL.val rfl rfl rfl (E.neq rfl rfl) ?_
  refine FL.nil ?_
  rcases ifB hp with ⟨c37, hp⟩ | ⟨c37, hp⟩
  ·
    refine FW.condT rfl c37 ?_
    refine FW.seq ?_
    refine FW.region ?_
    refine FL.val rfl rfl rfl (E.assign (v := Value.bool false) rfl) ?_
    refine FL.nil ?_
    refine FW.ret ?_
    obtain rfl := Option.some.inj hp
    exact ⟨.inr rfl, res1 rfl rfl ⟨rfl, S34.back⟩⟩
  ·
    refine FW.condF rfl c37 ?_
    refine FW.skip ?_
    refine FW.seq ?_
    refine FW.seq ?_
    refine FW.region ?_
    refine FL.val rfl rfl rfl (E.fieldAddr tf30_1 rfl) ?_
    refine FL.val rfl rfl rfl (E.load rfl (run_load1 Tryz.isAgg22 ((at28.mono i35).now S34.sl) rfl)) ?_
    refine FL.val rfl rfl rfl (E.fieldAddr tf30_1 rfl) ?_
    refine FL.val rfl rfl rfl (E.load rfl (run_load1 Tryz.isAgg22 (at36.now S34.sl) rfl)) ?_
    obtain ⟨r38, hr39, hp⟩ := bnd hp
    refine FL.call rfl rfl rfl (E.call Tryz.call21 (A2 rfl rfl)) (w_laws_eqIntSS S34.sl v0_1 a0.clauses (p0_1.mono (i27.tr i35)) v1_1 a1.clauses (p1_1.mono (i27.tr i35)) hr39) ?_
    rintro e w40 ⟨rfl, r41⟩
    refine ⟨_, rfl, ?_⟩
    have S42 := S34.call r41
    refine FL.val rfl rfl rfl (E.not rfl) ?_
    refine FL.nil ?_
    rcases ifB hp with ⟨c43, hp⟩ | ⟨c43, hp⟩
    ·
      refine FW.condT rfl c43 ?_
      refine FW.seq ?_
      refine FW.region ?_
      refine FL.val rfl rfl rfl (E.assign (v := Value.bool false) rfl) ?_
      refine FL.nil ?_
      refine FW.ret ?_
      obtain rfl := Option.some.inj hp
      exact ⟨.inr rfl, res1 rfl rfl ⟨rfl, S42.back⟩⟩
    ·
      refine FW.condF rfl c43 ?_
      refine FW.skip ?_
      refine FW.seq ?_
      refine FW.region ?_
      refine FL.val rfl rfl rfl (E.assign (v := Value.bool true) rfl) ?_
      refine FL.nil ?_
      refine FW.ret ?_
      obtain rfl := Option.some.inj hp
      exact ⟨.inr rfl, res1 rfl rfl ⟨rfl, S42.back⟩⟩

theorem w_laws_eqResStep {Ha : GH} {wa : World} (hs : Sl Ha wa) (a0 : ResStep) (v0_0 : Value) (p0_0 : RSl Ha eI 1 v0_0 a0.clause) (a1 : ResStep) (v1_0 : Value) (p1_0 : RSl Ha eI 1 v1_0 a1.clause) {r : Bool} (hp : (PF.laws_eqResStep a0 a1) = some r) :
    Calls Tryz.prog 88 #[Value.agg #[v0_0, Value.int .i64 a0.left, Value.int .i64 a0.right, Value.int .i64 a0.pivot], Value.agg #[v1_0, Value.int .i64 a1.left, Value.int .i64 a1.right, Value.int .i64 a1.pivot]] wa (Sc Ha wa (Value.bool r)) := by
  unfold PF.laws_eqResStep at hp
  have S0 := St.init hs
  refine calls_go (N := 26) (args := [Value.agg #[v0_0, Value.int .i64 a0.left, Value.int .i64 a0.right, Value.int .i64 a0.pivot], Value.agg #[v1_0, Value.int .i64 a1.left, Value.int .i64 a1.right, Value.int .i64 a1.pivot]]) Tryz.func88 rfl rfl rfl ?_
  refine FW.seq ?_
  refine FW.region ?_
  obtain ⟨b21, w22, run23, S24⟩ := S0.box (P := Tryz.prog) 103 [v0_0, Value.int .i64 a0.left, Value.int .i64 a0.right, Value.int .i64 a0.pivot] (v := Value.agg #[v0_0, Value.int .i64 a0.left, Value.int .i64 a0.right, Value.int .i64 a0.pivot]) rfl (ones_cons p0_0.one (ones_cons rfl (ones_cons rfl (ones_cons rfl ones_nil))))
  refine FL.val rfl rfl rfl (E.box rfl run23) ?_
  obtain ⟨H25, S26, i27, at28⟩ := S24.sealBox (i := 0) (l' := []) rfl rfl
  obtain ⟨b29, w30, run31, S32⟩ := S26.box (P := Tryz.prog) 103 [v1_0, Value.int .i64 a1.left, Value.int .i64 a1.right, Value.int .i64 a1.pivot] (v := Value.agg #[v1_0, Value.int .i64 a1.left, Value.int .i64 a1.right, Value.int .i64 a1.pivot]) rfl (ones_cons p1_0.one (ones_cons rfl (ones_cons rfl (ones_cons rfl ones_nil))))
  refine FL.val rfl rfl rfl (E.box rfl run31) ?_
  obtain ⟨H33, S34, i35, at36⟩ := S32.sealBox (i := 0) (l' := []) rfl rfl
  refine FL.val rfl rfl rfl (E.assign (v := Value.bool false) rfl) ?_
  refine FL.nil ?_
  refine FW.seq ?_
  refine FW.seq ?_
  refine FW.region ?_
  refine FL.val rfl rfl rfl (E.fieldAddr tf103_0 rfl) ?_
  refine FL.val rfl rfl rfl (E.load rfl (run_load1 Tryz.isAgg61 ((at28.mono i35).now S34.sl) rfl)) ?_
  refine FL.val rfl rfl rfl (E.fieldAddr tf103_0 rfl) ?_
  refine FL.val rfl rfl rfl (E.load rfl (run_load1 Tryz.isAgg61 (at36.now S34.sl) rfl)) ?_
  obtain ⟨r37, hr38, hp⟩ := bnd hp
  refine FL.call rfl rfl rfl (E.call Tryz.call48 (A2 rfl rfl)) (w_laws_eqIntS S34.sl v0_0 a0.clause (p0_0.mono (i27.tr i35)) v1_0 a1.clause (p1_0.mono (i27.tr i35)) hr38) ?_
  rintro e w39 ⟨rfl, r40⟩
  refine ⟨_, rfl, ?_⟩
  have S41 := S34.call r40
  refine FL.val rfl rfl rfl (E.not rfl) ?_
  refine FL.nil ?_
  rcases ifB hp with ⟨c42, hp⟩ | ⟨c42, hp⟩
  ·
    refine FW.condT rfl c42 ?_
    refine FW.seq ?_
    refine FW.region ?_
    refine FL.val rfl rfl rfl (E.assign (v := Value.bool false) rfl) ?_
    refine FL.nil ?_
    refine FW.ret ?_
    obtain rfl := Option.some.inj hp
    exact ⟨.inr rfl, res1 rfl rfl ⟨rfl, S41.back⟩⟩
  ·
    refine FW.condF rfl c42 ?_
    refine FW.skip ?_
    refine FW.seq ?_
    refine FW.seq ?_
    refine FW.region ?_
    refine FL.val rfl rfl rfl (E.fieldAddr tf103_1 rfl) ?_
    refine FL.val rfl rfl rfl (E.load rfl (run_load1 Tryz.isAgg3 ((at28.mono i35).now S41.sl) rfl)) ?_
    refine FL.val rfl rfl rfl (E.fieldAddr tf103_1 rfl) ?_
    refine FL.val rfl rfl rfl (E.load rfl (run_load1 Tryz.isAgg3 (at36.now S41.sl) rfl)) ?_
    refine FL.val rfl rfl rfl (E.neq rfl rfl) ?_
    refine FL.nil ?_
    rcases ifB hp with ⟨c43, hp⟩ | ⟨c43, hp⟩
    ·
      refine FW.condT rfl c43 ?_
      refine FW.seq ?_
      refine FW.region ?_
      refine FL.val rfl rfl rfl (E.assign (v := Value.bool false) rfl) ?_
      refine FL.nil ?_
      refine FW.ret ?_
      obtain rfl := Option.some.inj hp
      exact ⟨.inr rfl, res1 rfl rfl ⟨rfl, S41.back⟩⟩
    ·
      refine FW.condF rfl c43 ?_
      refine FW.skip ?_
      refine FW.seq ?_
      refine FW.seq ?_
      refine FW.region ?_
      refine FL.val rfl rfl rfl (E.fieldAddr tf103_2 rfl) ?_
      refine FL.val rfl rfl rfl (E.load rfl (run_load1 Tryz.isAgg3 ((at28.mono i35).now S41.sl) rfl)) ?_
      refine FL.val rfl rfl rfl (E.fieldAddr tf103_2 rfl) ?_
      refine FL.val rfl rfl rfl (E.load rfl (run_load1 Tryz.isAgg3 (at36.now S41.sl) rfl)) ?_
      refine FL.val rfl rfl rfl (E.neq rfl rfl) ?_
      refine FL.nil ?_
      rcases ifB hp with ⟨c44, hp⟩ | ⟨c44, hp⟩
      ·
        refine FW.condT rfl c44 ?_
        refine FW.seq ?_
        refine FW.region ?_
        refine FL.val rfl rfl rfl (E.assign (v := Value.bool false) rfl) ?_
        refine FL.nil ?_
        refine FW.ret ?_
        obtain rfl := Option.some.inj hp
        exact ⟨.inr rfl, res1 rfl rfl ⟨rfl, S41.back⟩⟩
      ·
        refine FW.condF rfl c44 ?_
        refine FW.skip ?_
        refine FW.seq ?_
        refine FW.seq ?_
        refine FW.region ?_
        refine FL.val rfl rfl rfl (E.fieldAddr tf103_3 rfl) ?_
        refine FL.val rfl rfl rfl (E.load rfl (run_load1 Tryz.isAgg3 ((at28.mono i35).now S41.sl) rfl)) ?_
        refine FL.val rfl rfl rfl (E.fieldAddr tf103_3 rfl) ?_
        refine FL.val rfl rfl rfl (E.load rfl (run_load1 Tryz.isAgg3 (at36.now S41.sl) rfl)) ?_
        refine FL.val rfl rfl rfl (E.neq rfl rfl) ?_
        refine FL.nil ?_
        rcases ifB hp with ⟨c45, hp⟩ | ⟨c45, hp⟩
        ·
          refine FW.condT rfl c45 ?_
          refine FW.seq ?_
          refine FW.region ?_
          refine FL.val rfl rfl rfl (E.assign (v := Value.bool false) rfl) ?_
          refine FL.nil ?_
          refine FW.ret ?_
          obtain rfl := Option.some.inj hp
          exact ⟨.inr rfl, res1 rfl rfl ⟨rfl, S41.back⟩⟩
        ·
          refine FW.condF rfl c45 ?_
          refine FW.skip ?_
          refine FW.seq ?_
          refine FW.region ?_
          refine FL.val rfl rfl rfl (E.assign (v := Value.bool true) rfl) ?_
          refine FL.nil ?_
          refine FW.ret ?_
          obtain rfl := Option.some.inj hp
          exact ⟨.inr rfl, res1 rfl rfl ⟨rfl, S41.back⟩⟩

theorem w_laws_eqResStepS {Ha : GH} {wa : World} (hs : Sl Ha wa) (v0 : Value) (a0 : List ResStep) (p0 : RSl Ha eResStep 4 v0 a0) (v1 : Value) (a1 : List ResStep) (p1 : RSl Ha eResStep 4 v1 a1) {r : Bool} (hp : (PF.laws_eqResStepS a0 a1) = some r) :
    Calls Tryz.prog 32 #[v0, v1] wa (Sc Ha wa (Value.bool r)) := by
  unfold PF.laws_eqResStepS at hp
  have S0 := St.init hs
  refine calls_go (N := 27) (args := [v0, v1]) Tryz.func32 rfl rfl rfl ?_
  refine FW.seq ?_
  refine FW.region ?_
  refine FL.val rfl rfl rfl (E.assign (v := Value.bool false) rfl) ?_
  refine FL.nil ?_
  refine FW.seq ?_
  refine FW.seq ?_
  refine FW.region ?_
  refine FL.val rfl rfl rfl (E.move (v := v0) rfl) ?_
  refine FL.val rfl rfl rfl (E.lenP te41 rfl p0) ?_
  refine FL.val rfl rfl rfl (E.move (v := v1) rfl) ?_
  refine FL.val rfl rfl rfl (E.lenP te41 rfl p1) ?_
  refine FL.val rfl rfl rfl (E.neq rfl rfl) ?_
  refine FL.nil ?_
  rcases ifB hp with ⟨c21, hp⟩ | ⟨c21, hp⟩
  ·
    refine FW.condT rfl c21 ?_
    refine FW.seq ?_
    refine FW.region ?_
    refine FL.val rfl rfl rfl (E.assign (v := Value.bool false) rfl) ?_
    refine FL.nil ?_
    refine FW.ret ?_
    obtain rfl := Option.some.inj hp
    exact ⟨.inr rfl, res1 rfl rfl ⟨rfl, S0.back⟩⟩
  ·
    refine FW.condF rfl c21 ?_
    refine FW.skip ?_
    refine FW.seq ?_
    refine FW.seq ?_
    refine FW.region ?_
    refine FL.val rfl rfl rfl (E.assign (v := Value.int .i64 0) rfl) ?_
    refine FL.nil ?_
    obtain ⟨q23, hq, hp⟩ := bndR hp
    refine FW.block ?_
    refine FW.mono (FW.forL (S := Unit) (X := Bool) (fun (i23 : Nat) (s23 : Unit) f w => ∃ H : GH, St Ha wa H w [] ∧ Inc Ha H ∧ f 5 = Value.int .i64 ((i23 : Nat) : Int) ∧ f 0 = v0 ∧ f 1 = v1) (fun q e f w => match q with | .go s23 => e = Exit.exit 0 ∧ (∃ H : GH, St Ha wa H w [] ∧ Inc Ha H) | .rt x => ((e = Exit.ret) ∧ (fun e f w => (e = Exit.normal ∨ e = Exit.ret) ∧ ∀ a, Fr (δ := []) 27 a f → ∃ v, (results Tryz.f32 a.tmps).run Tryz.prog w = .ok v w ∧ (Sc Ha wa (Value.bool x)) (.returned v) w) e f w)) hq ⟨_, S0, (Inc.rfl _), rfl, rfl, rfl⟩ ?_ ?_) ?_
    ·
      clear hp hq
      rintro i23 y22 s23 f61 w60 ⟨H57, S58, i59, k62, k63, k64⟩ hx23 o90 hp
      refine FW.seq ?_
      refine FW.seq ?_
      refine FW.region ?_
      refine FL.val rfl rfl rfl (E.move k62) ?_
      refine FL.val rfl rfl rfl (E.move k63) ?_
      refine FL.val rfl rfl rfl (E.lenP te41 rfl p0) ?_
      refine FL.val rfl rfl rfl (E.lssT rfl rfl (lss_len hx23)) ?_
      refine FL.nil ?_
      refine FW.condT rfl rfl ?_
      refine FW.skip ?_
      refine FW.seq ?_
      refine FW.block ?_
      refine FW.seq ?_
      refine FW.draw (fun w' => Run w60.heap.size H57 w60 H57 w') (by kernel_rfl) (by kernel_rfl) (run_drew S58.sl) ?_
      refine FD.val rfl rfl rfl (fun w' hw' => (E.move k63)) ?_
      refine FD.val rfl rfl rfl (fun w' hw' => (E.move k62)) ?_
      obtain ⟨p66, cs67, pt68, l69, at70, rel71⟩ := p0.at (ix_nat hx23)
      obtain ⟨v72, rfl, h73⟩ := eResStep_open rel71
      refine FD.val rfl rfl rfl (fun w' hw' => (E.indexAddr te41 rfl rfl pt68)) ?_
      refine FD.val rfl rfl rfl (fun w' hw' => (E.load rfl (run_loadA Tryz.isAgg103 Tryz.sizeOf103 ((at70.mono i59).now (S58.call hw').sl) rfl))) ?_
      refine FD.val rfl rfl rfl (fun w' hw' => (E.move k64)) ?_
      refine FD.val rfl rfl rfl (fun w' hw' => (E.move k62)) ?_
      obtain ⟨x80, hx81, hp⟩ := bnd hp
      obtain ⟨p74, cs75, pt76, l77, at78, rel79⟩ := p1.at hx81
      obtain ⟨v82, rfl, h83⟩ := eResStep_open rel79
      refine FD.val rfl rfl rfl (fun w' hw' => (E.indexAddr te41 rfl rfl pt76)) ?_
      refine FD.val rfl rfl rfl (fun w' hw' => (E.load rfl (run_loadA Tryz.isAgg103 Tryz.sizeOf103 ((at78.mono i59).now (S58.call hw').sl) rfl))) ?_
      obtain ⟨r84, hr85, hp⟩ := bnd hp
      refine FD.call rfl rfl rfl (fun w' hw' => (E.call Tryz.call88 (A2 rfl rfl))) (fun w' hw' => Calls.cls hw' (w_laws_eqResStep (S58.call hw').sl y22 v72 (h73.mono i59) x80 v82 (h83.mono i59) hr85)) ?_
      refine FD.val rfl rfl rfl (fun w' hw' => (E.not rfl)) ?_
      refine FD.nil ?_
      intro w86 r88
      have S87 := S58.call r88
      rcases ifB hp with ⟨c89, hp⟩ | ⟨c89, hp⟩
      ·
        refine FW.condT rfl c89 ?_
        refine FW.seq ?_
        refine FW.region ?_
        refine FL.val rfl rfl rfl (E.assign (v := Value.bool false) rfl) ?_
        refine FL.nil ?_
        refine FW.ret ?_
        obtain rfl := Option.some.inj hp
        exact ⟨nofun, rfl, ⟨.inr rfl, res1 rfl rfl ⟨rfl, S87.back⟩⟩⟩
      ·
        refine FW.condF rfl c89 ?_
        refine FW.skip ?_
        refine FW.region ?_
        refine FL.val rfl rfl rfl (E.move k62) ?_
        refine FL.val rfl rfl rfl (E.add rfl rfl) ?_
        refine FL.val rfl rfl rfl (E.assign (v := Value.int .i64 (wr (((i23 : Nat) : Int) + 1))) rfl) ?_
        refine FL.nil ?_
        obtain rfl := Option.some.inj hp
        exact ⟨rfl, ⟨_, S87, i59, (nat_succ rfl (lt_of_get hx23) (p0.mono i59).le), k63, k64⟩⟩
    ·
      clear hp hq
      rintro s23 f100 w99 ⟨H96, S97, i98, k101, k102, k103⟩
      refine FW.seq ?_
      refine FW.seq ?_
      refine FW.region ?_
      refine FL.val rfl rfl rfl (E.move k101) ?_
      refine FL.val rfl rfl rfl (E.move k102) ?_
      refine FL.val rfl rfl rfl (E.lenP te41 rfl p0) ?_
      refine FL.val rfl rfl rfl (E.lss rfl rfl) ?_
      refine FL.nil ?_
      refine FW.condF rfl dlt_len ?_
      refine FW.exit ?_
      exact ⟨nofun, rfl, ⟨_, S97, i98⟩⟩
    ·
      clear hq
      intro e f95 w94 hD
      rcases q23 with s23 | x23
      ·
        obtain ⟨rfl, hD⟩ := hD
        obtain ⟨H91, S92, i93⟩ := hD
        replace hp := el_go hp
        refine FW.seq ?_
        refine FW.region ?_
        refine FL.val rfl rfl rfl (E.assign (v := Value.bool true) rfl) ?_
        refine FL.nil ?_
        refine FW.ret ?_
        obtain rfl := Option.some.inj hp
        exact ⟨.inr rfl, res1 rfl rfl ⟨rfl, S92.back⟩⟩
      ·
        obtain ⟨he, hL⟩ := hD
        replace hp := el_rt hp
        obtain rfl := Option.some.inj hp
        subst he
        exact hL

theorem w_laws_markIntS {H0 Ha : GH} {w0 wa : World} {l : List MO} (S0 : St H0 w0 Ha wa l) (hs0 : Sl H0 w0) (v0 : Value) (a0 : List Int) (p0 : RSl (up w0.heap.size Ha) eI 1 v0 a0) (a1 : Int) :
    Calls Tryz.prog 58 #[v0, Value.int .i64 a1] wa (M1 H0 w0 Ha l eI 1 v0 (PF.laws_markIntS a0 a1)) := by
  obtain ⟨c0, n0, hc0⟩ := p0.nest eI_flat (by decide)
  have hln := p0.ln
  have hle := p0.le
  refine calls_go (N := 19) (args := [v0, Value.int .i64 a1]) Tryz.func58 rfl rfl rfl ?_
  refine FW.seq ?_
  refine FW.region ?_
  refine FL.val rfl rfl rfl (E.assign (v := Value.int .i64 0) rfl) ?_
  refine FL.nil ?_
  refine FW.seq ?_
  refine FW.seq ?_
  refine FW.region ?_
  refine FL.val rfl rfl rfl (E.assign (v := Value.int .i64 0) rfl) ?_
  refine FL.nil ?_
  refine FW.block ?_
  refine FW.mono (FW.mark (F := fun y m => (m, (wr (m + 1)))) (a0 := a0) (k0 := a1) (fun (i : Nat) (xs : List Int) (k : Int) f w => ∃ (H : GH) (c : List Value), St H0 w0 H w l ∧ Nest (up w0.heap.size H) eI 1 v0 xs c ∧ bl c = bl c0 ∧ (∀ b, b ∉ bl [v0] → b ∉ bl c0 → H b = Ha b) ∧ f 0 = v0 ∧ f 1 = Value.int .i64 k ∧ f 5 = Value.int .i64 ((i : Nat) : Int)) (fun e f w => e = Exit.exit 0 ∧ ∃ (H : GH) (c : List Value), St H0 w0 H w l ∧ Nest (up w0.heap.size H) eI 1 v0 (markFrom (fun y m => (m, (wr (m + 1)))) a0 a1).1 c ∧ bl c = bl c0 ∧ (∀ b, b ∉ bl [v0] → b ∉ bl c0 → H b = Ha b) ∧ f 0 = v0 ∧ f 1 = Value.int .i64 (markFrom (fun y m => (m, (wr (m + 1)))) a0 a1).2) ⟨_, _, S0, n0, rfl, fun _ _ _ => rfl, rfl, rfl, rfl⟩ ?_ ?_) ?_
  ·
    rintro i y xs m f1 w1 ⟨H1, c1, S1, n1, hb, ho, kv, kk, kc⟩ hx hy
    obtain ⟨p, hpt, wr0, hB, hr, nd⟩ := n1.begin hy (by decide)
    have hci := eI_open hr
    have rd := wr0.opens hci
    refine FW.seq ?_
    refine FW.seq ?_
    refine FW.region ?_
    refine FL.val rfl rfl rfl (E.move kc) ?_
    refine FL.val rfl rfl rfl (E.move kv) ?_
    refine FL.val rfl rfl rfl (E.len te61 rfl hln) ?_
    refine FL.val rfl rfl rfl (E.lssT rfl rfl (lss_len hx)) ?_
    refine FL.nil ?_
    refine FW.condT rfl rfl ?_
    refine FW.skip ?_
    refine FW.seq ?_
    refine FW.block ?_
    refine FW.seq ?_
    refine FW.region ?_
    refine FL.val rfl rfl rfl (E.move kv) ?_
    refine FL.val rfl rfl rfl (E.move kc) ?_
    refine FL.val rfl rfl rfl (E.move kk) ?_
    refine FL.val rfl rfl rfl (E.indexAddr te61 rfl rfl hpt) ?_
    obtain ⟨w21, H22, run24, S23, wr25, o26⟩ := rd.poke0 (P := Tryz.prog) (t := 3) (u := Value.int .i64 m) S1 hs0 hB rfl rfl rfl Tryz.sizeOf3 rfl rfl (c2 := [Value.int .i64 m]) rfl
    refine FL.act rfl rfl (E.store rfl rfl run24) ?_
    refine FL.nil ?_
    refine FW.region ?_
    refine FL.val rfl rfl rfl (E.move kk) ?_
    refine FL.val rfl rfl rfl (E.add rfl rfl) ?_
    refine FL.val rfl rfl rfl (E.assign (v := Value.int .i64 (wr (m + 1))) rfl) ?_
    refine FL.nil ?_
    refine FW.region ?_
    refine FL.val rfl rfl rfl (E.move kc) ?_
    refine FL.val rfl rfl rfl (E.add rfl rfl) ?_
    refine FL.val rfl rfl rfl (E.assign (v := Value.int .i64 (wr (((i : Nat) : Int) + 1))) rfl) ?_
    refine FL.nil ?_
    obtain ⟨c2, n2, hb2, ho2⟩ := n1.round eI_flat.loc hy (by decide) hpt wr25 (y' := m) rfl
    exact ⟨rfl, _, _, S23, n2, hb2.trans hb, fun b q1 q2 => (ho2 b q1 (by rw [hb]; exact q2)).trans (ho b q1 q2), kv, rfl, nat_succ rfl (lt_of_get hx) hle⟩
  ·
    rintro f1 w1 ⟨H1, c1, S1, n1, hb, ho, kv, kk, kc⟩
    refine FW.seq ?_
    refine FW.seq ?_
    refine FW.region ?_
    refine FL.val rfl rfl rfl (E.move kc) ?_
    refine FL.val rfl rfl rfl (E.move kv) ?_
    refine FL.val rfl rfl rfl (E.len te61 rfl hln) ?_
    refine FL.val rfl rfl rfl (E.lss rfl rfl) ?_
    refine FL.nil ?_
    refine FW.condF rfl dlt_len ?_
    refine FW.exit ?_
    exact ⟨nofun, rfl, _, _, S1, n1, hb, ho, kv, kk⟩
  ·
    rintro e f2 w2 ⟨rfl, H2, c2, S2, n2, hb, ho, kv, kk⟩
    refine FW.seq ?_
    refine FW.region ?_
    refine FL.val rfl rfl rfl (E.move kk) ?_
    refine FL.val rfl rfl rfl (E.assign (v := Value.int .i64 ((markFrom (fun y m => (m, (wr (m + 1)))) a0 a1).2)) rfl) ?_
    refine FL.nil ?_
    refine FW.ret ?_
    exact ⟨.inr rfl, res1 rfl rfl ⟨_, rfl, S2, n2.rsl, fun b q => ho b q (by rw [hc0]; simp)⟩⟩

theorem w_laws_markIntSS {H0 Ha : GH} {w0 wa : World} {l : List MO} (S0 : St H0 w0 Ha wa l) (hs0 : Sl H0 w0) (v0 : Value) (a0 : List (List Int)) (c0 : List Value) (n0 : Nest (up w0.heap.size Ha) (eL eI 1) 1 v0 a0 c0) (a1 : Int) :
    Calls Tryz.prog 26 #[v0, Value.int .i64 a1] wa (M2 H0 w0 Ha l (eL eI 1) 1 v0 c0 (PF.laws_markIntSS a0 a1)) := by
  have hln := n0.rsl.ln
  have hle := n0.rsl.le
  refine calls_go (N := 19) (args := [v0, Value.int .i64 a1]) Tryz.func26 rfl rfl rfl ?_
  refine FW.seq ?_
  refine FW.region ?_
  refine FL.val rfl rfl rfl (E.assign (v := Value.int .i64 0) rfl) ?_
  refine FL.nil ?_
  refine FW.seq ?_
  refine FW.seq ?_
  refine FW.region ?_
  refine FL.val rfl rfl rfl (E.assign (v := Value.int .i64 0) rfl) ?_
  refine FL.nil ?_
  refine FW.block ?_
  refine FW.mono (FW.mark (F := fun y m => ((PF.laws_markIntS y m).1, (PF.laws_markIntS y m).2)) (a0 := a0) (k0 := a1) (fun (i : Nat) (xs : List (List Int)) (k : Int) f w => ∃ (H : GH) (c : List Value), St H0 w0 H w l ∧ Nest (up w0.heap.size H) (eL eI 1) 1 v0 xs c ∧ bl c = bl c0 ∧ (∀ b, b ∉ bl [v0] → b ∉ bl c0 → H b = Ha b) ∧ f 0 = v0 ∧ f 1 = Value.int .i64 k ∧ f 5 = Value.int .i64 ((i : Nat) : Int)) (fun e f w => e = Exit.exit 0 ∧ ∃ (H : GH) (c : List Value), St H0 w0 H w l ∧ Nest (up w0.heap.size H) (eL eI 1) 1 v0 (markFrom (fun y m => ((PF.laws_markIntS y m).1, (PF.laws_markIntS y m).2)) a0 a1).1 c ∧ bl c = bl c0 ∧ (∀ b, b ∉ bl [v0] → b ∉ bl c0 → H b = Ha b) ∧ f 0 = v0 ∧ f 1 = Value.int .i64 (markFrom (fun y m => ((PF.laws_markIntS y m).1, (PF.laws_markIntS y m).2)) a0 a1).2) ⟨_, _, S0, n0, rfl, fun _ _ _ => rfl, rfl, rfl, rfl⟩ ?_ ?_) ?_
  ·
    rintro i y xs m f1 w1 ⟨H1, c1, S1, n1, hb, ho, kv, kk, kc⟩ hx hy
    obtain ⟨p, hpt, wr0, hB, hr, nd⟩ := n1.begin hy (by decide)
    obtain ⟨u0, hci, hu0⟩ := eL_open hr
    have rd := wr0.opens hci
    refine FW.seq ?_
    refine FW.seq ?_
    refine FW.region ?_
    refine FL.val rfl rfl rfl (E.move kc) ?_
    refine FL.val rfl rfl rfl (E.move kv) ?_
    refine FL.val rfl rfl rfl (E.len te22 rfl hln) ?_
    refine FL.val rfl rfl rfl (E.lssT rfl rfl (lss_len hx)) ?_
    refine FL.nil ?_
    refine FW.condT rfl rfl ?_
    refine FW.skip ?_
    refine FW.seq ?_
    refine FW.block ?_
    refine FW.region ?_
    refine FL.val rfl rfl rfl (E.move kv) ?_
    refine FL.val rfl rfl rfl (E.move kc) ?_
    refine FL.val rfl rfl rfl (E.indexAddr te22 rfl rfl hpt) ?_
    refine FL.val rfl rfl rfl (E.load rfl (run_load0 Tryz.isAgg61 (rd.now S1.sl) rfl)) ?_
    refine FL.val rfl rfl rfl (E.move kk) ?_
    refine FL.call rfl rfl rfl (E.call Tryz.call58 (A2 rfl rfl)) (w_laws_markIntS S1 hs0 u0 y hu0 m) ?_
    rintro e w22 ⟨H21, rfl, S23, h24, o25⟩
    refine ⟨_, rfl, ?_⟩
    have wr26 := rd.inner (j := 0) rfl o25
    refine FL.val rfl rfl rfl (E.assign (v := Value.int .i64 ((PF.laws_markIntS y m).2)) rfl) ?_
    refine FL.nil ?_
    refine FW.region ?_
    refine FL.val rfl rfl rfl (E.move kc) ?_
    refine FL.val rfl rfl rfl (E.add rfl rfl) ?_
    refine FL.val rfl rfl rfl (E.assign (v := Value.int .i64 (wr (((i : Nat) : Int) + 1))) rfl) ?_
    refine FL.nil ?_
    obtain ⟨c2, n2, hb2, ho2⟩ := n1.round (eL_loc eI_flat) hy (by decide) hpt wr26 (y' := (PF.laws_markIntS y m).1) ⟨_, rfl, h24⟩
    exact ⟨rfl, _, _, S23, n2, hb2.trans hb, fun b q1 q2 => (ho2 b q1 (by rw [hb]; exact q2)).trans (ho b q1 q2), kv, rfl, nat_succ rfl (lt_of_get hx) hle⟩
  ·
    rintro f1 w1 ⟨H1, c1, S1, n1, hb, ho, kv, kk, kc⟩
    refine FW.seq ?_
    refine FW.seq ?_
    refine FW.region ?_
    refine FL.val rfl rfl rfl (E.move kc) ?_
    refine FL.val rfl rfl rfl (E.move kv) ?_
    refine FL.val rfl rfl rfl (E.len te22 rfl hln) ?_
    refine FL.val rfl rfl rfl (E.lss rfl rfl) ?_
    refine FL.nil ?_
    refine FW.condF rfl dlt_len ?_
    refine FW.exit ?_
    exact ⟨nofun, rfl, _, _, S1, n1, hb, ho, kv, kk⟩
  ·
    rintro e f2 w2 ⟨rfl, H2, c2, S2, n2, hb, ho, kv, kk⟩
    refine FW.seq ?_
    refine FW.region ?_
    refine FL.val rfl rfl rfl (E.move kk) ?_
    refine FL.val rfl rfl rfl (E.assign (v := Value.int .i64 ((markFrom (fun y m => ((PF.laws_markIntS y m).1, (PF.laws_markIntS y m).2)) a0 a1).2)) rfl) ?_
    refine FL.nil ?_
    refine FW.ret ?_
    exact ⟨.inr rfl, res1 rfl rfl ⟨_, _, rfl, S2, n2, hb, fun b q1 q2 => weak (F := fun b => b ∉ bl [v0] ∧ b ∉ bl c0) (fun b q => ho b q.1 q.2) b ⟨q1, q2⟩⟩⟩

@[reducible] def p_laws_markCnf (H0 : GH) (w0 : World) (Ha : GH) (l : List MO) (v0 : Value) (c0 : List Value) (r : Cnf × Int) : Ending → World → Prop := fun e w' =>
  ∃ (H' : GH) (c' : List Value), e = .returned (.int .i64 r.2) ∧ St H0 w0 H' w' l ∧ Nest (up w0.heap.size H') (eL eI 1) 1 v0 r.1.clauses c' ∧ bl c' = bl c0 ∧ ∀ b, b ∉ bl [v0] → b ∉ bl c0 → ∀ o, Ha b = some o → H' b = some o
theorem w_laws_markCnf {H0 Ha : GH} {w0 wa : World} {l : List MO} (S0 : St H0 w0 Ha wa l) (hs0 : Sl H0 w0) (a0 : Cnf) (v0 : Value) (c0 : List Value) (n0 : Nest (up w0.heap.size Ha) (eL eI 1) 1 v0 a0.clauses c0) (a1 : Int) :
    Calls Tryz.prog 24 #[.agg #[Value.int .i64 a0.vars, v0], Value.int .i64 a1] wa (p_laws_markCnf H0 w0 Ha l v0 c0 (PF.laws_markCnf a0 a1)) := by
  refine calls_go (N := 10) (args := [.agg #[Value.int .i64 a0.vars, v0], Value.int .i64 a1]) Tryz.func24 rfl rfl rfl ?_
  refine FW.seq ?_
  refine FW.region ?_
  obtain ⟨b21, w22, run23, S24⟩ := S0.box (P := Tryz.prog) 30 [Value.int .i64 a0.vars, v0] (v := Value.agg #[Value.int .i64 a0.vars, v0]) rfl (ones_cons rfl (ones_cons n0.rsl.one ones_nil))
  refine FL.val rfl rfl rfl (E.box rfl run23) ?_
  obtain ⟨H25, S26, i27, at28⟩ := S24.sealBox (i := 0) (l' := l) rfl rfl
  refine FL.val rfl rfl rfl (E.assign (v := Value.int .i64 0) rfl) ?_
  refine FL.nil ?_
  refine FW.seq ?_
  refine FW.region ?_
  refine FL.val rfl rfl rfl (E.fieldAddr tf30_1 rfl) ?_
  refine FL.val rfl rfl rfl (E.load rfl (run_load1 Tryz.isAgg22 (at28.now S26.sl) rfl)) ?_
  refine FL.val rfl rfl rfl (E.move (v := Value.int .i64 a1) rfl) ?_
  refine FL.call rfl rfl rfl (E.call Tryz.call26 (A2 rfl rfl)) (w_laws_markIntSS S26 hs0 v0 a0.clauses c0 (n0.mono (up_mono i27)) a1) ?_
  rintro e w30 ⟨H29, c34, rfl, S31, h32, hb35, o33⟩
  refine ⟨_, rfl, ?_⟩
  refine FL.val rfl rfl rfl (E.assign (v := Value.int .i64 ((PF.laws_markIntSS a0.clauses a1).2)) rfl) ?_
  refine FL.nil ?_
  refine FW.seq ?_
  refine FW.region ?_
  refine FL.val rfl rfl rfl (E.move (v := Value.int .i64 ((PF.laws_markIntSS a0.clauses a1).2)) rfl) ?_
  refine FL.val rfl rfl rfl (E.assign (v := Value.int .i64 ((PF.laws_markIntSS a0.clauses a1).2)) rfl) ?_
  refine FL.nil ?_
  refine FW.ret ?_
  exact ⟨.inr rfl, res1 rfl rfl ⟨_, _, rfl, S31, h32, hb35, fun b q1 q2 o ho => o33 b q1 q2 o (i27 b o ho)⟩⟩

theorem w_laws_markResStepS {H0 Ha : GH} {w0 wa : World} {l : List MO} (S0 : St H0 w0 Ha wa l) (hs0 : Sl H0 w0) (v0 : Value) (a0 : List ResStep) (c0 : List Value) (n0 : Nest (up w0.heap.size Ha) eResStep 4 v0 a0 c0) (a1 : Int) :
    Calls Tryz.prog 33 #[v0, Value.int .i64 a1] wa (M2 H0 w0 Ha l eResStep 4 v0 c0 (PF.laws_markResStepS a0 a1)) := by
  have hln := n0.rsl.ln
  have hle := n0.rsl.le
  refine calls_go (N := 41) (args := [v0, Value.int .i64 a1]) Tryz.func33 rfl rfl rfl ?_
  refine FW.seq ?_
  refine FW.region ?_
  refine FL.val rfl rfl rfl (E.assign (v := Value.int .i64 0) rfl) ?_
  refine FL.nil ?_
  refine FW.seq ?_
  refine FW.seq ?_
  refine FW.region ?_
  refine FL.val rfl rfl rfl (E.assign (v := Value.int .i64 0) rfl) ?_
  refine FL.nil ?_
  refine FW.block ?_
  refine FW.mono (FW.mark (F := fun y m => ((ResStep.mk ((PF.laws_markIntS y.clause m).1) ((PF.laws_markIntS y.clause m).2) (wr ((PF.laws_markIntS y.clause m).2 + 1)) (wr ((wr ((PF.laws_markIntS y.clause m).2 + 1)) + 1))), (wr ((wr ((wr ((PF.laws_markIntS y.clause m).2 + 1)) + 1)) + 1)))) (a0 := a0) (k0 := a1) (fun (i : Nat) (xs : List ResStep) (k : Int) f w => ∃ (H : GH) (c : List Value), St H0 w0 H w l ∧ Nest (up w0.heap.size H) eResStep 4 v0 xs c ∧ bl c = bl c0 ∧ (∀ b, b ∉ bl [v0] → b ∉ bl c0 → H b = Ha b) ∧ f 0 = v0 ∧ f 1 = Value.int .i64 k ∧ f 5 = Value.int .i64 ((i : Nat) : Int)) (fun e f w => e = Exit.exit 0 ∧ ∃ (H : GH) (c : List Value), St H0 w0 H w l ∧ Nest (up w0.heap.size H) eResStep 4 v0 (markFrom (fun y m => ((ResStep.mk ((PF.laws_markIntS y.clause m).1) ((PF.laws_markIntS y.clause m).2) (wr ((PF.laws_markIntS y.clause m).2 + 1)) (wr ((wr ((PF.laws_markIntS y.clause m).2 + 1)) + 1))), (wr ((wr ((wr ((PF.laws_markIntS y.clause m).2 + 1)) + 1)) + 1)))) a0 a1).1 c ∧ bl c = bl c0 ∧ (∀ b, b ∉ bl [v0] → b ∉ bl c0 → H b = Ha b) ∧ f 0 = v0 ∧ f 1 = Value.int .i64 (markFrom (fun y m => ((ResStep.mk ((PF.laws_markIntS y.clause m).1) ((PF.laws_markIntS y.clause m).2) (wr ((PF.laws_markIntS y.clause m).2 + 1)) (wr ((wr ((PF.laws_markIntS y.clause m).2 + 1)) + 1))), (wr ((wr ((wr ((PF.laws_markIntS y.clause m).2 + 1)) + 1)) + 1)))) a0 a1).2) ⟨_, _, S0, n0, rfl, fun _ _ _ => rfl, rfl, rfl, rfl⟩ ?_ ?_) ?_
  ·
    rintro i y xs m f1 w1 ⟨H1, c1, S1, n1, hb, ho, kv, kk, kc⟩ hx hy
    obtain ⟨p, hpt, wr0, hB, hr, nd⟩ := n1.begin hy (by decide)
    obtain ⟨u0, hci, hu0⟩ := eResStep_open hr
    have rd := wr0.opens hci
    refine FW.seq ?_
    refine FW.seq ?_
    refine FW.region ?_
    refine FL.val rfl rfl rfl (E.move kc) ?_
    refine FL.val rfl rfl rfl (E.move kv) ?_
    refine FL.val rfl rfl rfl (E.len te41 rfl hln) ?_
    refine FL.val rfl rfl rfl (E.lssT rfl rfl (lss_len hx)) ?_
    refine FL.nil ?_
    refine FW.condT rfl rfl ?_
    refine FW.skip ?_
    refine FW.seq ?_
    refine FW.block ?_
    refine FW.seq ?_
    refine FW.region ?_
    refine FL.val rfl rfl rfl (E.move kv) ?_
    refine FL.val rfl rfl rfl (E.move kc) ?_
    refine FL.val rfl rfl rfl (E.indexAddr te41 rfl rfl hpt) ?_
    refine FL.val rfl rfl rfl (E.fieldAddr tf103_0 rfl) ?_
    refine FL.val rfl rfl rfl (E.load rfl (run_load1 Tryz.isAgg61 (rd.now S1.sl) rfl)) ?_
    refine FL.val rfl rfl rfl (E.move kk) ?_
    refine FL.call rfl rfl rfl (E.call Tryz.call58 (A2 rfl rfl)) (w_laws_markIntS S1 hs0 u0 y.clause hu0 m) ?_
    rintro e w22 ⟨H21, rfl, S23, h24, o25⟩
    refine ⟨_, rfl, ?_⟩
    have wr26 := rd.inner (j := 0) rfl o25
    refine FL.val rfl rfl rfl (E.assign (v := Value.int .i64 ((PF.laws_markIntS y.clause m).2)) rfl) ?_
    refine FL.nil ?_
    refine FW.seq ?_
    refine FW.region ?_
    refine FL.val rfl rfl rfl (E.move kv) ?_
    refine FL.val rfl rfl rfl (E.move kc) ?_
    refine FL.val rfl rfl rfl (E.move (v := Value.int .i64 ((PF.laws_markIntS y.clause m).2)) rfl) ?_
    refine FL.val rfl rfl rfl (E.indexAddr te41 rfl rfl hpt) ?_
    refine FL.val rfl rfl rfl (E.fieldAddr tf103_1 rfl) ?_
    obtain ⟨w27, H28, run30, S29, wr31, o32⟩ := wr26.poke (P := Tryz.prog) (t := 3) (u := Value.int .i64 ((PF.laws_markIntS y.clause m).2)) S23 hs0 hB (j := 1) rfl rfl rfl Tryz.sizeOf3 rfl rfl (c2 := [u0, Value.int .i64 ((PF.laws_markIntS y.clause m).2), Value.int .i64 y.right, Value.int .i64 y.pivot]) rfl
    have h33 := wr26.kept (j := 0) rfl h24 eI_flat o32
    refine FL.act rfl rfl (E.store rfl rfl run30) ?_
    refine FL.nil ?_
    refine FW.seq ?_
    refine FW.region ?_
    refine FL.val rfl rfl rfl (E.move (v := Value.int .i64 ((PF.laws_markIntS y.clause m).2)) rfl) ?_
    refine FL.val rfl rfl rfl (E.add rfl rfl) ?_
    refine FL.val rfl rfl rfl (E.assign (v := Value.int .i64 (wr ((PF.laws_markIntS y.clause m).2 + 1))) rfl) ?_
    refine FL.nil ?_
    refine FW.seq ?_
    refine FW.region ?_
    refine FL.val rfl rfl rfl (E.move kv) ?_
    refine FL.val rfl rfl rfl (E.move kc) ?_
    refine FL.val rfl rfl rfl (E.move (v := Value.int .i64 (wr ((PF.laws_markIntS y.clause m).2 + 1))) rfl) ?_
    refine FL.val rfl rfl rfl (E.indexAddr te41 rfl rfl hpt) ?_
    refine FL.val rfl rfl rfl (E.fieldAddr tf103_2 rfl) ?_
    obtain ⟨w34, H35, run37, S36, wr38, o39⟩ := wr31.poke (P := Tryz.prog) (t := 3) (u := Value.int .i64 (wr ((PF.laws_markIntS y.clause m).2 + 1))) S29 hs0 hB (j := 2) rfl rfl rfl Tryz.sizeOf3 rfl rfl (c2 := [u0, Value.int .i64 ((PF.laws_markIntS y.clause m).2), Value.int .i64 (wr ((PF.laws_markIntS y.clause m).2 + 1)), Value.int .i64 y.pivot]) rfl
    have h40 := wr31.kept (j := 0) rfl h33 eI_flat o39
    refine FL.act rfl rfl (E.store rfl rfl run37) ?_
    refine FL.nil ?_
    refine FW.seq ?_
    refine FW.region ?_
    refine FL.val rfl rfl rfl (E.move (v := Value.int .i64 (wr ((PF.laws_markIntS y.clause m).2 + 1))) rfl) ?_
    refine FL.val rfl rfl rfl (E.add rfl rfl) ?_
    refine FL.val rfl rfl rfl (E.assign (v := Value.int .i64 (wr ((wr ((PF.laws_markIntS y.clause m).2 + 1)) + 1))) rfl) ?_
    refine FL.nil ?_
    refine FW.seq ?_
    refine FW.region ?_
    refine FL.val rfl rfl rfl (E.move kv) ?_
    refine FL.val rfl rfl rfl (E.move kc) ?_
    refine FL.val rfl rfl rfl (E.move (v := Value.int .i64 (wr ((wr ((PF.laws_markIntS y.clause m).2 + 1)) + 1))) rfl) ?_
    refine FL.val rfl rfl rfl (E.indexAddr te41 rfl rfl hpt) ?_
    refine FL.val rfl rfl rfl (E.fieldAddr tf103_3 rfl) ?_
    obtain ⟨w41, H42, run44, S43, wr45, o46⟩ := wr38.poke (P := Tryz.prog) (t := 3) (u := Value.int .i64 (wr ((wr ((PF.laws_markIntS y.clause m).2 + 1)) + 1))) S36 hs0 hB (j := 3) rfl rfl rfl Tryz.sizeOf3 rfl rfl (c2 := [u0, Value.int .i64 ((PF.laws_markIntS y.clause m).2), Value.int .i64 (wr ((PF.laws_markIntS y.clause m).2 + 1)), Value.int .i64 (wr ((wr ((PF.laws_markIntS y.clause m).2 + 1)) + 1))]) rfl
    have h47 := wr38.kept (j := 0) rfl h40 eI_flat o46
    refine FL.act rfl rfl (E.store rfl rfl run44) ?_
    refine FL.nil ?_
    refine FW.region ?_
    refine FL.val rfl rfl rfl (E.move (v := Value.int .i64 (wr ((wr ((PF.laws_markIntS y.clause m).2 + 1)) + 1))) rfl) ?_
    refine FL.val rfl rfl rfl (E.add rfl rfl) ?_
    refine FL.val rfl rfl rfl (E.assign (v := Value.int .i64 (wr ((wr ((wr ((PF.laws_markIntS y.clause m).2 + 1)) + 1)) + 1))) rfl) ?_
    refine FL.nil ?_
    refine FW.region ?_
    refine FL.val rfl rfl rfl (E.move kc) ?_
    refine FL.val rfl rfl rfl (E.add rfl rfl) ?_
    refine FL.val rfl rfl rfl (E.assign (v := Value.int .i64 (wr (((i : Nat) : Int) + 1))) rfl) ?_
    refine FL.nil ?_
    obtain ⟨c2, n2, hb2, ho2⟩ := n1.round eResStep_loc hy (by decide) hpt wr45 (y' := (ResStep.mk ((PF.laws_markIntS y.clause m).1) ((PF.laws_markIntS y.clause m).2) (wr ((PF.laws_markIntS y.clause m).2 + 1)) (wr ((wr ((PF.laws_markIntS y.clause m).2 + 1)) + 1)))) ⟨_, rfl, h47⟩
    exact ⟨rfl, _, _, S43, n2, hb2.trans hb, fun b q1 q2 => (ho2 b q1 (by rw [hb]; exact q2)).trans (ho b q1 q2), kv, rfl, nat_succ rfl (lt_of_get hx) hle⟩
  ·
    rintro f1 w1 ⟨H1, c1, S1, n1, hb, ho, kv, kk, kc⟩
    refine FW.seq ?_
    refine FW.seq ?_
    refine FW.region ?_
    refine FL.val rfl rfl rfl (E.move kc) ?_
    refine FL.val rfl rfl rfl (E.move kv) ?_
    refine FL.val rfl rfl rfl (E.len te41 rfl hln) ?_
    refine FL.val rfl rfl rfl (E.lss rfl rfl) ?_
    refine FL.nil ?_
    refine FW.condF rfl dlt_len ?_
    refine FW.exit ?_
    exact ⟨nofun, rfl, _, _, S1, n1, hb, ho, kv, kk⟩
  ·
    rintro e f2 w2 ⟨rfl, H2, c2, S2, n2, hb, ho, kv, kk⟩
    refine FW.seq ?_
    refine FW.region ?_
    refine FL.val rfl rfl rfl (E.move kk) ?_
    refine FL.val rfl rfl rfl (E.assign (v := Value.int .i64 ((markFrom (fun y m => ((ResStep.mk ((PF.laws_markIntS y.clause m).1) ((PF.laws_markIntS y.clause m).2) (wr ((PF.laws_markIntS y.clause m).2 + 1)) (wr ((wr ((PF.laws_markIntS y.clause m).2 + 1)) + 1))), (wr ((wr ((wr ((PF.laws_markIntS y.clause m).2 + 1)) + 1)) + 1)))) a0 a1).2)) rfl) ?_
    refine FL.nil ?_
    refine FW.ret ?_
    exact ⟨.inr rfl, res1 rfl rfl ⟨_, _, rfl, S2, n2, hb, fun b q1 q2 => weak (F := fun b => b ∉ bl [v0] ∧ b ∉ bl c0) (fun b q => ho b q.1 q.2) b ⟨q1, q2⟩⟩⟩

theorem w_laws_heldIntS {Ha : GH} {wa : World} (hs : Sl Ha wa) (v0 : Value) (a0 : List Int) (p0 : RSl Ha eI 1 v0 a0) (a1 : Int) {r : Int} (hp : (PF.laws_heldIntS a0 a1) = some r) :
    Calls Tryz.prog 59 #[v0, Value.int .i64 a1] wa (Sc Ha wa (Value.int .i64 r)) := by
  unfold PF.laws_heldIntS at hp
  have S0 := St.init hs
  refine calls_go (N := 21) (args := [v0, Value.int .i64 a1]) Tryz.func59 rfl rfl rfl ?_
  refine FW.seq ?_
  refine FW.region ?_
  refine FL.val rfl rfl rfl (E.assign (v := Value.int .i64 0) rfl) ?_
  refine FL.nil ?_
  refine FW.seq ?_
  refine FW.seq ?_
  refine FW.region ?_
  refine FL.val rfl rfl rfl (E.assign (v := Value.int .i64 0) rfl) ?_
  refine FL.nil ?_
  obtain ⟨q22, hq, hp⟩ := bndR hp
  refine FW.block ?_
  refine FW.mono (FW.forL (S := Int) (X := Int) (fun (i22 : Nat) (s22 : Int) f w => ∃ H : GH, St Ha wa H w [] ∧ Inc Ha H ∧ f 5 = Value.int .i64 ((i22 : Nat) : Int) ∧ f 0 = v0 ∧ f 1 = Value.int .i64 s22) (fun q e f w => match q with | .go s22 => e = Exit.exit 0 ∧ (∃ H : GH, St Ha wa H w [] ∧ Inc Ha H ∧ f 1 = Value.int .i64 s22) | .rt x => ((e = Exit.ret) ∧ (fun e f w => (e = Exit.normal ∨ e = Exit.ret) ∧ ∀ a, Fr (δ := []) 21 a f → ∃ v, (results Tryz.f59 a.tmps).run Tryz.prog w = .ok v w ∧ (Sc Ha wa (Value.int .i64 x)) (.returned v) w) e f w)) hq ⟨_, S0, (Inc.rfl _), rfl, rfl, rfl⟩ ?_ ?_) ?_
  ·
    clear hp hq
    rintro i22 y21 s22 f42 w41 ⟨H38, S39, i40, k43, k44, k45⟩ hx22 o53 hp
    refine FW.seq ?_
    refine FW.seq ?_
    refine FW.region ?_
    refine FL.val rfl rfl rfl (E.move k43) ?_
    refine FL.val rfl rfl rfl (E.move k44) ?_
    refine FL.val rfl rfl rfl (E.lenP te61 rfl p0) ?_
    refine FL.val rfl rfl rfl (E.lssT rfl rfl (lss_len hx22)) ?_
    refine FL.nil ?_
    refine FW.condT rfl rfl ?_
    refine FW.skip ?_
    refine FW.seq ?_
    refine FW.block ?_
    refine FW.seq ?_
    refine FW.seq ?_
    refine FW.region ?_
    refine FL.val rfl rfl rfl (E.move k44) ?_
    refine FL.val rfl rfl rfl (E.move k43) ?_
    obtain ⟨p46, cs47, pt48, l49, at50, rel51⟩ := p0.at (ix_nat hx22)
    obtain rfl := eI_open rel51
    refine FL.val rfl rfl rfl (E.indexAddr te61 rfl rfl pt48) ?_
    refine FL.val rfl rfl rfl (E.load rfl (run_load0 Tryz.isAgg3 ((at50.mono i40).now S39.sl) rfl)) ?_
    refine FL.val rfl rfl rfl (E.move k45) ?_
    refine FL.val rfl rfl rfl (E.neq rfl rfl) ?_
    refine FL.nil ?_
    rcases ifB hp with ⟨c52, hp⟩ | ⟨c52, hp⟩
    ·
      refine FW.condT rfl c52 ?_
      refine FW.seq ?_
      refine FW.region ?_
      refine FL.val rfl rfl rfl (E.assign (v := Value.int .i64 (-1)) rfl) ?_
      refine FL.nil ?_
      refine FW.ret ?_
      obtain rfl := Option.some.inj hp
      exact ⟨nofun, rfl, ⟨.inr rfl, res1 rfl rfl ⟨rfl, S39.back⟩⟩⟩
    ·
      refine FW.condF rfl c52 ?_
      refine FW.skip ?_
      refine FW.region ?_
      refine FL.val rfl rfl rfl (E.move k45) ?_
      refine FL.val rfl rfl rfl (E.add rfl rfl) ?_
      refine FL.val rfl rfl rfl (E.assign (v := Value.int .i64 (wr (s22 + 1))) rfl) ?_
      refine FL.nil ?_
      refine FW.region ?_
      refine FL.val rfl rfl rfl (E.move k43) ?_
      refine FL.val rfl rfl rfl (E.add rfl rfl) ?_
      refine FL.val rfl rfl rfl (E.assign (v := Value.int .i64 (wr (((i22 : Nat) : Int) + 1))) rfl) ?_
      refine FL.nil ?_
      obtain rfl := Option.some.inj hp
      exact ⟨rfl, ⟨_, S39, i40, (nat_succ rfl (lt_of_get hx22) (p0.mono i40).le), k44, rfl⟩⟩
  ·
    clear hp hq
    rintro s22 f64 w63 ⟨H60, S61, i62, k65, k66, k67⟩
    refine FW.seq ?_
    refine FW.seq ?_
    refine FW.region ?_
    refine FL.val rfl rfl rfl (E.move k65) ?_
    refine FL.val rfl rfl rfl (E.move k66) ?_
    refine FL.val rfl rfl rfl (E.lenP te61 rfl p0) ?_
    refine FL.val rfl rfl rfl (E.lss rfl rfl) ?_
    refine FL.nil ?_
    refine FW.condF rfl dlt_len ?_
    refine FW.exit ?_
    exact ⟨nofun, rfl, ⟨_, S61, i62, k67⟩⟩
  ·
    clear hq
    intro e f58 w57 hD
    rcases q22 with s22 | x22
    ·
      obtain ⟨rfl, hD⟩ := hD
      obtain ⟨H54, S55, i56, k59⟩ := hD
      replace hp := el_go hp
      refine FW.seq ?_
      refine FW.region ?_
      refine FL.val rfl rfl rfl (E.move k59) ?_
      refine FL.val rfl rfl rfl (E.assign (v := Value.int .i64 s22) rfl) ?_
      refine FL.nil ?_
      refine FW.ret ?_
      obtain rfl := Option.some.inj hp
      exact ⟨.inr rfl, res1 rfl rfl ⟨rfl, S55.back⟩⟩
    ·
      obtain ⟨he, hL⟩ := hD
      replace hp := el_rt hp
      obtain rfl := Option.some.inj hp
      subst he
      exact hL

end Go.Proofs
