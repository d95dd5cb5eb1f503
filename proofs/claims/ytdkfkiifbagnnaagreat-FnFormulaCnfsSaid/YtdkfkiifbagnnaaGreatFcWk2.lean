/- Part of the walks and plain laws behind the claim: it proves helpers, under no condition beyond their own. -/
import Derived.Test.YtdkfkiifbagnnaaGreatFcWk1
set_option linter.unusedVariables false
set_option maxRecDepth 100000
namespace Go.Proofs
open Go.Mr Go.Pu Go.PF Go.RowKit

theorem w_spec_l22Parts {Ha : GH} {wa : World} (hs : Sl Ha wa) (a0 : ByteArray) {r : (Int × ByteArray × ByteArray)} (hp : (PF.spec_l22Parts a0) = some r) :
  Calls Tryz.prog 73 #[Value.string a0] wa (Sc Ha wa (Value.tuple #[Value.int .u8 r.1, Value.string r.2.1, Value.string r.2.2])) := by
 unfold PF.spec_l22Parts at hp
 have S0 := St.init hs
 refine calls_go (N := 31) (args := [Value.string a0]) Tryz.func73 rfl rfl rfl ?_
 refine FW.seq (FW.region ?_)
 refine FL.v (E.assign (v := Value.int .u8 0) rfl) ?_
 refine FL.v (E.assign (v := Value.string (ByteArray.mk #[])) rfl) ?_
 refine FL.v (E.assign (v := Value.string (ByteArray.mk #[])) rfl) ?_
 refine FL.nil (FW.seq (FW.seq (FW.region ?_)))
 refine FL.v (E.move (v := Value.string a0) rfl) ?_
 obtain ⟨z21, h22, hp⟩ := bnd hp
 refine FL.v (E.ixS Tryz.runUnderlying9 rfl rfl h22) ?_
 refine FL.v (E.eql rfl rfl) ?_
 refine FL.nil ?_
 rcases ifB hp with ⟨c23, hp⟩ | ⟨c23, hp⟩
 ·
  refine FW.condT rfl c23 ?_
  refine FW.seq ?_
  refine FW.draw (fun w' => Run wa.heap.size Ha wa Ha w') (by kernel_rfl) (by kernel_rfl) (run_drew S0.sl) ?_
  refine FD.val rfl rfl rfl (fun w' hw' => (E.move (v := Value.string a0) rfl)) ?_
  obtain ⟨z25, h26, hp⟩ := bnd hp
  refine FD.val rfl rfl rfl (fun w' hw' => (E.cutS (kl := .i64) (kh := .i64) Tryz.underlying9 rfl (.inr ⟨_, rfl, rfl⟩) (.inl ⟨rfl, rfl⟩) h26)) ?_
  refine FD.val rfl rfl rfl (fun w' hw' => (E.assign (v := Value.int .u8 126) rfl)) ?_
  refine FD.val rfl rfl rfl (fun w' hw' => (E.assign (v := Value.string z25) rfl)) ?_
  refine FD.val rfl rfl rfl (fun w' hw' => (E.assign (v := Value.string (ByteArray.mk #[])) rfl)) ?_
  refine FD.nil ?_
  intro w27 r29
  have S28 := S0.call r29
  refine FW.ret ?_
  obtain rfl := Option.some.inj hp
  exact ⟨.inr rfl, res3 rfl rfl rfl rfl ⟨rfl, S28.back⟩⟩
 ·
  refine FW.condF rfl c23 ?_
  refine FW.skip (FW.seq (FW.seq (FW.region ?_)))
  refine FL.v (E.move (v := Value.string a0) rfl) ?_
  obtain ⟨z30, h31, hp⟩ := bnd hp
  refine FL.v (E.ixS Tryz.runUnderlying9 rfl rfl h31) ?_
  refine FL.v (E.neq rfl rfl) ?_
  refine FL.nil ?_
  rcases ifB hp with ⟨c32, hp⟩ | ⟨c32, hp⟩
  ·
   refine FW.condT rfl c32 ?_
   refine FW.seq (FW.region ?_)
   refine FL.v (E.move (v := Value.string a0) rfl) ?_
   obtain ⟨z33, h34, hp⟩ := bnd hp
   refine FL.v (E.ixS Tryz.runUnderlying9 rfl rfl h34) ?_
   refine FL.v (E.assign (v := Value.int .u8 z33) rfl) ?_
   refine FL.v (E.assign (v := Value.string (ByteArray.mk #[])) rfl) ?_
   refine FL.v (E.assign (v := Value.string (ByteArray.mk #[])) rfl) ?_
   refine FL.nil ?_
   refine FW.ret ?_
   obtain rfl := Option.some.inj hp
   exact ⟨.inr rfl, res3 rfl rfl rfl rfl ⟨rfl, S0.back⟩⟩
  ·
   refine FW.condF rfl c32 ?_
   refine FW.skip (FW.seq (FW.region ?_))
   refine FL.v (E.move (v := Value.string a0) rfl) ?_
   obtain ⟨r35, hr36, hp⟩ := bnd hp
   refine FL.call rfl rfl rfl (E.call Tryz.call98 (A2 rfl rfl)) (w_spec_l22End S0.sl a0 1 hr36) ?_
   rintro e w37 ⟨rfl, r38⟩
   refine ⟨_, rfl, ?_⟩
   have S39 := S0.call r38
   refine FL.v (E.assign (v := Value.int .i64 r35) rfl) ?_
   refine FL.nil (FW.seq ?_)
   refine FW.draw (fun w' => Run w37.heap.size Ha w37 Ha w') (by kernel_rfl) (by kernel_rfl) (run_drew S39.sl) ?_
   refine FD.val rfl rfl rfl (fun w' hw' => (E.move (v := Value.string a0) rfl)) ?_
   refine FD.val rfl rfl rfl (fun w' hw' => (E.move (v := Value.int .i64 r35) rfl)) ?_
   obtain ⟨z41, h42, hp⟩ := bnd hp
   refine FD.val rfl rfl rfl (fun w' hw' => (E.ixS Tryz.runUnderlying9 rfl rfl h42)) ?_
   refine FD.val rfl rfl rfl (fun w' hw' => (E.move (v := Value.string a0) rfl)) ?_
   refine FD.val rfl rfl rfl (fun w' hw' => (E.move (v := Value.int .i64 r35) rfl)) ?_
   obtain ⟨z43, h44, hp⟩ := bnd hp
   refine FD.val rfl rfl rfl (fun w' hw' => (E.cutS (kl := .i64) (kh := .i64) Tryz.underlying9 rfl (.inr ⟨_, rfl, rfl⟩) (.inr ⟨_, rfl, rfl⟩) h44)) ?_
   refine FD.val rfl rfl rfl (fun w' hw' => (E.move (v := Value.string a0) rfl)) ?_
   refine FD.val rfl rfl rfl (fun w' hw' => (E.move (v := Value.int .i64 r35) rfl)) ?_
   refine FD.val rfl rfl rfl (fun w' hw' => (E.add rfl rfl)) ?_
   refine FD.val rfl rfl rfl (fun w' hw' => (E.move (v := Value.string a0) rfl)) ?_
   refine FD.val rfl rfl rfl (fun w' hw' => (E.lenS Tryz.runUnderlying9 rfl)) ?_
   refine FD.val rfl rfl rfl (fun w' hw' => (E.sub rfl rfl)) ?_
   obtain ⟨z45, h46, hp⟩ := bnd hp
   refine FD.val rfl rfl rfl (fun w' hw' => (E.cutS (kl := .i64) (kh := .i64) Tryz.underlying9 rfl (.inr ⟨_, rfl, rfl⟩) (.inr ⟨_, rfl, rfl⟩) h46)) ?_
   refine FD.val rfl rfl rfl (fun w' hw' => (E.assign (v := Value.int .u8 z41) rfl)) ?_
   refine FD.val rfl rfl rfl (fun w' hw' => (E.assign (v := Value.string z43) rfl)) ?_
   refine FD.val rfl rfl rfl (fun w' hw' => (E.assign (v := Value.string z45) rfl)) ?_
   refine FD.nil ?_
   intro w47 r49
   have S48 := S39.call r49
   refine FW.ret ?_
   obtain rfl := Option.some.inj hp
   exact ⟨.inr rfl, res3 rfl rfl rfl rfl ⟨rfl, S48.back⟩⟩

@[reducible] def p_spec_l22All (Ha : GH) (wa : World) (r : (List ByteArray)) : Ending → World → Prop :=
 fun e w' => ∃ H' : GH, ∃ v0 : Value, e = .returned (v0) ∧ Run wa.heap.size Ha wa H' w' ∧ RSl H' eS 1 v0 r
set_option maxHeartbeats 4000000 in
theorem w_spec_l22All_B {rec_spec_l22All : (List ByteArray) → ByteArray → Option (List ByteArray)} (hrec_spec_l22All : ∀ {Ha : GH} {wa : World} (hs : Sl Ha wa) (v0 : Value) (a0 : List ByteArray) (p0 : RSl Ha eS 1 v0 a0) (a1 : ByteArray) {r : (List ByteArray)} (hp : rec_spec_l22All a0 a1 = some r), Calls Tryz.prog 83 #[v0, Value.string a1] wa (p_spec_l22All Ha wa r)) {Ha : GH} {wa : World} (hs : Sl Ha wa) (v0 : Value) (a0 : List ByteArray) (p0 : RSl Ha eS 1 v0 a0) (a1 : ByteArray) {r : (List ByteArray)} (hp : PF.spec_l22All_B rec_spec_l22All a0 a1 = some r) :
  Calls Tryz.prog 83 #[v0, Value.string a1] wa (p_spec_l22All Ha wa r) := by
 unfold PF.spec_l22All_B at hp
 have S0 := St.init hs
 refine calls_go (N := 33) (args := [v0, Value.string a1]) Tryz.func83 rfl rfl rfl ?_
 refine FW.seq (FW.region ?_)
 refine FL.v (E.assign (v := Value.slice none 0 0) rfl) ?_
 refine FL.nil (FW.seq (FW.region ?_))
 refine FL.v (E.move (v := v0) rfl) ?_
 refine FL.v (E.move (v := Value.string a1) rfl) ?_
 obtain ⟨r21, hr22, hp⟩ := bnd hp
 refine FL.call rfl rfl rfl (E.call Tryz.call101 (A2 rfl rfl)) (w_spec_l22Put S0.sl v0 a0 p0 a1 hr22) ?_
 rintro e w24 ⟨H23, v27, rfl, r26, h28⟩
 refine ⟨_, rfl, ?_⟩
 have S25 := S0.call r26
 refine FL.v (E.assign (v := v27) rfl) ?_
 refine FL.nil (FW.seq (FW.region ?_))
 refine FL.v (E.move (v := Value.string a1) rfl) ?_
 obtain ⟨r29, hr30, hp⟩ := bnd hp
 refine FL.call rfl rfl rfl (E.call Tryz.call73 (A1 rfl)) (w_spec_l22Parts S25.sl a1 hr30) ?_
 rintro e w31 ⟨rfl, r32⟩
 refine ⟨_, rfl, ?_⟩
 have S33 := S25.call r32
 refine FL.v (E.move (v := Value.tuple #[Value.int .u8 r29.1, Value.string r29.2.1, Value.string r29.2.2]) rfl) ?_
 refine FL.v (E.extract (i := 0) rfl rfl) ?_
 refine FL.v (E.extract (i := 1) rfl rfl) ?_
 refine FL.v (E.extract (i := 2) rfl rfl) ?_
 refine FL.v (E.assign (v := Value.int .u8 r29.1) rfl) ?_
 refine FL.v (E.assign (v := Value.string r29.2.1) rfl) ?_
 refine FL.v (E.assign (v := Value.string r29.2.2) rfl) ?_
 refine FL.nil (FW.seq (FW.seq (FW.region ?_)))
 refine FL.v (E.move (v := Value.int .u8 r29.1) rfl) ?_
 refine FL.nil (FW.block (FW.seq (FW.region ?_)))
 refine FL.v (E.eql rfl rfl) ?_
 refine FL.v (E.assign (v := Value.bool (r29.1 == 126)) rfl) ?_
 refine FL.nil ?_
 rcases ifB hp with ⟨c34, hp⟩ | ⟨c34, hp⟩
 ·
  refine FW.condT rfl c34 ?_
  refine FW.seq (FW.region ?_)
  refine FL.v (E.move (v := v27) rfl) ?_
  refine FL.v (E.move (v := Value.string r29.2.1) rfl) ?_
  obtain ⟨r35, hr36, hp⟩ := bnd hp
  refine FL.call rfl rfl rfl (E.call Tryz.call83 (A2 rfl rfl)) (hrec_spec_l22All S33.sl v27 r21 h28 r29.2.1 hr36) ?_
  rintro e w38 ⟨H37, v41, rfl, r40, h42⟩
  refine ⟨_, rfl, ?_⟩
  have S39 := S33.call r40
  refine FL.v (E.assign (v := v41) rfl) ?_
  refine FL.nil ?_
  refine FW.ret ?_
  obtain rfl := Option.some.inj hp
  exact ⟨.inr rfl, res1 rfl rfl ⟨_, _, rfl, S39.run, h42⟩⟩
 ·
  refine FW.condF rfl c34 ?_
  refine FW.seq (FW.seq (FW.region ?_))
  refine FL.v (E.eql rfl rfl) ?_
  refine FL.v (E.assign (v := Value.bool (r29.1 == 38)) rfl) ?_
  refine FL.nil ?_
  obtain ⟨q46, hq, hp⟩ := bndR hp
  refine FW.joinE (S := Bool) (X := Empty) (q := q46) (fun s45 f w => ∃ H : GH, St Ha wa H w [] ∧ Inc H23 H ∧ f 0 = v27 ∧ f 6 = Value.string r29.2.1 ∧ f 7 = Value.string r29.2.2 ∧ f 23 = Value.bool s45) (fun (_ : Empty) _ _ _ => False) ?_ ?_ ?_
  ·
   clear hp; have hp := hq; clear hq
   rcases ifB hp with ⟨c48, hp⟩ | ⟨c48, hp⟩
   ·
    refine FW.condT rfl c48 ?_
    refine FW.skip ?_
    obtain rfl := Option.some.inj hp
    exact ⟨rfl, ⟨_, S33, (Inc.rfl _), rfl, rfl, rfl, rfl⟩⟩
   ·
    refine FW.condF rfl c48 ?_
    refine FW.seq (FW.region ?_)
    refine FL.v (E.eql rfl rfl) ?_
    refine FL.v (E.assign (v := Value.bool (r29.1 == 124)) rfl) ?_
    refine FL.nil ?_
    rcases ifB hp with ⟨c49, hp⟩ | ⟨c49, hp⟩
    ·
     refine FW.condT rfl c49 ?_
     refine FW.skip ?_
     obtain rfl := Option.some.inj hp
     exact ⟨rfl, ⟨_, S33, (Inc.rfl _), rfl, rfl, rfl, rfl⟩⟩
    ·
     refine FW.condF rfl c49 ?_
     refine FW.region ?_
     refine FL.v (E.eql rfl rfl) ?_
     refine FL.v (E.assign (v := Value.bool (r29.1 == 62)) rfl) ?_
     refine FL.nil ?_
     obtain rfl := Option.some.inj hp
     exact ⟨rfl, ⟨_, S33, (Inc.rfl _), rfl, rfl, rfl, rfl⟩⟩
  ·
   rintro s45 rfl f54 w53 ⟨H50, S51, i52, k55, k56, k57, k58⟩
   replace hp := el_go hp
   rcases ifB hp with ⟨c59, hp⟩ | ⟨c59, hp⟩
   ·
    refine FW.condT k58 c59 ?_
    refine FW.seq (FW.region ?_)
    refine FL.v (E.move k55) ?_
    refine FL.v (E.move k56) ?_
    obtain ⟨r60, hr61, hp⟩ := bnd hp
    refine FL.call rfl rfl rfl (E.call Tryz.call83 (A2 rfl rfl)) (hrec_spec_l22All S51.sl v27 r21 (h28.mono i52) r29.2.1 hr61) ?_
    rintro e w63 ⟨H62, v66, rfl, r65, h67⟩
    refine ⟨_, rfl, ?_⟩
    have S64 := S51.call r65
    refine FL.v (E.move k57) ?_
    obtain ⟨r68, hr69, hp⟩ := bnd hp
    refine FL.call rfl rfl rfl (E.call Tryz.call83 (A2 rfl rfl)) (hrec_spec_l22All S64.sl v66 r60 h67 r29.2.2 hr69) ?_
    rintro e w71 ⟨H70, v74, rfl, r73, h75⟩
    refine ⟨_, rfl, ?_⟩
    have S72 := S64.call r73
    refine FL.v (E.assign (v := v74) rfl) ?_
    refine FL.nil ?_
    refine FW.ret ?_
    obtain rfl := Option.some.inj hp
    exact ⟨.inr rfl, res1 rfl rfl ⟨_, _, rfl, S72.run, h75⟩⟩
   ·
    refine FW.condF k58 c59 ?_
    refine FW.skip (FW.seq (FW.region ?_))
    refine FL.v (E.move k55) ?_
    refine FL.v (E.assign (v := v27) rfl) ?_
    refine FL.nil ?_
    refine FW.ret ?_
    obtain rfl := Option.some.inj hp
    exact ⟨.inr rfl, res1 rfl rfl ⟨_, _, rfl, S51.run, (h28.mono i52)⟩⟩
  ·
   intro x47; exact x47.elim
theorem w_spec_l22All_F (n : Nat) : ∀ {Ha : GH} {wa : World} (hs : Sl Ha wa) (v0 : Value) (a0 : List ByteArray) (p0 : RSl Ha eS 1 v0 a0) (a1 : ByteArray) {r : (List ByteArray)} (hp : PF.spec_l22All_F n a0 a1 = some r), Calls Tryz.prog 83 #[v0, Value.string a1] wa (p_spec_l22All Ha wa r) := by
 induction n with
 | zero => intros; rename_i hp; exact nomatch hp
 | succ n ih => exact w_spec_l22All_B (rec_spec_l22All := PF.spec_l22All_F n) ih
theorem w_spec_l22All {Ha : GH} {wa : World} (hs : Sl Ha wa) (v0 : Value) (a0 : List ByteArray) (p0 : RSl Ha eS 1 v0 a0) (a1 : ByteArray) {r : (List ByteArray)} (hp : PF.spec_l22All a0 a1 = some r) :
  Calls Tryz.prog 83 #[v0, Value.string a1] wa (p_spec_l22All Ha wa r) := w_spec_l22All_F deep hs v0 a0 p0 a1 hp

theorem w_spec_l22Letter {Ha : GH} {wa : World} (hs : Sl Ha wa) (a0 : ByteArray) {r : Bool} (hp : (PF.spec_l22Letter a0) = some r) :
  Calls Tryz.prog 84 #[Value.string a0] wa (Sc Ha wa (Value.bool r)) := by
 unfold PF.spec_l22Letter at hp
 have S0 := St.init hs
 refine calls_go (N := 16) (args := [Value.string a0]) Tryz.func84 rfl rfl rfl ?_
 refine FW.seq (FW.region ?_)
 refine FL.v (E.assign (v := Value.bool false) rfl) ?_
 refine FL.nil (FW.seq (FW.region ?_))
 refine FL.v (E.move (v := Value.string a0) rfl) ?_
 refine FL.v (E.lenS Tryz.runUnderlying9 rfl) ?_
 refine FL.v (E.eql rfl rfl) ?_
 refine FL.v (E.move (v := Value.bool ((a0.size : Int) == 1)) rfl) ?_
 obtain ⟨t23, hqt23, hp⟩ := bnd hp
 refine FL.cut 4 (fun f w => ∃ H : GH, St Ha wa H w [] ∧ Inc Ha H ∧ f 0 = Value.string a0 ∧ f 10 = Value.bool t23) ?_ ?_
 ·
  clear hp; have hp := hqt23; clear hqt23
  rcases ifB hp with ⟨c29, hp⟩ | ⟨c29, hp⟩
  ·
   refine FL.val (wF_yes rfl rfl rfl c29) rfl rfl (E.move (v := Value.string a0) rfl) ?_
   obtain ⟨z30, h31, hp⟩ := bnd hp
   refine FL.val (wF_yes rfl rfl rfl c29) rfl rfl (E.ixS Tryz.runUnderlying9 rfl rfl h31) ?_
   refine FL.val (wF_yes rfl rfl rfl c29) rfl rfl (E.geq rfl rfl) ?_
   obtain rfl := Option.some.inj hp
   refine FL.v (E.pickT rfl c29 rfl) ?_
   exact FL.nil ⟨rfl, _, S0, (Inc.rfl _), rfl, rfl⟩
  ·
   refine FL.skip (wF_no rfl rfl rfl c29) rfl ?_
   refine FL.skip (wF_no rfl rfl rfl c29) rfl ?_
   refine FL.skip (wF_no rfl rfl rfl c29) rfl ?_
   obtain rfl := Option.some.inj hp
   refine FL.v (E.pickF rfl c29 rfl) ?_
   exact FL.nil ⟨rfl, _, S0, (Inc.rfl _), rfl, rfl⟩
 rintro f28 w27 ⟨H24, S25, i26, k32, k33⟩
 refine FL.v (E.move k33) ?_
 obtain ⟨t36, hqt36, hp⟩ := bnd hp
 refine FL.cut 4 (fun f w => ∃ H : GH, St Ha wa H w [] ∧ Inc H24 H ∧ f 15 = Value.bool t36) ?_ ?_
 ·
  clear hp; have hp := hqt36; clear hqt36
  rcases ifB hp with ⟨c42, hp⟩ | ⟨c42, hp⟩
  ·
   refine FL.val (wF_yes rfl rfl rfl c42) rfl rfl (E.move k32) ?_
   obtain ⟨z43, h44, hp⟩ := bnd hp
   refine FL.val (wF_yes rfl rfl rfl c42) rfl rfl (E.ixS Tryz.runUnderlying9 rfl rfl h44) ?_
   refine FL.val (wF_yes rfl rfl rfl c42) rfl rfl (E.leq rfl rfl) ?_
   obtain rfl := Option.some.inj hp
   refine FL.v (E.pickT rfl c42 rfl) ?_
   exact FL.nil ⟨rfl, _, S25, (Inc.rfl _), rfl⟩
  ·
   refine FL.skip (wF_no rfl rfl rfl c42) rfl ?_
   refine FL.skip (wF_no rfl rfl rfl c42) rfl ?_
   refine FL.skip (wF_no rfl rfl rfl c42) rfl ?_
   obtain rfl := Option.some.inj hp
   refine FL.v (E.pickF rfl c42 rfl) ?_
   exact FL.nil ⟨rfl, _, S25, (Inc.rfl _), rfl⟩
 rintro f41 w40 ⟨H37, S38, i39, k45⟩
 refine FL.v (E.assign k45) ?_
 refine FL.nil ?_
 refine FW.ret ?_
 obtain rfl := Option.some.inj hp
 exact ⟨.inr rfl, res1 rfl rfl ⟨rfl, S38.back⟩⟩

set_option maxHeartbeats 4000000 in
theorem w_spec_l22Var {Ha : GH} {wa : World} (hs : Sl Ha wa) (v0 : Value) (a0 : List ByteArray) (p0 : RSl Ha eS 1 v0 a0) (a1 : ByteArray) {r : Int} (hp : (PF.spec_l22Var a0 a1) = some r) :
  Calls Tryz.prog 86 #[v0, Value.string a1] wa (Sc Ha wa (Value.int .i64 r)) := by
 unfold PF.spec_l22Var at hp
 have S0 := St.init hs
 refine calls_go (N := 27) (args := [v0, Value.string a1]) Tryz.func86 rfl rfl rfl ?_
 refine FW.seq (FW.region ?_)
 refine FL.v (E.assign (v := Value.int .i64 0) rfl) ?_
 refine FL.nil (FW.seq (FW.seq (FW.region ?_)))
 refine FL.v (E.move (v := Value.string a1) rfl) ?_
 obtain ⟨r21, hr22, hp⟩ := bnd hp
 refine FL.call rfl rfl rfl (E.call Tryz.call84 (A1 rfl)) (w_spec_l22Letter S0.sl a1 hr22) ?_
 rintro e w23 ⟨rfl, r24⟩
 refine ⟨_, rfl, ?_⟩
 have S25 := S0.call r24
 refine FL.nil ?_
 rcases ifB hp with ⟨c26, hp⟩ | ⟨c26, hp⟩
 ·
  refine FW.condT rfl c26 ?_
  refine FW.seq (FW.region ?_)
  refine FL.v (E.move (v := Value.string a1) rfl) ?_
  obtain ⟨z27, h28, hp⟩ := bnd hp
  refine FL.v (E.ixS Tryz.runUnderlying9 rfl rfl h28) ?_
  refine FL.v (E.subK rfl rfl) ?_
  refine FL.v (E.conv Tryz.runUnderlying5 Tryz.runUnderlying3 rfl) ?_
  refine FL.v (E.add rfl rfl) ?_
  refine FL.v (E.assign (v := Value.int .i64 (wr ((wrk true 64 (wrk false 8 (z27 - 97))) + 1))) rfl) ?_
  refine FL.nil ?_
  refine FW.ret ?_
  obtain rfl := Option.some.inj hp
  exact ⟨.inr rfl, res1 rfl rfl ⟨rfl, S25.back⟩⟩
 ·
  refine FW.condF rfl c26 ?_
  refine FW.skip (FW.seq (FW.seq (FW.region ?_)))
  refine FL.v (E.assign (v := Value.int .i64 0) rfl) ?_
  refine FL.nil ?_
  obtain ⟨q30, hq, hp⟩ := bndR hp
  refine FW.block ?_
  refine FW.mono (FW.forL (S := Unit) (X := Int) (fun (i30 : Nat) (s30 : Unit) f w => ∃ H : GH, St Ha wa H w [] ∧ Inc Ha H ∧ f 5 = Value.int .i64 ((i30 : Nat) : Int) ∧ f 0 = v0 ∧ f 1 = Value.string a1) (fun q e f w => match q with | .go s30 => e = Exit.exit 0 ∧ (∃ H : GH, St Ha wa H w [] ∧ Inc Ha H) | .rt x => ((e = Exit.ret) ∧ (fun e f w => (e = Exit.normal ∨ e = Exit.ret) ∧ ∀ a, Fr (δ := []) 27 a f → ∃ v, (results Tryz.f86 a.tmps).run Tryz.prog w = .ok v w ∧ (Sc Ha wa (Value.int .i64 x)) (.returned v) w) e f w)) hq ⟨_, S25, (Inc.rfl _), rfl, rfl, rfl⟩ ?_ ?_) ?_
  ·
   clear hp hq
   rintro i30 y29 s30 f50 w49 ⟨H46, S47, i48, k51, k52, k53⟩ hx30 o61 hp
   refine FW.seq (FW.seq (FW.region ?_))
   refine FL.v (E.move k51) ?_
   refine FL.v (E.move k52) ?_
   refine FL.v (E.lenP te22 rfl p0) ?_
   refine FL.v (E.lssT rfl rfl (lss_len hx30)) ?_
   refine FL.nil ?_
   refine FW.condT rfl rfl ?_
   refine FW.skip (FW.seq (FW.block (FW.seq (FW.region ?_))))
   refine FL.v (E.move k52) ?_
   refine FL.v (E.move k51) ?_
   obtain ⟨p54, cs55, pt56, l57, at58, rel59⟩ := p0.at (ix_nat hx30)
   obtain rfl := eS_open rel59
   refine FL.v (E.indexAddr te22 rfl rfl pt56) ?_
   refine FL.v (E.load rfl (run_load0 Tryz.isAgg9 ((at58.mono i48).now S47.sl) rfl)) ?_
   refine FL.v (E.move k53) ?_
   refine FL.v (E.eqlS rfl rfl) ?_
   refine FL.nil ?_
   rcases ifB hp with ⟨c60, hp⟩ | ⟨c60, hp⟩
   ·
    refine FW.condT rfl c60 ?_
    refine FW.seq (FW.region ?_)
    refine FL.v (E.move k51) ?_
    refine FL.v (E.add rfl rfl) ?_
    refine FL.v (E.assign (v := Value.int .i64 (wr (((i30 : Nat) : Int) + 7))) rfl) ?_
    refine FL.nil ?_
    refine FW.ret ?_
    obtain rfl := Option.some.inj hp
    exact ⟨nofun, rfl, ⟨.inr rfl, res1 rfl rfl ⟨rfl, S47.back⟩⟩⟩
   ·
    refine FW.condF rfl c60 ?_
    refine FW.skip (FW.region ?_)
    refine FL.v (E.move k51) ?_
    refine FL.v (E.add rfl rfl) ?_
    refine FL.v (E.assign (v := Value.int .i64 (wr (((i30 : Nat) : Int) + 1))) rfl) ?_
    refine FL.nil ?_
    obtain rfl := Option.some.inj hp
    exact ⟨rfl, ⟨_, S47, i48, (nat_succ rfl (lt_of_get hx30) (p0.mono i48).le), k52, k53⟩⟩
  ·
   clear hp hq
   rintro s30 f71 w70 ⟨H67, S68, i69, k72, k73, k74⟩
   refine FW.seq (FW.seq (FW.region ?_))
   refine FL.v (E.move k72) ?_
   refine FL.v (E.move k73) ?_
   refine FL.v (E.lenP te22 rfl p0) ?_
   refine FL.v (E.lss rfl rfl) ?_
   refine FL.nil ?_
   refine FW.condF rfl dlt_len ?_
   refine FW.exit ?_
   exact ⟨nofun, rfl, ⟨_, S68, i69⟩⟩
  ·
   clear hq
   intro e f66 w65 hD
   rcases q30 with s30 | x30
   ·
    obtain ⟨rfl, hD⟩ := hD
    obtain ⟨H62, S63, i64⟩ := hD
    replace hp := el_go hp
    refine FW.seq (FW.region ?_)
    refine FL.v (E.assign (v := Value.int .i64 0) rfl) ?_
    refine FL.nil ?_
    refine FW.ret ?_
    obtain rfl := Option.some.inj hp
    exact ⟨.inr rfl, res1 rfl rfl ⟨rfl, S63.back⟩⟩
   ·
    obtain ⟨he, hL⟩ := hD
    replace hp := el_rt hp
    obtain rfl := Option.some.inj hp
    subst he
    exact hL

@[reducible] def p_spec_l1Own (Ha : GH) (wa : World) (r : (List Int)) : Ending → World → Prop :=
 fun e w' => ∃ H' : GH, ∃ v0 : Value, ∃ n0 : Nat, ∃ c0 : List Value, e = .returned (v0) ∧ St Ha wa H' w' [.row 3 1 v0 n0 c0] ∧ Els (up wa.heap.size H') eI 1 c0 r
theorem w_spec_l1Own {Ha : GH} {wa : World} (hs : Sl Ha wa) (v0 : Value) (a0 : List Int) (p0 : RSl Ha eI 1 v0 a0) {r : (List Int)} (hp : (PF.spec_l1Own a0) = some r) :
  Calls Tryz.prog 233 #[v0] wa (p_spec_l1Own Ha wa r) := by
 unfold PF.spec_l1Own at hp
 have S0 := St.init hs
 refine calls_go (N := 6) (args := [v0]) Tryz.func233 rfl rfl rfl ?_
 refine FW.seq (FW.region ?_)
 refine FL.v (E.assign (v := Value.slice none 0 0) rfl) ?_
 refine FL.nil (FW.seq (FW.region ?_))
 obtain ⟨v21, w22, run23, S24⟩ := S0.buildSlice (P := Tryz.prog) te82 [] (parts := #[]) (cells := []) rfl szs_nil fc_nil ones_nil (Nat.le_of_ble_eq_true rfl)
 have els25 : Els (up wa.heap.size Ha) eI 1 [] [] := Els.nil
 refine FL.v (E.buildSlice (B0) run23) ?_
 refine FL.v (E.move (v := v0) rfl) ?_
 obtain ⟨xs26, hz27, hp⟩ := bnd hp
 obtain ⟨v28, w31, n29, cs30, run32, S33, els34⟩ := S24.appendP (P := Tryz.prog) (Inc.rfl _) te82 (i := 0) rfl (els25.mono upI) p0 hz27
 have S33 : St Ha wa Ha w31 [.row 3 1 v28 n29 cs30] := S33
 have els34 : Els (up wa.heap.size Ha) eI 1 cs30 xs26 := els34.any (fun _ _ _ _ h => h)
 refine FL.v (E.append rfl rfl run32) ?_
 refine FL.v (E.assign (v := v28) rfl) ?_
 refine FL.nil ?_
 refine FW.ret ?_
 obtain rfl := Option.some.inj hp
 exact ⟨.inr rfl, res1 rfl rfl ⟨_, _, _, _, rfl, S33, els34⟩⟩

theorem w_spec_l1Has {Ha : GH} {wa : World} (hs : Sl Ha wa) (v0 : Value) (a0 : List Int) (p0 : RSl Ha eI 1 v0 a0) (a1 : Int) {r : Bool} (hp : (PF.spec_l1Has a0 a1) = some r) :
  Calls Tryz.prog 256 #[v0, Value.int .i64 a1] wa (Sc Ha wa (Value.bool r)) := by
 unfold PF.spec_l1Has at hp
 have S0 := St.init hs
 refine calls_go (N := 18) (args := [v0, Value.int .i64 a1]) Tryz.func256 rfl rfl rfl ?_
 refine FW.seq (FW.region ?_)
 refine FL.v (E.assign (v := Value.bool false) rfl) ?_
 refine FL.nil (FW.seq (FW.seq (FW.region ?_)))
 refine FL.v (E.assign (v := Value.int .i64 0) rfl) ?_
 refine FL.nil ?_
 obtain ⟨q22, hq, hp⟩ := bndR hp
 refine FW.block ?_
 refine FW.mono (FW.forL (S := Unit) (X := Bool) (fun (i22 : Nat) (s22 : Unit) f w => ∃ H : GH, St Ha wa H w [] ∧ Inc Ha H ∧ f 5 = Value.int .i64 ((i22 : Nat) : Int) ∧ f 0 = v0 ∧ f 1 = Value.int .i64 a1) (fun q e f w => match q with | .go s22 => e = Exit.exit 0 ∧ (∃ H : GH, St Ha wa H w [] ∧ Inc Ha H) | .rt x => ((e = Exit.ret) ∧ (fun e f w => (e = Exit.normal ∨ e = Exit.ret) ∧ ∀ a, Fr (δ := []) 18 a f → ∃ v, (results Tryz.f256 a.tmps).run Tryz.prog w = .ok v w ∧ (Sc Ha wa (Value.bool x)) (.returned v) w) e f w)) hq ⟨_, S0, (Inc.rfl _), rfl, rfl, rfl⟩ ?_ ?_) ?_
 ·
  clear hp hq
  rintro i22 y21 s22 f42 w41 ⟨H38, S39, i40, k43, k44, k45⟩ hx22 o53 hp
  refine FW.seq (FW.seq (FW.region ?_))
  refine FL.v (E.move k43) ?_
  refine FL.v (E.move k44) ?_
  refine FL.v (E.lenP te82 rfl p0) ?_
  refine FL.v (E.lssT rfl rfl (lss_len hx22)) ?_
  refine FL.nil ?_
  refine FW.condT rfl rfl ?_
  refine FW.skip (FW.seq (FW.block (FW.seq (FW.region ?_))))
  refine FL.v (E.move k44) ?_
  refine FL.v (E.move k43) ?_
  obtain ⟨p46, cs47, pt48, l49, at50, rel51⟩ := p0.at (ix_nat hx22)
  obtain rfl := eI_open rel51
  refine FL.v (E.indexAddr te82 rfl rfl pt48) ?_
  refine FL.v (E.load rfl (run_load0 Tryz.isAgg3 ((at50.mono i40).now S39.sl) rfl)) ?_
  refine FL.v (E.move k45) ?_
  refine FL.v (E.eql rfl rfl) ?_
  refine FL.nil ?_
  rcases ifB hp with ⟨c52, hp⟩ | ⟨c52, hp⟩
  ·
   refine FW.condT rfl c52 ?_
   refine FW.seq (FW.region ?_)
   refine FL.v (E.assign (v := Value.bool true) rfl) ?_
   refine FL.nil ?_
   refine FW.ret ?_
   obtain rfl := Option.some.inj hp
   exact ⟨nofun, rfl, ⟨.inr rfl, res1 rfl rfl ⟨rfl, S39.back⟩⟩⟩
  ·
   refine FW.condF rfl c52 ?_
   refine FW.skip (FW.region ?_)
   refine FL.v (E.move k43) ?_
   refine FL.v (E.add rfl rfl) ?_
   refine FL.v (E.assign (v := Value.int .i64 (wr (((i22 : Nat) : Int) + 1))) rfl) ?_
   refine FL.nil ?_
   obtain rfl := Option.some.inj hp
   exact ⟨rfl, ⟨_, S39, i40, (nat_succ rfl (lt_of_get hx22) (p0.mono i40).le), k44, k45⟩⟩
 ·
  clear hp hq
  rintro s22 f63 w62 ⟨H59, S60, i61, k64, k65, k66⟩
  refine FW.seq (FW.seq (FW.region ?_))
  refine FL.v (E.move k64) ?_
  refine FL.v (E.move k65) ?_
  refine FL.v (E.lenP te82 rfl p0) ?_
  refine FL.v (E.lss rfl rfl) ?_
  refine FL.nil ?_
  refine FW.condF rfl dlt_len ?_
  refine FW.exit ?_
  exact ⟨nofun, rfl, ⟨_, S60, i61⟩⟩
 ·
  clear hq
  intro e f58 w57 hD
  rcases q22 with s22 | x22
  ·
   obtain ⟨rfl, hD⟩ := hD
   obtain ⟨H54, S55, i56⟩ := hD
   replace hp := el_go hp
   refine FW.seq (FW.region ?_)
   refine FL.v (E.assign (v := Value.bool false) rfl) ?_
   refine FL.nil ?_
   refine FW.ret ?_
   obtain rfl := Option.some.inj hp
   exact ⟨.inr rfl, res1 rfl rfl ⟨rfl, S55.back⟩⟩
  ·
   obtain ⟨he, hL⟩ := hD
   replace hp := el_rt hp
   obtain rfl := Option.some.inj hp
   subst he
   exact hL

theorem w_spec_l2Has {Ha : GH} {wa : World} (hs : Sl Ha wa) (v0 : Value) (a0 : List Int) (p0 : RSl Ha eI 1 v0 a0) (a1 : Int) {r : Bool} (hp : (PF.spec_l2Has a0 a1) = some r) :
  Calls Tryz.prog 234 #[v0, Value.int .i64 a1] wa (Sc Ha wa (Value.bool r)) := by
 unfold PF.spec_l2Has at hp
 have S0 := St.init hs
 refine calls_go (N := 8) (args := [v0, Value.int .i64 a1]) Tryz.func234 rfl rfl rfl ?_
 refine FW.seq (FW.region ?_)
 refine FL.v (E.assign (v := Value.bool false) rfl) ?_
 refine FL.nil (FW.seq (FW.region ?_))
 refine FL.v (E.move (v := v0) rfl) ?_
 refine FL.v (E.move (v := Value.int .i64 a1) rfl) ?_
 obtain ⟨r21, hr22, hp⟩ := bnd hp
 refine FL.call rfl rfl rfl (E.call Tryz.call256 (A2 rfl rfl)) (w_spec_l1Has S0.sl v0 a0 p0 a1 hr22) ?_
 rintro e w23 ⟨rfl, r24⟩
 refine ⟨_, rfl, ?_⟩
 have S25 := S0.call r24
 refine FL.v (E.assign (v := Value.bool r21) rfl) ?_
 refine FL.nil ?_
 refine FW.ret ?_
 obtain rfl := Option.some.inj hp
 exact ⟨.inr rfl, res1 rfl rfl ⟨rfl, S25.back⟩⟩

theorem w_spec_l2Var {Ha : GH} {wa : World} (hs : Sl Ha wa) (a0 : Int) :
  Calls Tryz.prog 257 #[Value.int .i64 a0] wa (Sc Ha wa (Value.int .i64 (PF.spec_l2Var a0))) := by
 obtain ⟨r, hp⟩ : ∃ r, (PF.spec_l2Var a0) = r := ⟨_, rfl⟩
 rw [hp]
 unfold PF.spec_l2Var at hp
 have S0 := St.init hs
 refine calls_go (N := 8) (args := [Value.int .i64 a0]) Tryz.func257 rfl rfl rfl ?_
 refine FW.seq (FW.region ?_)
 refine FL.v (E.assign (v := Value.int .i64 0) rfl) ?_
 refine FL.nil (FW.seq (FW.seq (FW.region ?_)))
 refine FL.v (E.move (v := Value.int .i64 a0) rfl) ?_
 refine FL.v (E.lss rfl rfl) ?_
 refine FL.nil ?_
 rcases ifT hp with ⟨c21, hp⟩ | ⟨c21, hp⟩
 ·
  refine FW.condT rfl c21 ?_
  refine FW.seq (FW.region ?_)
  refine FL.v (E.move (v := Value.int .i64 a0) rfl) ?_
  refine FL.v (E.neg rfl) ?_
  refine FL.v (E.assign (v := Value.int .i64 (wr (-a0))) rfl) ?_
  refine FL.nil ?_
  refine FW.ret ?_
  obtain rfl := hp
  exact ⟨.inr rfl, res1 rfl rfl ⟨rfl, S0.back⟩⟩
 ·
  refine FW.condF rfl c21 ?_
  refine FW.skip (FW.seq (FW.region ?_))
  refine FL.v (E.move (v := Value.int .i64 a0) rfl) ?_
  refine FL.v (E.assign (v := Value.int .i64 a0) rfl) ?_
  refine FL.nil ?_
  refine FW.ret ?_
  obtain rfl := hp
  exact ⟨.inr rfl, res1 rfl rfl ⟨rfl, S0.back⟩⟩

@[reducible] def p_spec_l2Put (Ha : GH) (wa : World) (r : (List Int)) : Ending → World → Prop :=
 fun e w' => ∃ H' : GH, ∃ v0 : Value, ∃ n0 : Nat, ∃ c0 : List Value, e = .returned (v0) ∧ St Ha wa H' w' [.row 3 1 v0 n0 c0] ∧ Els (up wa.heap.size H') eI 1 c0 r
set_option maxHeartbeats 4000000 in
theorem w_spec_l2Put {Ha : GH} {wa : World} (hs : Sl Ha wa) (v0 : Value) (a0 : List Int) (p0 : RSl Ha eI 1 v0 a0) (a1 : Int) {r : (List Int)} (hp : (PF.spec_l2Put a0 a1) = some r) :
  Calls Tryz.prog 235 #[v0, Value.int .i64 a1] wa (p_spec_l2Put Ha wa r) := by
 unfold PF.spec_l2Put at hp
 have S0 := St.init hs
 refine calls_go (N := 33) (args := [v0, Value.int .i64 a1]) Tryz.func235 rfl rfl rfl ?_
 refine FW.seq (FW.region ?_)
 refine FL.v (E.assign (v := Value.slice none 0 0) rfl) ?_
 refine FL.nil (FW.seq (FW.region ?_))
 refine FL.v (E.assign (v := Value.int .i64 0) rfl) ?_
 refine FL.nil (FW.seq ?_)
 obtain ⟨q21, hq, hp⟩ := bndR hp
 refine FW.block ?_
 refine FW.mono (FW.iter (S := Int) (X := Empty) (fun (s21 : Int) f w => ∃ H : GH, St Ha wa H w [] ∧ Inc Ha H ∧ f 0 = v0 ∧ f 1 = Value.int .i64 a1 ∧ f 5 = Value.int .i64 s21) (fun (q : Rs Int Empty) e f w => match q with | .go s21 => e = Exit.exit 0 ∧ (∃ H : GH, St Ha wa H w [] ∧ Inc Ha H ∧ f 0 = v0 ∧ f 1 = Value.int .i64 a1 ∧ f 5 = Value.int .i64 s21) | .rt x => x.elim) hq ⟨_, S0, (Inc.rfl _), rfl, rfl, rfl⟩ ?_) ?_
 ·
  clear hp hq
  rintro s21 f74 w73 ⟨H70, S71, i72, k75, k76, k77⟩ o118 hp
  refine FW.seq (FW.seq (FW.region ?_))
  refine FL.v (E.move k77) ?_
  refine FL.v (E.move k75) ?_
  refine FL.v (E.lenP te82 rfl p0) ?_
  refine FL.v (E.lss rfl rfl) ?_
  refine FL.v (E.move (v := Value.bool (decide (s21 < (len a0)))) rfl) ?_
  obtain ⟨t92, hqt92, hp⟩ := bnd hp
  refine FL.cut 9 (fun f w => ∃ H : GH, St Ha wa H w [] ∧ Inc H70 H ∧ f 0 = v0 ∧ f 1 = Value.int .i64 a1 ∧ f 5 = Value.int .i64 s21 ∧ f 19 = Value.bool t92) ?_ ?_
  ·
   clear hp; have hp := hqt92; clear hqt92
   rcases ifB hp with ⟨c98, hp⟩ | ⟨c98, hp⟩
   ·
    refine FL.val (wF_yes rfl rfl rfl c98) rfl rfl (E.move k75) ?_
    refine FL.val (wF_yes rfl rfl rfl c98) rfl rfl (E.move k77) ?_
    obtain ⟨x105, hx106, hp⟩ := bnd hp
    obtain ⟨p99, cs100, pt101, l102, at103, rel104⟩ := p0.at hx106
    obtain rfl := eI_open rel104
    refine FL.val (wF_yes rfl rfl rfl c98) rfl rfl (E.indexAddr te82 rfl rfl pt101) ?_
    refine FL.val (wF_yes rfl rfl rfl c98) rfl rfl (E.load rfl (run_load0 Tryz.isAgg3 ((at103.mono i72).now S71.sl) rfl)) ?_
    refine FL.call (wF_yes rfl rfl rfl c98) rfl rfl (E.call Tryz.call257 (A1 rfl)) (w_spec_l2Var S71.sl x105) ?_
    rintro e w107 ⟨rfl, r108⟩
    refine ⟨_, rfl, ?_⟩
    have S109 := S71.call r108
    refine FL.val (wF_yes rfl rfl rfl c98) rfl rfl (E.move k76) ?_
    refine FL.call (wF_yes rfl rfl rfl c98) rfl rfl (E.call Tryz.call257 (A1 rfl)) (w_spec_l2Var S109.sl a1) ?_
    rintro e w110 ⟨rfl, r111⟩
    refine ⟨_, rfl, ?_⟩
    have S112 := S109.call r111
    refine FL.val (wF_yes rfl rfl rfl c98) rfl rfl (E.lss rfl rfl) ?_
    obtain rfl := Option.some.inj hp
    refine FL.v (E.pickT rfl c98 rfl) ?_
    exact FL.nil ⟨rfl, _, S112, (Inc.rfl _), k75, k76, k77, rfl⟩
   ·
    refine FL.skip (wF_no rfl rfl rfl c98) rfl ?_
    refine FL.skip (wF_no rfl rfl rfl c98) rfl ?_
    refine FL.skip (wF_no rfl rfl rfl c98) rfl ?_
    refine FL.skip (wF_no rfl rfl rfl c98) rfl ?_
    refine FL.skip (wF_no rfl rfl rfl c98) rfl ?_
    refine FL.skip (wF_no rfl rfl rfl c98) rfl ?_
    refine FL.skip (wF_no rfl rfl rfl c98) rfl ?_
    refine FL.skip (wF_no rfl rfl rfl c98) rfl ?_
    obtain rfl := Option.some.inj hp
    refine FL.v (E.pickF rfl c98 rfl) ?_
    exact FL.nil ⟨rfl, _, S71, (Inc.rfl _), k75, k76, k77, rfl⟩
  rintro f97 w96 ⟨H93, S94, i95, k113, k114, k115, k116⟩
  refine FL.nil ?_
  rcases ifB hp with ⟨c117, hp⟩ | ⟨c117, hp⟩
  ·
   refine FW.condT k116 c117 ?_
   refine FW.skip (FW.block (FW.region ?_))
   refine FL.v (E.move k115) ?_
   refine FL.v (E.add rfl rfl) ?_
   refine FL.v (E.assign (v := Value.int .i64 (wr (s21 + 1))) rfl) ?_
   refine FL.nil ?_
   obtain rfl := Option.some.inj hp
   exact ⟨rfl, ⟨_, S94, (i72.tr i95), k113, k114, rfl⟩⟩
  ·
   refine FW.condF k116 c117 ?_
   refine FW.exit ?_
   obtain rfl := Option.some.inj hp
   exact ⟨nofun, rfl, ⟨_, S94, (i72.tr i95), k113, k114, k115⟩⟩
 ·
  clear hq
  intro e f123 w122 hD
  rcases q21 with s21 | x21
  ·
   obtain ⟨rfl, hD⟩ := hD
   obtain ⟨H119, S120, i121, k124, k125, k126⟩ := hD
   replace hp := el_go hp
   refine FW.seq ?_
   obtain ⟨xs22, hc23, hp⟩ := bnd hp
   obtain ⟨r27, hr28, hp⟩ := bnd hp
   obtain ⟨xs42, hz43, hp⟩ := bnd hp
   obtain ⟨xs53, hc54, hp⟩ := bnd hp
   obtain ⟨xs58, hz59, hp⟩ := bnd hp
   refine FW.drawB (Sl H119) (fun f w => ∃ H : GH, ∃ v67 : Value, ∃ n68 : Nat, ∃ cs69 : List Value, St Ha wa H w [.row 3 1 v67 n68 cs69] ∧ Inc H119 H ∧ Els (up wa.heap.size H) eI 1 cs69 xs58 ∧ f 4 = v67) (by kernel_rfl) S120.sl ?_ ?_
   ·
    intro w127 r128
    have S129 := S120.call r128
    refine FB.t (i := 0) (bs 12 1) rfl (SP.nil S129.sl) rfl (fun w' hw' => (E.move k124)) ?_
    refine FB.t (i := 1) (bs 12 3) rfl (SP.nil S129.sl) rfl (fun w' hw' => (E.move k126)) ?_
    obtain ⟨v24, run25, h26⟩ := p0.cut te82 hc23 (lo := none) (hi := some (Value.int .i64 s21)) (.inl ⟨rfl, rfl⟩) (.inr ⟨_, rfl⟩)
    refine FB.t (i := 2) (bs 12 7) rfl (SP.nil S129.sl) rfl (fun w' hw' => (E.slice te82 rfl rfl (congrArg some rfl) rfl (run25 _))) ?_
    refine FB.t (i := 4) (bs 12 23) rfl (SP.nil S129.sl) rfl (fun w' hw' => (E.move k125)) ?_
    refine FB.t (i := 7) (bs 12 151) rfl (SP.nil S129.sl) rfl (fun w' hw' => (E.move k124)) ?_
    refine FB.t (i := 8) (bs 12 407) rfl (SP.nil S129.sl) rfl (fun w' hw' => (E.move k126)) ?_
    obtain ⟨v55, run56, h57⟩ := p0.cut te82 hc54 (lo := some (Value.int .i64 s21)) (hi := none) (.inr ⟨_, rfl⟩) (.inl ⟨rfl, rfl⟩)
    refine FB.t (i := 9) (bs 12 919) rfl (SP.nil S129.sl) rfl (fun w' hw' => (E.slice te82 rfl (congrArg some rfl) rfl rfl (run56 _))) ?_
    refine FB.all2 (i := 3) (j := 5) (by kernel_rfl) ?_ ?_
    ·
     refine FC.call (l' := (bs 12 927)) rfl (by kernel_rfl) rfl rfl rfl (E.call Tryz.call233 (A1 rfl)) (w_spec_l1Own S129.sl v24 xs22 (h26.mono i121) hr28) ?_
     rintro e w30 ⟨H29, v33, n34, cs35, rfl, r32, els36⟩
     refine ⟨_, rfl, ?_⟩
     have els36 := els36.mono (up_le S129.size)
     have S31 := S129.join (l' := [.row 3 1 v33 n34 cs35]) r32 rfl
     refine ⟨(SP.nil (Sl.of_inc r32.run.inc S31.sl)), ?_⟩
     refine FB.all1 (i := 5) (by kernel_rfl) ?_
     ·
      obtain ⟨v37, w38, run39, S40, els41⟩ := S31.ints (P := Tryz.prog) te82 (up wa.heap.size H29) 1 [a1]
      refine FC.val (l' := (bs 12 959)) rfl (by kernel_rfl) rfl rfl rfl (E.buildSlice (B1 rfl) run39) ?_
      refine ⟨(SP.nil (Sl.of_inc r32.run.inc S40.sl)), ?_⟩
      refine FB.all1 (i := 6) (by kernel_rfl) ?_
      ·
       obtain ⟨v44, w47, n45, cs46, run48, S49, els50, ce51⟩ := S40.appendO (P := Tryz.prog) te82 (i := 1) (j := 0) rfl els36 rfl els41 hz43
       have S49 : St Ha wa H29 w47 [.row 3 1 v37 1 (iC [a1]), .row 3 1 v44 n45 cs46] := S49
       have S52 : St Ha wa H29 w47 [.row 3 1 v44 n45 cs46] := S49.drop 0
       refine FC.val (l' := (bs 12 1023)) rfl (by kernel_rfl) rfl rfl rfl (E.append rfl rfl run48) ?_
       refine ⟨(SP.nil (Sl.of_inc r32.run.inc S52.sl)), ?_⟩
       refine FB.all1 (i := 10) (by kernel_rfl) ?_
       ·
        obtain ⟨v60, w63, n61, cs62, run64, S65, els66⟩ := S52.appendP (P := Tryz.prog) (Inc.rfl _) te82 (i := 0) rfl (els50.mono upI) (h57.mono (i121.tr r32.run.inc)) hz59
        have S65 : St Ha wa H29 w63 [.row 3 1 v60 n61 cs62] := S65
        have els66 : Els (up wa.heap.size H29) eI 1 cs62 xs58 := els66.any (fun _ _ _ _ h => h)
        refine FC.val (l' := (bs 12 2047)) rfl (by kernel_rfl) rfl rfl rfl (E.append rfl rfl run64) ?_
        refine ⟨(SP.nil (Sl.of_inc r32.run.inc S65.sl)), ?_⟩
        refine FB.t (i := 11) (bs 12 4095) rfl (SP.nil (Sl.of_inc r32.run.inc S65.sl)) rfl (fun w' hw' => (E.assign (v := v60) rfl)) ?_
        exact FB.done (by kernel_rfl) ⟨_, _, _, _, S65, r32.run.inc, els66, rfl⟩
    ·
     obtain ⟨v37, w38, run39, S40, els41⟩ := S129.ints (P := Tryz.prog) te82 (up wa.heap.size H119) 1 [a1]
     refine FC.val (l' := (bs 12 951)) rfl (by kernel_rfl) rfl rfl rfl (E.buildSlice (B1 rfl) run39) ?_
     refine ⟨(SP.nil S40.sl), ?_⟩
     refine FB.all1 (i := 3) (by kernel_rfl) ?_
     ·
      refine FC.call (l' := (bs 12 959)) rfl (by kernel_rfl) rfl rfl rfl (E.call Tryz.call233 (A1 rfl)) (w_spec_l1Own S40.sl v24 xs22 (h26.mono i121) hr28) ?_
      rintro e w30 ⟨H29, v33, n34, cs35, rfl, r32, els36⟩
      refine ⟨_, rfl, ?_⟩
      have els36 := els36.mono (up_le S40.size)
      have S31 := S40.join (l' := [.row 3 1 v33 n34 cs35, .row 3 1 v37 1 (iC [a1])]) r32 rfl
      refine ⟨(SP.nil (Sl.of_inc r32.run.inc S31.sl)), ?_⟩
      refine FB.all1 (i := 6) (by kernel_rfl) ?_
      ·
       obtain ⟨v44, w47, n45, cs46, run48, S49, els50, ce51⟩ := S31.appendO (P := Tryz.prog) te82 (i := 0) (j := 1) rfl els36 rfl (els41.mono (up_mono r32.run.inc)) hz43
       have S49 : St Ha wa H29 w47 [.row 3 1 v44 n45 cs46, .row 3 1 v37 1 (iC [a1])] := S49
       have S52 : St Ha wa H29 w47 [.row 3 1 v44 n45 cs46] := S49.drop 1
       refine FC.val (l' := (bs 12 1023)) rfl (by kernel_rfl) rfl rfl rfl (E.append rfl rfl run48) ?_
       refine ⟨(SP.nil (Sl.of_inc r32.run.inc S52.sl)), ?_⟩
       refine FB.all1 (i := 10) (by kernel_rfl) ?_
       ·
        obtain ⟨v60, w63, n61, cs62, run64, S65, els66⟩ := S52.appendP (P := Tryz.prog) (Inc.rfl _) te82 (i := 0) rfl (els50.mono upI) (h57.mono (i121.tr r32.run.inc)) hz59
        have S65 : St Ha wa H29 w63 [.row 3 1 v60 n61 cs62] := S65
        have els66 : Els (up wa.heap.size H29) eI 1 cs62 xs58 := els66.any (fun _ _ _ _ h => h)
        refine FC.val (l' := (bs 12 2047)) rfl (by kernel_rfl) rfl rfl rfl (E.append rfl rfl run64) ?_
        refine ⟨(SP.nil (Sl.of_inc r32.run.inc S65.sl)), ?_⟩
        refine FB.t (i := 11) (bs 12 4095) rfl (SP.nil (Sl.of_inc r32.run.inc S65.sl)) rfl (fun w' hw' => (E.assign (v := v60) rfl)) ?_
        exact FB.done (by kernel_rfl) ⟨_, _, _, _, S65, r32.run.inc, els66, rfl⟩
   ·
    rintro f84 w83 ⟨H79, v67, n68, cs69, S80, i81, els78, k85⟩
    refine FW.ret ?_
    obtain rfl := Option.some.inj hp
    exact ⟨.inr rfl, res1 rfl k85 ⟨_, _, _, _, rfl, S80, els78⟩⟩
  ·
   exact x21.elim

@[reducible] def p_spec_l2Join (Ha : GH) (wa : World) (r : ((List Int) × Bool)) : Ending → World → Prop :=
 fun e w' => ∃ H' : GH, ∃ v0 : Value, ∃ n0 : Nat, ∃ c0 : List Value, e = .returned (Value.tuple #[v0, Value.bool r.2]) ∧ St Ha wa H' w' [.row 3 1 v0 n0 c0] ∧ Els (up wa.heap.size H') eI 1 c0 r.1
set_option maxHeartbeats 4000000 in
theorem w_spec_l2Join {Ha : GH} {wa : World} (hs : Sl Ha wa) (v0 : Value) (a0 : List Int) (p0 : RSl Ha eI 1 v0 a0) (v1 : Value) (a1 : List Int) (p1 : RSl Ha eI 1 v1 a1) {r : ((List Int) × Bool)} (hp : (PF.spec_l2Join a0 a1) = some r) :
  Calls Tryz.prog 181 #[v0, v1] wa (p_spec_l2Join Ha wa r) := by
 unfold PF.spec_l2Join at hp
 have S0 := St.init hs
 refine calls_go (N := 38) (args := [v0, v1]) Tryz.func181 rfl rfl rfl ?_
 refine FW.seq (FW.region ?_)
 refine FL.v (E.assign (v := Value.slice none 0 0) rfl) ?_
 refine FL.v (E.assign (v := Value.bool false) rfl) ?_
 refine FL.nil (FW.seq (FW.region ?_))
 refine FL.v (E.move (v := v0) rfl) ?_
 obtain ⟨r21, hr22, hp⟩ := bnd hp
 refine FL.call rfl rfl rfl (E.call Tryz.call233 (A1 rfl)) (w_spec_l1Own S0.sl v0 a0 p0 hr22) ?_
 rintro e w24 ⟨H23, v27, n28, cs29, rfl, r26, els30⟩
 refine ⟨_, rfl, ?_⟩
 have els30 := els30.mono (up_le S0.size)
 have S25 := S0.join (l' := [.row 3 1 v27 n28 cs29]) r26 rfl
 refine FL.v (E.assign (v := v27) rfl) ?_
 refine FL.nil (FW.seq (FW.seq (FW.region ?_)))
 refine FL.v (E.assign (v := Value.int .i64 0) rfl) ?_
 refine FL.nil ?_
 obtain ⟨q32, hq, hp⟩ := bndR hp
 refine FW.block ?_
 refine FW.mono (FW.forL (S := (List Int)) (X := ((List Int) × Bool)) (fun (i32 : Nat) (s32 : (List Int)) f w => ∃ H : GH, ∃ v107 : Value, ∃ n108 : Nat, ∃ cs109 : List Value, St Ha wa H w [.row 3 1 v107 n108 cs109] ∧ Inc H23 H ∧ Els (up wa.heap.size H) eI 1 cs109 s32 ∧ f 7 = Value.int .i64 ((i32 : Nat) : Int) ∧ f 1 = v1 ∧ f 6 = v107) (fun q e f w => match q with | .go s32 => e = Exit.exit 0 ∧ (∃ H : GH, ∃ v107 : Value, ∃ n108 : Nat, ∃ cs109 : List Value, St Ha wa H w [.row 3 1 v107 n108 cs109] ∧ Inc H23 H ∧ Els (up wa.heap.size H) eI 1 cs109 s32 ∧ f 6 = v107) | .rt x => ((e = Exit.ret) ∧ (fun e f w => (e = Exit.normal ∨ e = Exit.ret) ∧ ∀ a, Fr (δ := []) 38 a f → ∃ v, (results Tryz.f181 a.tmps).run Tryz.prog w = .ok v w ∧ (p_spec_l2Join Ha wa x) (.returned v) w) e f w)) hq ⟨_, _, _, _, S25, (Inc.rfl _), els30, rfl, rfl, rfl⟩ ?_ ?_) ?_
 ·
  clear hp hq
  rintro i32 y31 s32 f185 w184 ⟨H181, v107, n108, cs109, S182, i183, els110, k186, k187, k188⟩ hx32 o251 hp
  refine FW.seq (FW.seq (FW.region ?_))
  refine FL.v (E.move k186) ?_
  refine FL.v (E.move k187) ?_
  refine FL.v (E.lenP te82 rfl p1) ?_
  refine FL.v (E.lssT rfl rfl (lss_len hx32)) ?_
  refine FL.nil ?_
  refine FW.condT rfl rfl ?_
  refine FW.skip (FW.seq (FW.block (FW.seq (FW.seq (FW.region ?_)))))
  refine FL.v (E.move k188) ?_
  refine FL.v (E.move k187) ?_
  refine FL.v (E.move k186) ?_
  obtain ⟨p189, cs190, pt191, l192, at193, rel194⟩ := p1.at (ix_nat hx32)
  obtain rfl := eI_open rel194
  refine FL.v (E.indexAddr te82 rfl rfl pt191) ?_
  refine FL.v (E.load rfl (run_load0 Tryz.isAgg3 ((at193.mono (r26.run.inc.tr i183)).now S182.sl) rfl)) ?_
  refine FL.v (E.neg rfl) ?_
  obtain ⟨H195, S196, i197, h198, nv199⟩ := S182.sealRowU (i := 0) (l' := []) rfl els110 (by decide) rfl
  obtain ⟨r200, hr201, hp⟩ := bnd hp
  refine FL.call rfl rfl rfl (E.call Tryz.call234 (A2 rfl rfl)) (w_spec_l2Has S196.sl v107 s32 (h198.mono upI) (wr (-y31)) hr201) ?_
  rintro e w202 ⟨rfl, r203⟩
  refine ⟨_, rfl, ?_⟩
  have r203 := Run.lend i197 S182.sl r203
  have S204 := S182.call r203
  refine FL.nil ?_
  rcases ifB hp with ⟨c205, hp⟩ | ⟨c205, hp⟩
  ·
   refine FW.condT rfl c205 ?_
   refine FW.seq (FW.region ?_)
   obtain ⟨v206, w207, run208, S209⟩ := S204.buildSlice (P := Tryz.prog) te82 [] (parts := #[]) (cells := []) rfl szs_nil fc_nil ones_nil (Nat.le_of_ble_eq_true rfl)
   have els210 : Els (up wa.heap.size H181) eI 1 [] [] := Els.nil
   refine FL.v (E.buildSlice (B0) run208) ?_
   refine FL.v (E.assign (v := v206) rfl) ?_
   refine FL.v (E.assign (v := Value.bool false) rfl) ?_
   refine FL.nil ?_
   refine FW.ret ?_
   obtain rfl := Option.some.inj hp
   exact ⟨nofun, rfl, ⟨.inr rfl, res2 rfl rfl rfl ⟨_, _, _, _, rfl, (S209.sel [0] (by decide) rfl), els210⟩⟩⟩
  ·
   refine FW.condF rfl c205 ?_
   refine FW.skip (FW.seq (FW.region ?_))
   refine FL.v (E.move k188) ?_
   refine FL.v (E.move k187) ?_
   refine FL.v (E.move k186) ?_
   obtain ⟨p211, cs212, pt213, l214, at215, rel216⟩ := p1.at (ix_nat hx32)
   obtain rfl := eI_open rel216
   refine FL.v (E.indexAddr te82 rfl rfl pt213) ?_
   refine FL.v (E.load rfl (run_load0 Tryz.isAgg3 ((at215.mono (r26.run.inc.tr i183)).now S204.sl) rfl)) ?_
   obtain ⟨H217, S218, i219, h220, nv221⟩ := S204.sealRowU (i := 0) (l' := []) rfl els110 (by decide) rfl
   obtain ⟨r222, hr223, hp⟩ := bnd hp
   refine FL.call rfl rfl rfl (E.call Tryz.call234 (A2 rfl rfl)) (w_spec_l2Has S218.sl v107 s32 (h220.mono upI) y31 hr223) ?_
   rintro e w224 ⟨rfl, r225⟩
   refine ⟨_, rfl, ?_⟩
   have r225 := Run.lend i219 S204.sl r225
   have S226 := S204.call r225
   refine FL.v (E.not rfl) ?_
   refine FL.nil ?_
   rcases ifB hp with ⟨c227, hp⟩ | ⟨c227, hp⟩
   ·
    refine FW.condT rfl c227 ?_
    refine FW.region ?_
    refine FL.v (E.move k188) ?_
    refine FL.v (E.move k187) ?_
    refine FL.v (E.move k186) ?_
    obtain ⟨p228, cs229, pt230, l231, at232, rel233⟩ := p1.at (ix_nat hx32)
    obtain rfl := eI_open rel233
    refine FL.v (E.indexAddr te82 rfl rfl pt230) ?_
    refine FL.v (E.load rfl (run_load0 Tryz.isAgg3 ((at232.mono (r26.run.inc.tr i183)).now S226.sl) rfl)) ?_
    obtain ⟨H234, S235, i236, h237, nv238⟩ := S226.sealRowU (i := 0) (l' := []) rfl els110 (by decide) rfl
    obtain ⟨r239, hr240, hp⟩ := bnd hp
    refine FL.call rfl rfl rfl (E.call Tryz.call235 (A2 rfl rfl)) (w_spec_l2Put S235.sl v107 s32 (h237.mono upI) y31 hr240) ?_
    rintro e w242 ⟨H241, v247, n248, cs249, rfl, r244, els250⟩
    refine ⟨_, rfl, ?_⟩
    obtain ⟨H245, r244, hU246⟩ := St.lendX i236 S226.sl r244
    have els250 := els250.mono (hU246.tr (up_le S226.size))
    have S243 := S226.join (l' := [.row 3 1 v247 n248 cs249, .row 3 1 v107 n108 cs109]) r244 rfl
    refine FL.v (E.assign (v := v247) rfl) ?_
    refine FL.nil (FW.region ?_)
    refine FL.v (E.move k186) ?_
    refine FL.v (E.add rfl rfl) ?_
    refine FL.v (E.assign (v := Value.int .i64 (wr (((i32 : Nat) : Int) + 1))) rfl) ?_
    refine FL.nil ?_
    obtain rfl := Option.some.inj hp
    exact ⟨rfl, ⟨_, _, _, _, (S243.sel [0] (by decide) rfl), (i183.tr r244.run.inc), els250, (nat_succ rfl (lt_of_get hx32) (p1.mono ((r26.run.inc.tr i183).tr r244.run.inc)).le), k187, rfl⟩⟩
   ·
    refine FW.condF rfl c227 ?_
    refine FW.skip (FW.region ?_)
    refine FL.v (E.move k186) ?_
    refine FL.v (E.add rfl rfl) ?_
    refine FL.v (E.assign (v := Value.int .i64 (wr (((i32 : Nat) : Int) + 1))) rfl) ?_
    refine FL.nil ?_
    obtain rfl := Option.some.inj hp
    exact ⟨rfl, ⟨_, _, _, _, S226, i183, els110, (nat_succ rfl (lt_of_get hx32) (p1.mono (r26.run.inc.tr i183)).le), k187, k188⟩⟩
 ·
  clear hp hq
  rintro s32 f262 w261 ⟨H258, v107, n108, cs109, S259, i260, els110, k263, k264, k265⟩
  refine FW.seq (FW.seq (FW.region ?_))
  refine FL.v (E.move k263) ?_
  refine FL.v (E.move k264) ?_
  refine FL.v (E.lenP te82 rfl p1) ?_
  refine FL.v (E.lss rfl rfl) ?_
  refine FL.nil ?_
  refine FW.condF rfl dlt_len ?_
  refine FW.exit ?_
  exact ⟨nofun, rfl, ⟨_, _, _, _, S259, i260, els110, k265⟩⟩
 ·
  clear hq
  intro e f256 w255 hD
  rcases q32 with s32 | x32
  ·
   obtain ⟨rfl, hD⟩ := hD
   obtain ⟨H252, v107, n108, cs109, S253, i254, els110, k257⟩ := hD
   replace hp := el_go hp
   refine FW.seq (FW.region ?_)
   refine FL.v (E.move k257) ?_
   refine FL.v (E.assign (v := v107) rfl) ?_
   refine FL.v (E.assign (v := Value.bool true) rfl) ?_
   refine FL.nil ?_
   refine FW.ret ?_
   obtain rfl := Option.some.inj hp
   exact ⟨.inr rfl, res2 rfl rfl rfl ⟨_, _, _, _, rfl, S253, els110⟩⟩
  ·
   obtain ⟨he, hL⟩ := hD
   replace hp := el_rt hp
   obtain rfl := Option.some.inj hp
   subst he
   exact hL

@[reducible] def p_spec_l2Of (Ha : GH) (wa : World) (r : ((List Int) × Bool)) : Ending → World → Prop :=
 fun e w' => ∃ H' : GH, ∃ v0 : Value, ∃ n0 : Nat, ∃ c0 : List Value, e = .returned (Value.tuple #[v0, Value.bool r.2]) ∧ St Ha wa H' w' [.row 3 1 v0 n0 c0] ∧ Els (up wa.heap.size H') eI 1 c0 r.1
set_option maxHeartbeats 4000000 in
theorem w_spec_l2Of {Ha : GH} {wa : World} (hs : Sl Ha wa) (v0 : Value) (a0 : List Int) (p0 : RSl Ha eI 1 v0 a0) {r : ((List Int) × Bool)} (hp : (PF.spec_l2Of a0) = some r) :
  Calls Tryz.prog 137 #[v0] wa (p_spec_l2Of Ha wa r) := by
 unfold PF.spec_l2Of at hp
 have S0 := St.init hs
 refine calls_go (N := 30) (args := [v0]) Tryz.func137 rfl rfl rfl ?_
 refine FW.seq (FW.region ?_)
 refine FL.v (E.assign (v := Value.slice none 0 0) rfl) ?_
 refine FL.v (E.assign (v := Value.bool false) rfl) ?_
 refine FL.nil (FW.seq (FW.region ?_))
 obtain ⟨v21, w22, run23, S24⟩ := S0.buildSlice (P := Tryz.prog) te82 [] (parts := #[]) (cells := []) rfl szs_nil fc_nil ones_nil (Nat.le_of_ble_eq_true rfl)
 have els25 : Els (up wa.heap.size Ha) eI 1 [] [] := Els.nil
 refine FL.v (E.buildSlice (B0) run23) ?_
 refine FL.v (E.assign (v := v21) rfl) ?_
 refine FL.nil (FW.seq (FW.seq (FW.region ?_)))
 refine FL.v (E.assign (v := Value.int .i64 0) rfl) ?_
 refine FL.nil ?_
 obtain ⟨q27, hq, hp⟩ := bndR hp
 refine FW.block ?_
 refine FW.mono (FW.forL (S := (List Int)) (X := ((List Int) × Bool)) (fun (i27 : Nat) (s27 : (List Int)) f w => ∃ H : GH, ∃ v79 : Value, ∃ n80 : Nat, ∃ cs81 : List Value, St Ha wa H w [.row 3 1 v79 n80 cs81] ∧ Inc Ha H ∧ Els (up wa.heap.size H) eI 1 cs81 s27 ∧ f 5 = Value.int .i64 ((i27 : Nat) : Int) ∧ f 0 = v0 ∧ f 4 = v79) (fun q e f w => match q with | .go s27 => e = Exit.exit 0 ∧ (∃ H : GH, ∃ v79 : Value, ∃ n80 : Nat, ∃ cs81 : List Value, St Ha wa H w [.row 3 1 v79 n80 cs81] ∧ Inc Ha H ∧ Els (up wa.heap.size H) eI 1 cs81 s27 ∧ f 4 = v79) | .rt x => ((e = Exit.ret) ∧ (fun e f w => (e = Exit.normal ∨ e = Exit.ret) ∧ ∀ a, Fr (δ := []) 30 a f → ∃ v, (results Tryz.f137 a.tmps).run Tryz.prog w = .ok v w ∧ (p_spec_l2Of Ha wa x) (.returned v) w) e f w)) hq ⟨_, _, _, _, S24, (Inc.rfl _), els25, rfl, rfl, rfl⟩ ?_ ?_) ?_
 ·
  clear hp hq
  rintro i27 y26 s27 f134 w133 ⟨H130, v79, n80, cs81, S131, i132, els82, k135, k136, k137⟩ hx27 o177 hp
  refine FW.seq (FW.seq (FW.region ?_))
  refine FL.v (E.move k135) ?_
  refine FL.v (E.move k136) ?_
  refine FL.v (E.lenP te82 rfl p0) ?_
  refine FL.v (E.lssT rfl rfl (lss_len hx27)) ?_
  refine FL.nil ?_
  refine FW.condT rfl rfl ?_
  refine FW.skip (FW.seq (FW.block (FW.seq (FW.region ?_))))
  refine FL.v (E.move k137) ?_
  refine FL.v (E.move k136) ?_
  refine FL.v (E.move k135) ?_
  obtain ⟨p138, cs139, pt140, l141, at142, rel143⟩ := p0.at (ix_nat hx27)
  obtain rfl := eI_open rel143
  refine FL.v (E.indexAddr te82 rfl rfl pt140) ?_
  refine FL.v (E.load rfl (run_load0 Tryz.isAgg3 ((at142.mono i132).now S131.sl) rfl)) ?_
  obtain ⟨v144, w145, run146, S147, els148⟩ := S131.ints (P := Tryz.prog) te82 (up wa.heap.size H130) 1 [y26]
  refine FL.v (E.buildSlice (B1 rfl) run146) ?_
  obtain ⟨H149, S150, i151, h152, nv153⟩ := S147.sealRowU (i := 1) (l' := [.row 3 1 v144 1 (iC [y26])]) rfl els82 (by decide) rfl
  obtain ⟨H154, S155, i156, h157, nv158⟩ := S150.sealRowU (i := 0) (l' := []) rfl (els148.mono (up_mono i151)) (by decide) rfl
  obtain ⟨r159, hr160, hp⟩ := bnd hp
  refine FL.call rfl rfl rfl (E.call Tryz.call181 (A2 rfl rfl)) (w_spec_l2Join S155.sl v79 s27 (h152.mono (upI.tr i156)) v144 [y26] (h157.mono upI) hr160) ?_
  rintro e w162 ⟨H161, v167, n168, cs169, rfl, r164, els170⟩
  refine ⟨_, rfl, ?_⟩
  obtain ⟨H165, r164, hU166⟩ := St.lendX (i151.tr i156) S147.sl r164
  have els170 := els170.mono (hU166.tr (up_le S147.size))
  have S163 := S147.join (l' := [.row 3 1 v167 n168 cs169, .row 3 1 v144 1 (iC [y26]), .row 3 1 v79 n80 cs81]) r164 rfl
  refine FL.v (E.move (v := Value.tuple #[v167, Value.bool r159.2]) rfl) ?_
  refine FL.v (E.extract (i := 0) rfl rfl) ?_
  refine FL.v (E.extract (i := 1) rfl rfl) ?_
  refine FL.v (E.assign (v := v167) rfl) ?_
  refine FL.v (E.assign (v := Value.bool r159.2) rfl) ?_
  refine FL.nil (FW.seq (FW.seq (FW.region ?_)))
  refine FL.v (E.move (v := Value.bool r159.2) rfl) ?_
  refine FL.v (E.not rfl) ?_
  refine FL.nil ?_
  rcases ifB hp with ⟨c171, hp⟩ | ⟨c171, hp⟩
  ·
   refine FW.condT rfl c171 ?_
   refine FW.seq (FW.region ?_)
   obtain ⟨v172, w173, run174, S175⟩ := S163.buildSlice (P := Tryz.prog) te82 [] (parts := #[]) (cells := []) rfl szs_nil fc_nil ones_nil (Nat.le_of_ble_eq_true rfl)
   have els176 : Els (up wa.heap.size H165) eI 1 [] [] := Els.nil
   refine FL.v (E.buildSlice (B0) run174) ?_
   refine FL.v (E.assign (v := v172) rfl) ?_
   refine FL.v (E.assign (v := Value.bool false) rfl) ?_
   refine FL.nil ?_
   refine FW.ret ?_
   obtain rfl := Option.some.inj hp
   exact ⟨nofun, rfl, ⟨.inr rfl, res2 rfl rfl rfl ⟨_, _, _, _, rfl, (S175.sel [0] (by decide) rfl), els176⟩⟩⟩
  ·
   refine FW.condF rfl c171 ?_
   refine FW.skip (FW.region ?_)
   refine FL.v (E.move (v := v167) rfl) ?_
   refine FL.v (E.assign (v := v167) rfl) ?_
   refine FL.nil (FW.region ?_)
   refine FL.v (E.move k135) ?_
   refine FL.v (E.add rfl rfl) ?_
   refine FL.v (E.assign (v := Value.int .i64 (wr (((i27 : Nat) : Int) + 1))) rfl) ?_
   refine FL.nil ?_
   obtain rfl := Option.some.inj hp
   exact ⟨rfl, ⟨_, _, _, _, (S163.sel [0] (by decide) rfl), (i132.tr r164.run.inc), els170, (nat_succ rfl (lt_of_get hx27) (p0.mono (i132.tr r164.run.inc)).le), k136, rfl⟩⟩
 ·
  clear hp hq
  rintro s27 f188 w187 ⟨H184, v79, n80, cs81, S185, i186, els82, k189, k190, k191⟩
  refine FW.seq (FW.seq (FW.region ?_))
  refine FL.v (E.move k189) ?_
  refine FL.v (E.move k190) ?_
  refine FL.v (E.lenP te82 rfl p0) ?_
  refine FL.v (E.lss rfl rfl) ?_
  refine FL.nil ?_
  refine FW.condF rfl dlt_len ?_
  refine FW.exit ?_
  exact ⟨nofun, rfl, ⟨_, _, _, _, S185, i186, els82, k191⟩⟩
 ·
  clear hq
  intro e f182 w181 hD
  rcases q27 with s27 | x27
  ·
   obtain ⟨rfl, hD⟩ := hD
   obtain ⟨H178, v79, n80, cs81, S179, i180, els82, k183⟩ := hD
   replace hp := el_go hp
   refine FW.seq (FW.region ?_)
   refine FL.v (E.move k183) ?_
   refine FL.v (E.assign (v := v79) rfl) ?_
   refine FL.v (E.assign (v := Value.bool true) rfl) ?_
   refine FL.nil ?_
   refine FW.ret ?_
   obtain rfl := Option.some.inj hp
   exact ⟨.inr rfl, res2 rfl rfl rfl ⟨_, _, _, _, rfl, S179, els82⟩⟩
  ·
   obtain ⟨he, hL⟩ := hD
   replace hp := el_rt hp
   obtain rfl := Option.some.inj hp
   subst he
   exact hL

@[reducible] def p_spec_l22Defining (Ha : GH) (wa : World) (r : (List (List Int))) : Ending → World → Prop :=
 fun e w' => ∃ H' : GH, ∃ v0 : Value, ∃ n0 : Nat, ∃ c0 : List Value, e = .returned (v0) ∧ St Ha wa H' w' [.row 82 1 v0 n0 c0] ∧ Els (up wa.heap.size H') (eL eI 1) 1 c0 r ∧ (bl c0).Nodup
set_option maxHeartbeats 4000000 in
theorem w_spec_l22Defining {Ha : GH} {wa : World} (hs : Sl Ha wa) (v0 : Value) (a0 : List ByteArray) (p0 : RSl Ha eS 1 v0 a0) (a1 : ByteArray) (a2 : Int) {r : (List (List Int))} (hp : (PF.spec_l22Defining a0 a1 a2) = some r) :
  Calls Tryz.prog 85 #[v0, Value.string a1, Value.int .i64 a2] wa (p_spec_l22Defining Ha wa r) := by
 unfold PF.spec_l22Defining at hp
 have S0 := St.init hs
 refine calls_go (N := 127) (args := [v0, Value.string a1, Value.int .i64 a2]) Tryz.func85 rfl rfl rfl ?_
 refine FW.seq (FW.region ?_)
 refine FL.v (E.assign (v := Value.slice none 0 0) rfl) ?_
 refine FL.nil (FW.seq (FW.region ?_))
 refine FL.v (E.move (v := Value.string a1) rfl) ?_
 obtain ⟨r21, hr22, hp⟩ := bnd hp
 refine FL.call rfl rfl rfl (E.call Tryz.call73 (A1 rfl)) (w_spec_l22Parts S0.sl a1 hr22) ?_
 rintro e w23 ⟨rfl, r24⟩
 refine ⟨_, rfl, ?_⟩
 have S25 := S0.call r24
 refine FL.v (E.move (v := Value.tuple #[Value.int .u8 r21.1, Value.string r21.2.1, Value.string r21.2.2]) rfl) ?_
 refine FL.v (E.extract (i := 0) rfl rfl) ?_
 refine FL.v (E.extract (i := 1) rfl rfl) ?_
 refine FL.v (E.extract (i := 2) rfl rfl) ?_
 refine FL.v (E.assign (v := Value.int .u8 r21.1) rfl) ?_
 refine FL.v (E.assign (v := Value.string r21.2.1) rfl) ?_
 refine FL.v (E.assign (v := Value.string r21.2.2) rfl) ?_
 refine FL.nil (FW.seq (FW.region ?_))
 refine FL.v (E.assign (v := Value.int .i64 0) rfl) ?_
 refine FL.v (E.assign (v := Value.int .i64 0) rfl) ?_
 refine FL.nil (FW.seq (FW.seq (FW.region ?_)))
 refine FL.v (E.move (v := Value.string r21.2.1) rfl) ?_
 refine FL.v (E.neqS rfl rfl) ?_
 refine FL.nil ?_
 obtain ⟨q33, hq, hp⟩ := bndR hp
 refine FW.joinE (S := Int) (X := Empty) (q := q33) (fun s32 f w => ∃ H : GH, St Ha wa H w [] ∧ Inc Ha H ∧ f 0 = v0 ∧ f 2 = Value.int .i64 a2 ∧ f 7 = Value.int .u8 r21.1 ∧ f 9 = Value.string r21.2.2 ∧ f 10 = Value.int .i64 s32 ∧ f 11 = Value.int .i64 0) (fun (_ : Empty) _ _ _ => False) ?_ ?_ ?_
 ·
  clear hp; have hp := hq; clear hq
  rcases ifB hp with ⟨c35, hp⟩ | ⟨c35, hp⟩
  ·
   refine FW.condT rfl c35 ?_
   refine FW.region ?_
   refine FL.v (E.move (v := v0) rfl) ?_
   refine FL.v (E.move (v := Value.string r21.2.1) rfl) ?_
   obtain ⟨r36, hr37, hp⟩ := bnd hp
   refine FL.call rfl rfl rfl (E.call Tryz.call86 (A2 rfl rfl)) (w_spec_l22Var S25.sl v0 a0 p0 r21.2.1 hr37) ?_
   rintro e w38 ⟨rfl, r39⟩
   refine ⟨_, rfl, ?_⟩
   have S40 := S25.call r39
   refine FL.v (E.assign (v := Value.int .i64 r36) rfl) ?_
   refine FL.nil ?_
   obtain rfl := Option.some.inj hp
   exact ⟨rfl, ⟨_, S40, (Inc.rfl _), rfl, rfl, rfl, rfl, rfl, rfl⟩⟩
  ·
   refine FW.condF rfl c35 ?_
   refine FW.skip ?_
   obtain rfl := Option.some.inj hp
   exact ⟨rfl, ⟨_, S25, (Inc.rfl _), rfl, rfl, rfl, rfl, rfl, rfl⟩⟩
 ·
  rintro s32 rfl f45 w44 ⟨H41, S42, i43, k46, k47, k48, k49, k50, k51⟩
  replace hp := el_go hp
  refine FW.seq (FW.seq (FW.region ?_))
  refine FL.v (E.move k49) ?_
  refine FL.v (E.neqS rfl rfl) ?_
  refine FL.nil ?_
  obtain ⟨q59, hq, hp⟩ := bndR hp
  refine FW.joinE (S := Int) (X := Empty) (q := q59) (fun s58 f w => ∃ H : GH, St Ha wa H w [] ∧ Inc H41 H ∧ f 2 = Value.int .i64 a2 ∧ f 7 = Value.int .u8 r21.1 ∧ f 10 = Value.int .i64 s32 ∧ f 11 = Value.int .i64 s58) (fun (_ : Empty) _ _ _ => False) ?_ ?_ ?_
  ·
   clear hp; have hp := hq; clear hq
   rcases ifB hp with ⟨c61, hp⟩ | ⟨c61, hp⟩
   ·
    refine FW.condT rfl c61 ?_
    refine FW.region ?_
    refine FL.v (E.move k46) ?_
    refine FL.v (E.move k49) ?_
    obtain ⟨r62, hr63, hp⟩ := bnd hp
    refine FL.call rfl rfl rfl (E.call Tryz.call86 (A2 rfl rfl)) (w_spec_l22Var S42.sl v0 a0 (p0.mono i43) r21.2.2 hr63) ?_
    rintro e w64 ⟨rfl, r65⟩
    refine ⟨_, rfl, ?_⟩
    have S66 := S42.call r65
    refine FL.v (E.assign (v := Value.int .i64 r62) rfl) ?_
    refine FL.nil ?_
    obtain rfl := Option.some.inj hp
    exact ⟨rfl, ⟨_, S66, (Inc.rfl _), k47, k48, k50, rfl⟩⟩
   ·
    refine FW.condF rfl c61 ?_
    refine FW.skip ?_
    obtain rfl := Option.some.inj hp
    exact ⟨rfl, ⟨_, S42, (Inc.rfl _), k47, k48, k50, k51⟩⟩
  ·
   rintro s58 rfl f71 w70 ⟨H67, S68, i69, k72, k73, k74, k75⟩
   replace hp := el_go hp
   refine FW.seq (FW.region ?_)
   obtain ⟨v76, w77, run78, S79⟩ := S68.buildSlice (P := Tryz.prog) te44 [] (parts := #[]) (cells := []) rfl szs_nil fc_nil ones_nil (Nat.le_of_ble_eq_true rfl)
   have els80 : Els (up wa.heap.size H67) (eL eI 1) 1 [] [] := Els.nil
   refine FL.v (E.buildSlice (B0) run78) ?_
   refine FL.v (E.assign (v := v76) rfl) ?_
   refine FL.nil (FW.seq (FW.seq (FW.region ?_)))
   refine FL.v (E.move k73) ?_
   refine FL.nil ?_
   obtain ⟨q252, hq, hp⟩ := bndR hp
   refine FW.joinE (S := (List (List Int))) (X := Empty) (q := q252) (fun s251 f w => ∃ H : GH, ∃ v254 : Value, ∃ n255 : Nat, ∃ cs256 : List Value, St Ha wa H w [.row 82 1 v254 n255 cs256] ∧ Inc H67 H ∧ Els (up wa.heap.size H) (eL eI 1) 1 cs256 s251 ∧ f 12 = v254) (fun (_ : Empty) _ _ _ => False) ?_ ?_ ?_
   ·
    clear hp; have hp := hq; clear hq
    refine FW.block (FW.seq (FW.region ?_))
    refine FL.v (E.eql rfl rfl) ?_
    refine FL.v (E.assign (v := Value.bool (r21.1 == 48)) rfl) ?_
    refine FL.nil ?_
    rcases ifB hp with ⟨c258, hp⟩ | ⟨c258, hp⟩
    ·
     refine FW.condT rfl c258 ?_
     refine FW.region ?_
     refine FL.v (E.move k72) ?_
     refine FL.v (E.neg rfl) ?_
     obtain ⟨v259, w260, run261, S262, els263⟩ := S79.ints (P := Tryz.prog) te82 (up wa.heap.size H67) 1 [(wr (-a2))]
     refine FL.v (E.buildSlice (B1 rfl) run261) ?_
     obtain ⟨H264, S265, i266, h267, nv268⟩ := S262.sealRowU (i := 0) (l' := [.row 82 1 v76 0 []]) rfl els263 (by decide) rfl
     obtain ⟨v269, w270, run271, S272⟩ := S265.buildSlice (P := Tryz.prog) te44 [v259] (parts := #[(0, v259)]) (cells := [v259]) rfl (szs_cons (cells_size h267.cells) szs_nil) (fc_cons h267.cells fc_nil) (ones_cons h267.one ones_nil) (Nat.le_of_ble_eq_true rfl)
     have els273 : Els (up wa.heap.size H264) (eL eI 1) 1 [v259] [[(wr (-a2))]] := (Els.snoc (H := (up wa.heap.size H264)) (E := (eL eI 1)) (k := 1) (c := [v259]) (x := [(wr (-a2))]) Els.nil rfl ⟨_, rfl, h267⟩)
     have nd274 : (bl [v259]).Nodup := by exact nd_one v259
     refine FL.v (E.buildSlice (B1 rfl) run271) ?_
     refine FL.v (E.assign (v := v269) rfl) ?_
     refine FL.nil ?_
     obtain rfl := Option.some.inj hp
     exact ⟨rfl, ⟨_, _, _, _, (S272.sel [0] (by decide) rfl), i266, els273, rfl⟩⟩
    ·
     refine FW.condF rfl c258 ?_
     refine FW.seq (FW.region ?_)
     refine FL.v (E.eql rfl rfl) ?_
     refine FL.v (E.assign (v := Value.bool (r21.1 == 49)) rfl) ?_
     refine FL.nil ?_
     rcases ifB hp with ⟨c275, hp⟩ | ⟨c275, hp⟩
     ·
      refine FW.condT rfl c275 ?_
      refine FW.region ?_
      refine FL.v (E.move k72) ?_
      obtain ⟨v276, w277, run278, S279, els280⟩ := S79.ints (P := Tryz.prog) te82 (up wa.heap.size H67) 1 [a2]
      refine FL.v (E.buildSlice (B1 rfl) run278) ?_
      obtain ⟨H281, S282, i283, h284, nv285⟩ := S279.sealRowU (i := 0) (l' := [.row 82 1 v76 0 []]) rfl els280 (by decide) rfl
      obtain ⟨v286, w287, run288, S289⟩ := S282.buildSlice (P := Tryz.prog) te44 [v276] (parts := #[(0, v276)]) (cells := [v276]) rfl (szs_cons (cells_size h284.cells) szs_nil) (fc_cons h284.cells fc_nil) (ones_cons h284.one ones_nil) (Nat.le_of_ble_eq_true rfl)
      have els290 : Els (up wa.heap.size H281) (eL eI 1) 1 [v276] [[a2]] := (Els.snoc (H := (up wa.heap.size H281)) (E := (eL eI 1)) (k := 1) (c := [v276]) (x := [a2]) Els.nil rfl ⟨_, rfl, h284⟩)
      have nd291 : (bl [v276]).Nodup := by exact nd_one v276
      refine FL.v (E.buildSlice (B1 rfl) run288) ?_
      refine FL.v (E.assign (v := v286) rfl) ?_
      refine FL.nil ?_
      obtain rfl := Option.some.inj hp
      exact ⟨rfl, ⟨_, _, _, _, (S289.sel [0] (by decide) rfl), i283, els290, rfl⟩⟩
     ·
      refine FW.condF rfl c275 ?_
      refine FW.seq (FW.region ?_)
      refine FL.v (E.eql rfl rfl) ?_
      refine FL.v (E.assign (v := Value.bool (r21.1 == 126)) rfl) ?_
      refine FL.nil ?_
      rcases ifB hp with ⟨c292, hp⟩ | ⟨c292, hp⟩
      ·
       refine FW.condT rfl c292 ?_
       refine FW.region ?_
       refine FL.v (E.move k74) ?_
       refine FL.v (E.move k72) ?_
       obtain ⟨v293, w294, run295, S296, els297⟩ := S79.ints (P := Tryz.prog) te82 (up wa.heap.size H67) 2 [s32, a2]
       refine FL.v (E.buildSlice (B2 rfl rfl) run295) ?_
       refine FL.v (E.move k74) ?_
       refine FL.v (E.neg rfl) ?_
       refine FL.v (E.move k72) ?_
       refine FL.v (E.neg rfl) ?_
       obtain ⟨v298, w299, run300, S301, els302⟩ := S296.ints (P := Tryz.prog) te82 (up wa.heap.size H67) 2 [(wr (-s32)), (wr (-a2))]
       refine FL.v (E.buildSlice (B2 rfl rfl) run300) ?_
       obtain ⟨H303, S304, i305, h306, nv307⟩ := S301.sealRowU (i := 1) (l' := [.row 3 1 v298 2 (iC [(wr (-s32)), (wr (-a2))]), .row 82 1 v76 0 []]) rfl els297 (by decide) rfl
       obtain ⟨H308, S309, i310, h311, nv312⟩ := S304.sealRowU (i := 0) (l' := [.row 82 1 v76 0 []]) rfl (els302.mono (up_mono i305)) (by decide) rfl
       obtain ⟨v313, w314, run315, S316⟩ := S309.buildSlice (P := Tryz.prog) te44 [v293, v298] (parts := #[(0, v293), (1, v298)]) (cells := [v293, v298]) rfl (szs_cons (cells_size h306.cells) (szs_cons (cells_size h311.cells) szs_nil)) (fc_cons h306.cells (fc_cons h311.cells fc_nil)) (ones_cons h306.one (ones_cons h311.one ones_nil)) (Nat.le_of_ble_eq_true rfl)
       have els317 : Els (up wa.heap.size H308) (eL eI 1) 1 [v293, v298] [[s32, a2], [(wr (-s32)), (wr (-a2))]] := (Els.snoc (H := (up wa.heap.size H308)) (E := (eL eI 1)) (k := 1) (c := [v298]) (x := [(wr (-s32)), (wr (-a2))]) (Els.snoc (H := (up wa.heap.size H308)) (E := (eL eI 1)) (k := 1) (c := [v293]) (x := [s32, a2]) Els.nil rfl ⟨_, rfl, (h306.mono (up_mono i310))⟩) rfl ⟨_, rfl, h311⟩)
       have nd318 : (bl [v293, v298]).Nodup := by exact nd_two (New.apart (h306.mono (up_mono (Inc.rfl _))) nv312)
       have nv319 : New H67 [v293, v298] := by exact (New.two nv307 (nv312.anti i305))
       refine FL.v (E.buildSlice (B2 rfl rfl) run315) ?_
       refine FL.v (E.assign (v := v313) rfl) ?_
       refine FL.nil ?_
       obtain rfl := Option.some.inj hp
       exact ⟨rfl, ⟨_, _, _, _, (S316.sel [0] (by decide) rfl), (i305.tr i310), els317, rfl⟩⟩
      ·
       refine FW.condF rfl c292 ?_
       refine FW.seq (FW.region ?_)
       refine FL.v (E.eql rfl rfl) ?_
       refine FL.v (E.assign (v := Value.bool (r21.1 == 38)) rfl) ?_
       refine FL.nil ?_
       rcases ifB hp with ⟨c320, hp⟩ | ⟨c320, hp⟩
       ·
        refine FW.condT rfl c320 ?_
        refine FW.region ?_
        refine FL.v (E.move k74) ?_
        refine FL.v (E.move k72) ?_
        refine FL.v (E.neg rfl) ?_
        obtain ⟨v321, w322, run323, S324, els325⟩ := S79.ints (P := Tryz.prog) te82 (up wa.heap.size H67) 2 [s32, (wr (-a2))]
        refine FL.v (E.buildSlice (B2 rfl rfl) run323) ?_
        refine FL.v (E.move k75) ?_
        refine FL.v (E.move k72) ?_
        refine FL.v (E.neg rfl) ?_
        obtain ⟨v326, w327, run328, S329, els330⟩ := S324.ints (P := Tryz.prog) te82 (up wa.heap.size H67) 2 [s58, (wr (-a2))]
        refine FL.v (E.buildSlice (B2 rfl rfl) run328) ?_
        refine FL.v (E.move k74) ?_
        refine FL.v (E.neg rfl) ?_
        refine FL.v (E.move k75) ?_
        refine FL.v (E.neg rfl) ?_
        refine FL.v (E.move k72) ?_
        obtain ⟨v331, w332, run333, S334, els335⟩ := S329.ints (P := Tryz.prog) te82 (up wa.heap.size H67) 3 [(wr (-s32)), (wr (-s58)), a2]
        refine FL.v (E.buildSlice (B3 rfl rfl rfl) run333) ?_
        obtain ⟨H336, S337, i338, h339, nv340⟩ := S334.sealRowU (i := 2) (l' := [.row 3 1 v331 3 (iC [(wr (-s32)), (wr (-s58)), a2]), .row 3 1 v326 2 (iC [s58, (wr (-a2))]), .row 82 1 v76 0 []]) rfl els325 (by decide) rfl
        obtain ⟨H341, S342, i343, h344, nv345⟩ := S337.sealRowU (i := 1) (l' := [.row 3 1 v331 3 (iC [(wr (-s32)), (wr (-s58)), a2]), .row 82 1 v76 0 []]) rfl (els330.mono (up_mono i338)) (by decide) rfl
        obtain ⟨H346, S347, i348, h349, nv350⟩ := S342.sealRowU (i := 0) (l' := [.row 82 1 v76 0 []]) rfl (els335.mono (up_mono (i338.tr i343))) (by decide) rfl
        obtain ⟨v351, w352, run353, S354⟩ := S347.buildSlice (P := Tryz.prog) te44 [v321, v326, v331] (parts := #[(0, v321), (1, v326), (2, v331)]) (cells := [v321, v326, v331]) rfl (szs_cons (cells_size h339.cells) (szs_cons (cells_size h344.cells) (szs_cons (cells_size h349.cells) szs_nil))) (fc_cons h339.cells (fc_cons h344.cells (fc_cons h349.cells fc_nil))) (ones_cons h339.one (ones_cons h344.one (ones_cons h349.one ones_nil))) (Nat.le_of_ble_eq_true rfl)
        have els355 : Els (up wa.heap.size H346) (eL eI 1) 1 [v321, v326, v331] [[s32, (wr (-a2))], [s58, (wr (-a2))], [(wr (-s32)), (wr (-s58)), a2]] := (Els.snoc (H := (up wa.heap.size H346)) (E := (eL eI 1)) (k := 1) (c := [v331]) (x := [(wr (-s32)), (wr (-s58)), a2]) (Els.snoc (H := (up wa.heap.size H346)) (E := (eL eI 1)) (k := 1) (c := [v326]) (x := [s58, (wr (-a2))]) (Els.snoc (H := (up wa.heap.size H346)) (E := (eL eI 1)) (k := 1) (c := [v321]) (x := [s32, (wr (-a2))]) Els.nil rfl ⟨_, rfl, (h339.mono (up_mono (i343.tr i348)))⟩) rfl ⟨_, rfl, (h344.mono (up_mono i348))⟩) rfl ⟨_, rfl, h349⟩)
        refine FL.v (E.buildSlice (B3 rfl rfl rfl) run353) ?_
        refine FL.v (E.assign (v := v351) rfl) ?_
        refine FL.nil ?_
        obtain rfl := Option.some.inj hp
        exact ⟨rfl, ⟨_, _, _, _, (S354.sel [0] (by decide) rfl), ((i338.tr i343).tr i348), els355, rfl⟩⟩
       ·
        refine FW.condF rfl c320 ?_
        refine FW.seq (FW.region ?_)
        refine FL.v (E.eql rfl rfl) ?_
        refine FL.v (E.assign (v := Value.bool (r21.1 == 124)) rfl) ?_
        refine FL.nil ?_
        rcases ifB hp with ⟨c356, hp⟩ | ⟨c356, hp⟩
        ·
         refine FW.condT rfl c356 ?_
         refine FW.region ?_
         refine FL.v (E.move k74) ?_
         refine FL.v (E.neg rfl) ?_
         refine FL.v (E.move k72) ?_
         obtain ⟨v357, w358, run359, S360, els361⟩ := S79.ints (P := Tryz.prog) te82 (up wa.heap.size H67) 2 [(wr (-s32)), a2]
         refine FL.v (E.buildSlice (B2 rfl rfl) run359) ?_
         refine FL.v (E.move k75) ?_
         refine FL.v (E.neg rfl) ?_
         refine FL.v (E.move k72) ?_
         obtain ⟨v362, w363, run364, S365, els366⟩ := S360.ints (P := Tryz.prog) te82 (up wa.heap.size H67) 2 [(wr (-s58)), a2]
         refine FL.v (E.buildSlice (B2 rfl rfl) run364) ?_
         refine FL.v (E.move k74) ?_
         refine FL.v (E.move k75) ?_
         refine FL.v (E.move k72) ?_
         refine FL.v (E.neg rfl) ?_
         obtain ⟨v367, w368, run369, S370, els371⟩ := S365.ints (P := Tryz.prog) te82 (up wa.heap.size H67) 3 [s32, s58, (wr (-a2))]
         refine FL.v (E.buildSlice (B3 rfl rfl rfl) run369) ?_
         obtain ⟨H372, S373, i374, h375, nv376⟩ := S370.sealRowU (i := 2) (l' := [.row 3 1 v367 3 (iC [s32, s58, (wr (-a2))]), .row 3 1 v362 2 (iC [(wr (-s58)), a2]), .row 82 1 v76 0 []]) rfl els361 (by decide) rfl
         obtain ⟨H377, S378, i379, h380, nv381⟩ := S373.sealRowU (i := 1) (l' := [.row 3 1 v367 3 (iC [s32, s58, (wr (-a2))]), .row 82 1 v76 0 []]) rfl (els366.mono (up_mono i374)) (by decide) rfl
         obtain ⟨H382, S383, i384, h385, nv386⟩ := S378.sealRowU (i := 0) (l' := [.row 82 1 v76 0 []]) rfl (els371.mono (up_mono (i374.tr i379))) (by decide) rfl
         obtain ⟨v387, w388, run389, S390⟩ := S383.buildSlice (P := Tryz.prog) te44 [v357, v362, v367] (parts := #[(0, v357), (1, v362), (2, v367)]) (cells := [v357, v362, v367]) rfl (szs_cons (cells_size h375.cells) (szs_cons (cells_size h380.cells) (szs_cons (cells_size h385.cells) szs_nil))) (fc_cons h375.cells (fc_cons h380.cells (fc_cons h385.cells fc_nil))) (ones_cons h375.one (ones_cons h380.one (ones_cons h385.one ones_nil))) (Nat.le_of_ble_eq_true rfl)
         have els391 : Els (up wa.heap.size H382) (eL eI 1) 1 [v357, v362, v367] [[(wr (-s32)), a2], [(wr (-s58)), a2], [s32, s58, (wr (-a2))]] := (Els.snoc (H := (up wa.heap.size H382)) (E := (eL eI 1)) (k := 1) (c := [v367]) (x := [s32, s58, (wr (-a2))]) (Els.snoc (H := (up wa.heap.size H382)) (E := (eL eI 1)) (k := 1) (c := [v362]) (x := [(wr (-s58)), a2]) (Els.snoc (H := (up wa.heap.size H382)) (E := (eL eI 1)) (k := 1) (c := [v357]) (x := [(wr (-s32)), a2]) Els.nil rfl ⟨_, rfl, (h375.mono (up_mono (i379.tr i384)))⟩) rfl ⟨_, rfl, (h380.mono (up_mono i384))⟩) rfl ⟨_, rfl, h385⟩)
         refine FL.v (E.buildSlice (B3 rfl rfl rfl) run389) ?_
         refine FL.v (E.assign (v := v387) rfl) ?_
         refine FL.nil ?_
         obtain rfl := Option.some.inj hp
         exact ⟨rfl, ⟨_, _, _, _, (S390.sel [0] (by decide) rfl), ((i374.tr i379).tr i384), els391, rfl⟩⟩
        ·
         refine FW.condF rfl c356 ?_
         refine FW.seq (FW.region ?_)
         refine FL.v (E.eql rfl rfl) ?_
         refine FL.v (E.assign (v := Value.bool (r21.1 == 62)) rfl) ?_
         refine FL.nil ?_
         rcases ifB hp with ⟨c392, hp⟩ | ⟨c392, hp⟩
         ·
          refine FW.condT rfl c392 ?_
          refine FW.region ?_
          refine FL.v (E.move k74) ?_
          refine FL.v (E.move k72) ?_
          obtain ⟨v393, w394, run395, S396, els397⟩ := S79.ints (P := Tryz.prog) te82 (up wa.heap.size H67) 2 [s32, a2]
          refine FL.v (E.buildSlice (B2 rfl rfl) run395) ?_
          refine FL.v (E.move k75) ?_
          refine FL.v (E.neg rfl) ?_
          refine FL.v (E.move k72) ?_
          obtain ⟨v398, w399, run400, S401, els402⟩ := S396.ints (P := Tryz.prog) te82 (up wa.heap.size H67) 2 [(wr (-s58)), a2]
          refine FL.v (E.buildSlice (B2 rfl rfl) run400) ?_
          refine FL.v (E.move k74) ?_
          refine FL.v (E.neg rfl) ?_
          refine FL.v (E.move k75) ?_
          refine FL.v (E.move k72) ?_
          refine FL.v (E.neg rfl) ?_
          obtain ⟨v403, w404, run405, S406, els407⟩ := S401.ints (P := Tryz.prog) te82 (up wa.heap.size H67) 3 [(wr (-s32)), s58, (wr (-a2))]
          refine FL.v (E.buildSlice (B3 rfl rfl rfl) run405) ?_
          obtain ⟨H408, S409, i410, h411, nv412⟩ := S406.sealRowU (i := 2) (l' := [.row 3 1 v403 3 (iC [(wr (-s32)), s58, (wr (-a2))]), .row 3 1 v398 2 (iC [(wr (-s58)), a2]), .row 82 1 v76 0 []]) rfl els397 (by decide) rfl
          obtain ⟨H413, S414, i415, h416, nv417⟩ := S409.sealRowU (i := 1) (l' := [.row 3 1 v403 3 (iC [(wr (-s32)), s58, (wr (-a2))]), .row 82 1 v76 0 []]) rfl (els402.mono (up_mono i410)) (by decide) rfl
          obtain ⟨H418, S419, i420, h421, nv422⟩ := S414.sealRowU (i := 0) (l' := [.row 82 1 v76 0 []]) rfl (els407.mono (up_mono (i410.tr i415))) (by decide) rfl
          obtain ⟨v423, w424, run425, S426⟩ := S419.buildSlice (P := Tryz.prog) te44 [v393, v398, v403] (parts := #[(0, v393), (1, v398), (2, v403)]) (cells := [v393, v398, v403]) rfl (szs_cons (cells_size h411.cells) (szs_cons (cells_size h416.cells) (szs_cons (cells_size h421.cells) szs_nil))) (fc_cons h411.cells (fc_cons h416.cells (fc_cons h421.cells fc_nil))) (ones_cons h411.one (ones_cons h416.one (ones_cons h421.one ones_nil))) (Nat.le_of_ble_eq_true rfl)
          have els427 : Els (up wa.heap.size H418) (eL eI 1) 1 [v393, v398, v403] [[s32, a2], [(wr (-s58)), a2], [(wr (-s32)), s58, (wr (-a2))]] := (Els.snoc (H := (up wa.heap.size H418)) (E := (eL eI 1)) (k := 1) (c := [v403]) (x := [(wr (-s32)), s58, (wr (-a2))]) (Els.snoc (H := (up wa.heap.size H418)) (E := (eL eI 1)) (k := 1) (c := [v398]) (x := [(wr (-s58)), a2]) (Els.snoc (H := (up wa.heap.size H418)) (E := (eL eI 1)) (k := 1) (c := [v393]) (x := [s32, a2]) Els.nil rfl ⟨_, rfl, (h411.mono (up_mono (i415.tr i420)))⟩) rfl ⟨_, rfl, (h416.mono (up_mono i420))⟩) rfl ⟨_, rfl, h421⟩)
          refine FL.v (E.buildSlice (B3 rfl rfl rfl) run425) ?_
          refine FL.v (E.assign (v := v423) rfl) ?_
          refine FL.nil ?_
          obtain rfl := Option.some.inj hp
          exact ⟨rfl, ⟨_, _, _, _, (S426.sel [0] (by decide) rfl), ((i410.tr i415).tr i420), els427, rfl⟩⟩
         ·
          refine FW.condF rfl c392 ?_
          refine FW.skip ?_
          obtain rfl := Option.some.inj hp
          exact ⟨rfl, ⟨_, _, _, _, S79, (Inc.rfl _), els80, rfl⟩⟩
   ·
    rintro s251 rfl f432 w431 ⟨H428, v254, n255, cs256, S429, i430, els257, k433⟩
    replace hp := el_go hp
    refine FW.seq (FW.region ?_)
    obtain ⟨v434, w435, run436, S437⟩ := S429.buildSlice (P := Tryz.prog) te44 [] (parts := #[]) (cells := []) rfl szs_nil fc_nil ones_nil (Nat.le_of_ble_eq_true rfl)
    have els438 : Els (up wa.heap.size H428) (eL eI 1) 1 [] [] := Els.nil
    refine FL.v (E.buildSlice (B0) run436) ?_
    refine FL.v (E.assign (v := v434) rfl) ?_
    refine FL.nil (FW.seq (FW.seq (FW.region ?_)))
    refine FL.v (E.assign (v := Value.int .i64 0) rfl) ?_
    refine FL.nil ?_
    obtain ⟨q439, hq, hp⟩ := bndR hp
    refine FW.block ?_
    refine FW.mono (FW.iter (S := ((List (List Int)) × Int)) (X := Empty) (fun (s439 : ((List (List Int)) × Int)) f w => ∃ H : GH, ∃ v440 : Value, ∃ n441 : Nat, ∃ cs442 : List Value, St Ha wa H w [.row 82 1 v440 n441 cs442, .row 82 1 v254 n255 cs256] ∧ Inc H428 H ∧ Els (up wa.heap.size H) (eL eI 1) 1 cs442 s439.1 ∧ (bl cs442).Nodup ∧ f 12 = v254 ∧ f 13 = v440 ∧ f 14 = Value.int .i64 s439.2) (fun (q : Rs ((List (List Int)) × Int) Empty) e f w => match q with | .go s439 => e = Exit.exit 1 ∧ (∃ H : GH, ∃ v440 : Value, ∃ n441 : Nat, ∃ cs442 : List Value, St Ha wa H w [.row 82 1 v440 n441 cs442, .row 82 1 v254 n255 cs256] ∧ Inc H428 H ∧ Els (up wa.heap.size H) (eL eI 1) 1 cs442 s439.1 ∧ (bl cs442).Nodup ∧ f 13 = v440) | .rt x => x.elim) hq ⟨_, _, _, _, S437, (Inc.rfl _), els438, (show (bl []).Nodup from List.nodup_nil), k433, rfl, rfl⟩ ?_) ?_
    ·
     clear hp hq
     rintro s439 f502 w501 ⟨H498, v440, n441, cs442, S499, i500, els443, nd444, k503, k504, k505⟩ o551 hp
     refine FW.seq (FW.seq (FW.region ?_))
     refine FL.v (E.move k505) ?_
     refine FL.v (E.move k503) ?_
     refine FL.v (E.lenO te44 rfl S499 (i := 1) rfl els257 (by decide)) ?_
     refine FL.v (E.lss rfl rfl) ?_
     refine FL.nil ?_
     rcases ifB hp with ⟨c506, hp⟩ | ⟨c506, hp⟩
     ·
      refine FW.condT rfl c506 ?_
      refine FW.skip (FW.seq (FW.block (FW.seq (FW.region ?_))))
      refine FL.v (E.move k503) ?_
      refine FL.v (E.move k505) ?_
      obtain ⟨x513, hx514, hp⟩ := bnd hp
      obtain ⟨p507, cs508, pt509, l510, at511, rel512⟩ := S499.row_at (i := 1) rfl els257 (by decide) hx514
      obtain ⟨v515, rfl, h516⟩ := eL_open rel512
      refine FL.v (E.indexAddr te44 rfl rfl pt509) ?_
      refine FL.v (E.load rfl (run_load0 Tryz.isAgg82 at511 rfl)) ?_
      obtain ⟨r517, hr518, hp⟩ := bnd hp
      refine FL.call rfl rfl rfl (E.call Tryz.call137 (A1 rfl)) (w_spec_l2Of S499.sl v515 x513 (h516.mono (upI.tr i500)) hr518) ?_
      rintro e w520 ⟨H519, v523, n524, cs525, rfl, r522, els526⟩
      refine ⟨_, rfl, ?_⟩
      have els526 := els526.mono (up_le S499.size)
      have S521 := S499.join (l' := [.row 3 1 v523 n524 cs525, .row 82 1 v440 n441 cs442, .row 82 1 v254 n255 cs256]) r522 rfl
      refine FL.v (E.move (v := Value.tuple #[v523, Value.bool r517.2]) rfl) ?_
      refine FL.v (E.extract (i := 0) rfl rfl) ?_
      refine FL.v (E.extract (i := 1) rfl rfl) ?_
      refine FL.v (E.assign (v := v523) rfl) ?_
      refine FL.v (E.assign (v := Value.bool r517.2) rfl) ?_
      refine FL.nil (FW.seq (FW.region ?_))
      refine FL.v (E.move (v := Value.bool r517.2) rfl) ?_
      refine FL.nil ?_
      rcases ifB hp with ⟨c527, hp⟩ | ⟨c527, hp⟩
      ·
       refine FW.condT rfl c527 ?_
       refine FW.region ?_
       refine FL.v (E.move k504) ?_
       refine FL.v (E.move (v := v523) rfl) ?_
       obtain ⟨H528, S529, i530, h531, nv532⟩ := S521.sealRowU (i := 0) (l' := [.row 82 1 v440 n441 cs442, .row 82 1 v254 n255 cs256]) rfl els526 (by decide) rfl
       obtain ⟨v533, w534, run535, S536⟩ := S529.buildSlice (P := Tryz.prog) te44 [v523] (parts := #[(0, v523)]) (cells := [v523]) rfl (szs_cons (cells_size h531.cells) szs_nil) (fc_cons h531.cells fc_nil) (ones_cons h531.one ones_nil) (Nat.le_of_ble_eq_true rfl)
       have els537 : Els (up wa.heap.size H528) (eL eI 1) 1 [v523] [r517.1] := (Els.snoc (H := (up wa.heap.size H528)) (E := (eL eI 1)) (k := 1) (c := [v523]) (x := r517.1) Els.nil rfl ⟨_, rfl, h531⟩)
       have nd538 : (bl [v523]).Nodup := by exact nd_one v523
       refine FL.v (E.buildSlice (B1 rfl) run535) ?_
       obtain ⟨xs539, hz540, hp⟩ := bnd hp
       obtain ⟨v541, w544, n542, cs543, run545, S546, els547, ce548⟩ := S536.appendO (P := Tryz.prog) te44 (i := 1) (j := 0) rfl (els443.mono (up_mono (r522.run.inc.tr i530))) rfl els537 hz540
       have S546 : St Ha wa H528 w544 [.row 82 1 v533 1 [v523], .row 82 1 v541 n542 cs543, .row 82 1 v254 n255 cs256] := S546
       have nd549 : (bl cs543).Nodup := by rw [ce548]; exact nd_app nd444 nd538 (Els.dom (els443.mono (upI.tr r522.run.inc))) (by exact nv532)
       have S550 : St Ha wa H528 w544 [.row 82 1 v541 n542 cs543, .row 82 1 v254 n255 cs256] := S546.drop 0
       refine FL.v (E.append rfl rfl run545) ?_
       refine FL.v (E.assign (v := v541) rfl) ?_
       refine FL.nil (FW.region ?_)
       refine FL.v (E.move k505) ?_
       refine FL.v (E.add rfl rfl) ?_
       refine FL.v (E.assign (v := Value.int .i64 (wr (s439.2 + 1))) rfl) ?_
       refine FL.nil ?_
       obtain rfl := Option.some.inj hp
       exact ⟨rfl, ⟨_, _, _, _, S550, ((i500.tr r522.run.inc).tr i530), els547, nd549, k503, rfl, rfl⟩⟩
      ·
       refine FW.condF rfl c527 ?_
       refine FW.skip (FW.region ?_)
       refine FL.v (E.move k505) ?_
       refine FL.v (E.add rfl rfl) ?_
       refine FL.v (E.assign (v := Value.int .i64 (wr (s439.2 + 1))) rfl) ?_
       refine FL.nil ?_
       obtain rfl := Option.some.inj hp
       exact ⟨rfl, ⟨_, _, _, _, (S521.sel [1, 2] (by decide) rfl), (i500.tr r522.run.inc), (els443.mono (up_mono r522.run.inc)), nd444, k503, k504, rfl⟩⟩
     ·
      refine FW.condF rfl c506 ?_
      refine FW.exit ?_
      obtain rfl := Option.some.inj hp
      exact ⟨nofun, rfl, ⟨_, _, _, _, S499, i500, els443, nd444, k504⟩⟩
    ·
     clear hq
     intro e f556 w555 hD
     rcases q439 with s439 | x439
     ·
      obtain ⟨rfl, hD⟩ := hD
      obtain ⟨H552, v440, n441, cs442, S553, i554, els443, nd444, k557⟩ := hD
      replace hp := el_go hp
      refine FW.seq (FW.region ?_)
      refine FL.v (E.move k557) ?_
      refine FL.v (E.assign (v := v440) rfl) ?_
      refine FL.nil ?_
      refine FW.ret ?_
      obtain rfl := Option.some.inj hp
      exact ⟨.inr rfl, res1 rfl rfl ⟨_, _, _, _, rfl, (S553.sel [0] (by decide) rfl), els443, nd444⟩⟩
     ·
      exact x439.elim
   ·
    intro x253; exact x253.elim
  ·
   intro x60; exact x60.elim
 ·
  intro x34; exact x34.elim

@[reducible] def p_spec_DefiningCnf (Ha : GH) (wa : World) (r : (Cnf × Bool)) : Ending → World → Prop :=
 fun e w' => ∃ H' : GH, ∃ v0_1 : Value, e = .returned (Value.tuple #[Value.agg #[Value.int .i64 r.1.vars, v0_1], Value.bool r.2]) ∧ Run wa.heap.size Ha wa H' w' ∧ (∃ c, Nest (up wa.heap.size H') (eL eI 1) 1 v0_1 r.1.clauses c)
set_option maxHeartbeats 4000000 in
theorem w_spec_DefiningCnf {Ha : GH} {wa : World} (hs : Sl Ha wa) (a0 : ByteArray) {r : (Cnf × Bool)} (hp : (PF.spec_DefiningCnf a0) = some r) :
  Calls Tryz.prog 31 #[Value.string a0] wa (p_spec_DefiningCnf Ha wa r) := by
 unfold PF.spec_DefiningCnf at hp
 have S0 := St.init hs
 refine calls_go (N := 73) (args := [Value.string a0]) Tryz.func31 rfl rfl rfl ?_
 refine FW.seq (FW.region ?_)
 have S25 := S0.nil 82 1
 have els26 : Els (up wa.heap.size Ha) (eL eI 1) 1 [] [] := Els.nil
 obtain ⟨b21, w22, run23, S24⟩ := S25.alloc (P := Tryz.prog) 46 [Value.int .i64 0, Value.slice none 0 0] Tryz.zeroValue46 rfl (ones_cons rfl (ones_cons rfl ones_nil))
 refine FL.v (E.alloc run23) ?_
 refine FL.v (E.assign (v := Value.bool false) rfl) ?_
 refine FL.nil (FW.seq (FW.seq (FW.region ?_)))
 refine FL.v (E.move (v := Value.string a0) rfl) ?_
 obtain ⟨r27, hr28, hp⟩ := bnd hp
 refine FL.call rfl rfl rfl (E.call Tryz.call48 (A1 rfl)) (w_spec_l22Good S24.sl a0 hr28) ?_
 rintro e w29 ⟨rfl, r30⟩
 refine ⟨_, rfl, ?_⟩
 have S31 := S24.call r30
 refine FL.v (E.not rfl) ?_
 refine FL.nil ?_
 rcases ifB hp with ⟨c32, hp⟩ | ⟨c32, hp⟩
 ·
  refine FW.condT rfl c32 ?_
  refine FW.seq (FW.region ?_)
  refine FL.v (E.build (B0) (run_build _ 46 #[] #[Value.int .i64 0, Value.slice none 0 0] (by rfl))) ?_
  have S33 := S31.nil 82 1
  have els34 : Els (up wa.heap.size Ha) (eL eI 1) 1 [] [] := Els.nil
  obtain ⟨w35, run36, S37⟩ := S33.store0 (P := Tryz.prog) (t := 46) (i := 1) (cs' := [Value.int .i64 0, (Value.slice none 0 0)]) (l' := [.row 82 1 (Value.slice none 0 0) 0 [], .box b21 46 [Value.int .i64 0, (Value.slice none 0 0)], .row 82 1 (Value.slice none 0 0) 0 []]) (v := Value.agg #[Value.int .i64 0, (Value.slice none 0 0)]) (c := [Value.int .i64 0, (Value.slice none 0 0)]) rfl Tryz.sizeOf46 rfl rfl (ones_cons rfl (ones_cons (Ln.one (S33.row_ln (i := 0) rfl)) ones_nil)) (Nat.le_of_ble_eq_true rfl) rfl rfl
  refine FL.act rfl rfl (E.store rfl rfl run36) ?_
  refine FL.v (E.assign (v := Value.bool false) rfl) ?_
  refine FL.nil ?_
  refine FW.ret ?_
  obtain ⟨H38, S39, i40, ns43, nv42⟩ := S37.sealRowN (i := 0) (l' := [.box b21 46 [Value.int .i64 0, (Value.slice none 0 0)], .row 82 1 (Value.slice none 0 0) 0 []]) rfl els34 (show (bl []).Nodup from List.nodup_nil) (by decide) rfl
  have h41 := ns43.rsl
  obtain rfl := Option.some.inj hp
  exact ⟨.inr rfl, resC2 rfl rfl (loadVar_A Tryz.isAgg46 Tryz.sizeOf46 (S39.box_now (i := 0) rfl) rfl) rfl ⟨_, _, rfl, S39.run, ⟨_, ns43⟩⟩⟩
 ·
  refine FW.condF rfl c32 ?_
  refine FW.skip (FW.seq (FW.region ?_))
  obtain ⟨v44, w45, run46, S47⟩ := S31.buildSlice (P := Tryz.prog) te22 [] (parts := #[]) (cells := []) rfl szs_nil fc_nil ones_nil (Nat.le_of_ble_eq_true rfl)
  have els48 : Els (up wa.heap.size Ha) eS 1 [] [] := Els.nil
  refine FL.v (E.buildSlice (B0) run46) ?_
  refine FL.v (E.move (v := Value.string a0) rfl) ?_
  obtain ⟨H49, S50, i51, h52, nv53⟩ := S47.sealRowU (i := 0) (l' := [.box b21 46 [Value.int .i64 0, (Value.slice none 0 0)], .row 82 1 (Value.slice none 0 0) 0 []]) rfl els48 (by decide) rfl
  obtain ⟨r54, hr55, hp⟩ := bnd hp
  refine FL.call rfl rfl rfl (E.call Tryz.call83 (A2 rfl rfl)) (w_spec_l22All S50.sl v44 [] (h52.mono upI) a0 hr55) ?_
  rintro e w57 ⟨H56, v60, rfl, r59, h61⟩
  refine ⟨_, rfl, ?_⟩
  have S58 := S50.call r59
  obtain ⟨v62, w63, run64, S65⟩ := S58.buildSlice (P := Tryz.prog) te22 [] (parts := #[]) (cells := []) rfl szs_nil fc_nil ones_nil (Nat.le_of_ble_eq_true rfl)
  have els66 : Els (up wa.heap.size H56) eS 1 [] [] := Els.nil
  refine FL.v (E.buildSlice (B0) run64) ?_
  refine FL.v (E.assign (v := v60) rfl) ?_
  refine FL.v (E.assign (v := v62) rfl) ?_
  refine FL.nil (FW.seq (FW.seq (FW.region ?_)))
  refine FL.v (E.assign (v := Value.int .i64 0) rfl) ?_
  refine FL.nil ?_
  obtain ⟨q68, hq, hp⟩ := bndR hp
  refine FW.block ?_
  refine FW.mono (FW.forL (S := (List ByteArray)) (X := Empty) (fun (i68 : Nat) (s68 : (List ByteArray)) f w => ∃ H : GH, ∃ v69 : Value, ∃ n70 : Nat, ∃ cs71 : List Value, St Ha wa H w [.row 9 1 v69 n70 cs71, .box b21 46 [Value.int .i64 0, (Value.slice none 0 0)], .row 82 1 (Value.slice none 0 0) 0 []] ∧ Inc H56 H ∧ Els (up wa.heap.size H) eS 1 cs71 s68 ∧ f 6 = Value.int .i64 ((i68 : Nat) : Int) ∧ f 0 = Value.string a0 ∧ f 2 = Value.pointer (some (⟨b21, 0, none⟩ : Addr)) ∧ f 4 = v60 ∧ f 5 = v69) (fun (q : Rs (List ByteArray) Empty) e f w => match q with | .go s68 => e = Exit.exit 0 ∧ (∃ H : GH, ∃ v69 : Value, ∃ n70 : Nat, ∃ cs71 : List Value, St Ha wa H w [.row 9 1 v69 n70 cs71, .box b21 46 [Value.int .i64 0, (Value.slice none 0 0)], .row 82 1 (Value.slice none 0 0) 0 []] ∧ Inc H56 H ∧ Els (up wa.heap.size H) eS 1 cs71 s68 ∧ f 0 = Value.string a0 ∧ f 2 = Value.pointer (some (⟨b21, 0, none⟩ : Addr)) ∧ f 5 = v69) | .rt x => x.elim) hq ⟨_, _, _, _, S65, (Inc.rfl _), els66, rfl, rfl, rfl, rfl, rfl⟩ ?_ ?_) ?_
  ·
   clear hp hq
   rintro i68 y67 s68 f121 w120 ⟨H117, v69, n70, cs71, S118, i119, els72, k122, k123, k124, k125, k126⟩ hx68 o161 hp
   refine FW.seq (FW.seq (FW.region ?_))
   refine FL.v (E.move k122) ?_
   refine FL.v (E.move k125) ?_
   refine FL.v (E.lenP te22 rfl h61) ?_
   refine FL.v (E.lssT rfl rfl (lss_len hx68)) ?_
   refine FL.nil ?_
   refine FW.condT rfl rfl ?_
   refine FW.skip (FW.seq (FW.block (FW.seq (FW.region ?_))))
   refine FL.v (E.move k125) ?_
   refine FL.v (E.move k122) ?_
   obtain ⟨p127, cs128, pt129, l130, at131, rel132⟩ := h61.at (ix_nat hx68)
   obtain rfl := eS_open rel132
   refine FL.v (E.indexAddr te22 rfl rfl pt129) ?_
   refine FL.v (E.load rfl (run_load0 Tryz.isAgg9 ((at131.mono i119).now S118.sl) rfl)) ?_
   obtain ⟨r133, hr134, hp⟩ := bnd hp
   refine FL.call rfl rfl rfl (E.call Tryz.call84 (A1 rfl)) (w_spec_l22Letter S118.sl y67 hr134) ?_
   rintro e w135 ⟨rfl, r136⟩
   refine ⟨_, rfl, ?_⟩
   have S137 := S118.call r136
   refine FL.v (E.not rfl) ?_
   refine FL.nil ?_
   rcases ifB hp with ⟨c138, hp⟩ | ⟨c138, hp⟩
   ·
    refine FW.condT rfl c138 ?_
    refine FW.region ?_
    refine FL.v (E.move k126) ?_
    refine FL.v (E.move k125) ?_
    refine FL.v (E.move k122) ?_
    obtain ⟨p139, cs140, pt141, l142, at143, rel144⟩ := h61.at (ix_nat hx68)
    obtain rfl := eS_open rel144
    refine FL.v (E.indexAddr te22 rfl rfl pt141) ?_
    refine FL.v (E.load rfl (run_load0 Tryz.isAgg9 ((at143.mono i119).now S137.sl) rfl)) ?_
    obtain ⟨v145, w146, run147, S148⟩ := S137.buildSlice (P := Tryz.prog) te22 [Value.string y67] (parts := #[(0, Value.string y67)]) (cells := [Value.string y67]) rfl (szs_cons rfl szs_nil) (fc_cons rfl fc_nil) (ones_cons rfl ones_nil) (Nat.le_of_ble_eq_true rfl)
    have els149 : Els (up wa.heap.size H117) eS 1 [Value.string y67] [y67] := (Els.snoc (H := (up wa.heap.size H117)) (E := eS) (k := 1) (c := [Value.string y67]) (x := y67) Els.nil rfl rfl)
    refine FL.v (E.buildSlice (B1 rfl) run147) ?_
    obtain ⟨xs150, hz151, hp⟩ := bnd hp
    obtain ⟨v152, w155, n153, cs154, run156, S157, els158, ce159⟩ := S148.appendO (P := Tryz.prog) te22 (i := 1) (j := 0) rfl els72 rfl els149 hz151
    have S157 : St Ha wa H117 w155 [.row 9 1 v145 1 [Value.string y67], .row 9 1 v152 n153 cs154, .box b21 46 [Value.int .i64 0, (Value.slice none 0 0)], .row 82 1 (Value.slice none 0 0) 0 []] := S157
    have S160 : St Ha wa H117 w155 [.row 9 1 v152 n153 cs154, .box b21 46 [Value.int .i64 0, (Value.slice none 0 0)], .row 82 1 (Value.slice none 0 0) 0 []] := S157.drop 0
    refine FL.v (E.append rfl rfl run156) ?_
    refine FL.v (E.assign (v := v152) rfl) ?_
    refine FL.nil (FW.region ?_)
    refine FL.v (E.move k122) ?_
    refine FL.v (E.add rfl rfl) ?_
    refine FL.v (E.assign (v := Value.int .i64 (wr (((i68 : Nat) : Int) + 1))) rfl) ?_
    refine FL.nil ?_
    obtain rfl := Option.some.inj hp
    exact ⟨rfl, ⟨_, _, _, _, S160, i119, els158, (nat_succ rfl (lt_of_get hx68) (h61.mono i119).le), k123, k124, k125, rfl⟩⟩
   ·
    refine FW.condF rfl c138 ?_
    refine FW.skip (FW.region ?_)
    refine FL.v (E.move k122) ?_
    refine FL.v (E.add rfl rfl) ?_
    refine FL.v (E.assign (v := Value.int .i64 (wr (((i68 : Nat) : Int) + 1))) rfl) ?_
    refine FL.nil ?_
    obtain rfl := Option.some.inj hp
    exact ⟨rfl, ⟨_, _, _, _, S137, i119, els72, (nat_succ rfl (lt_of_get hx68) (h61.mono i119).le), k123, k124, k125, k126⟩⟩
  ·
   clear hp hq
   rintro s68 f309 w308 ⟨H305, v69, n70, cs71, S306, i307, els72, k310, k311, k312, k313, k314⟩
   refine FW.seq (FW.seq (FW.region ?_))
   refine FL.v (E.move k310) ?_
   refine FL.v (E.move k313) ?_
   refine FL.v (E.lenP te22 rfl h61) ?_
   refine FL.v (E.lss rfl rfl) ?_
   refine FL.nil ?_
   refine FW.condF rfl dlt_len ?_
   refine FW.exit ?_
   exact ⟨nofun, rfl, ⟨_, _, _, _, S306, i307, els72, k311, k312, k314⟩⟩
  ·
   clear hq
   intro e f166 w165 hD
   rcases q68 with s68 | x68
   ·
    obtain ⟨rfl, hD⟩ := hD
    obtain ⟨H162, v69, n70, cs71, S163, i164, els72, k167, k168, k169⟩ := hD
    replace hp := el_go hp
    refine FW.seq (FW.seq (FW.region ?_))
    refine FL.v (E.move k169) ?_
    refine FL.v (E.lenO te22 rfl S163 (i := 0) rfl els72 (by decide)) ?_
    refine FL.v (E.gtr rfl rfl) ?_
    refine FL.nil ?_
    rcases ifB hp with ⟨c170, hp⟩ | ⟨c170, hp⟩
    ·
     refine FW.condT rfl c170 ?_
     refine FW.seq (FW.region ?_)
     refine FL.v (E.build (B0) (run_build _ 46 #[] #[Value.int .i64 0, Value.slice none 0 0] (by rfl))) ?_
     have S171 := S163.nil 82 1
     have els172 : Els (up wa.heap.size H162) (eL eI 1) 1 [] [] := Els.nil
     obtain ⟨w173, run174, S175⟩ := S171.store0 (P := Tryz.prog) (t := 46) (i := 2) (cs' := [Value.int .i64 0, (Value.slice none 0 0)]) (l' := [.row 82 1 (Value.slice none 0 0) 0 [], .row 9 1 v69 n70 cs71, .box b21 46 [Value.int .i64 0, (Value.slice none 0 0)], .row 82 1 (Value.slice none 0 0) 0 []]) (v := Value.agg #[Value.int .i64 0, (Value.slice none 0 0)]) (c := [Value.int .i64 0, (Value.slice none 0 0)]) rfl Tryz.sizeOf46 rfl rfl (ones_cons rfl (ones_cons (Ln.one (S171.row_ln (i := 0) rfl)) ones_nil)) (Nat.le_of_ble_eq_true rfl) rfl rfl
     refine FL.act rfl rfl (E.store k168 rfl run174) ?_
     refine FL.v (E.assign (v := Value.bool false) rfl) ?_
     refine FL.nil ?_
     refine FW.ret ?_
     obtain ⟨H176, S177, i178, ns181, nv180⟩ := S175.sealRowN (i := 0) (l' := [.row 9 1 v69 n70 cs71, .box b21 46 [Value.int .i64 0, (Value.slice none 0 0)], .row 82 1 (Value.slice none 0 0) 0 []]) rfl els172 (show (bl []).Nodup from List.nodup_nil) (by decide) rfl
     have h179 := ns181.rsl
     obtain rfl := Option.some.inj hp
     exact ⟨.inr rfl, resC2 rfl k168 (loadVar_A Tryz.isAgg46 Tryz.sizeOf46 (S177.box_now (i := 1) rfl) rfl) rfl ⟨_, _, rfl, S177.run, ⟨_, ns181⟩⟩⟩
    ·
     refine FW.condF rfl c170 ?_
     refine FW.skip (FW.seq (FW.region ?_))
     refine FL.v (E.move k169) ?_
     refine FL.v (E.lenO te22 rfl S163 (i := 0) rfl els72 (by decide)) ?_
     refine FL.v (E.add rfl rfl) ?_
     obtain ⟨v182, w183, run184, S185⟩ := S163.buildSlice (P := Tryz.prog) te44 [] (parts := #[]) (cells := []) rfl szs_nil fc_nil ones_nil (Nat.le_of_ble_eq_true rfl)
     have els186 : Els (up wa.heap.size H162) (eL eI 1) 1 [] [] := Els.nil
     refine FL.v (E.buildSlice (B0) run184) ?_
     refine FL.v (E.build (B2 rfl rfl) (run_build _ 46 #[(0, Value.int .i64 (wr (6 + (len s68)))), (1, v182)] #[Value.int .i64 (wr (6 + (len s68))), v182] (by obtain ⟨_, _, rfl⟩ := S185.row_ln (i := 0) rfl; rfl))) ?_
     have S191 := S185.nil 82 1
     have els192 : Els (up wa.heap.size H162) (eL eI 1) 1 [] [] := Els.nil
     obtain ⟨b187, w188, run189, S190⟩ := S191.alloc (P := Tryz.prog) 46 [Value.int .i64 0, Value.slice none 0 0] Tryz.zeroValue46 rfl (ones_cons rfl (ones_cons rfl ones_nil))
     refine FL.v (E.alloc run189) ?_
     obtain ⟨w193, run194, S195⟩ := S190.store0 (P := Tryz.prog) (t := 46) (i := 0) (cs' := [Value.int .i64 (wr (6 + (len s68))), v182]) (l' := [.box b187 46 [Value.int .i64 (wr (6 + (len s68))), v182], .row 82 1 (Value.slice none 0 0) 0 [], .row 82 1 v182 0 [], .row 9 1 v69 n70 cs71, .box b21 46 [Value.int .i64 0, (Value.slice none 0 0)], .row 82 1 (Value.slice none 0 0) 0 []]) (v := Value.agg #[Value.int .i64 (wr (6 + (len s68))), v182]) (c := [Value.int .i64 (wr (6 + (len s68))), v182]) rfl Tryz.sizeOf46 rfl rfl (ones_cons rfl (ones_cons (Ln.one (S190.row_ln (i := 2) rfl)) ones_nil)) (Nat.le_of_ble_eq_true rfl) rfl rfl
     refine FL.act rfl rfl (E.store rfl rfl run194) ?_
     refine FL.nil (FW.seq (FW.seq (FW.region ?_)))
     refine FL.v (E.assign (v := Value.int .i64 0) rfl) ?_
     refine FL.nil ?_
     obtain ⟨q196, hq, hp⟩ := bndR hp
     refine FW.block ?_
     refine FW.mono (FW.iter (S := ((List (List Int)) × Int)) (X := Empty) (fun (s196 : ((List (List Int)) × Int)) f w => ∃ H : GH, ∃ v73 : Value, ∃ n74 : Nat, ∃ cs75 : List Value, St Ha wa H w [.box b187 46 [Value.int .i64 (wr (6 + (len s68))), v73], .row 82 1 v73 n74 cs75, .row 9 1 v69 n70 cs71, .box b21 46 [Value.int .i64 0, (Value.slice none 0 0)], .row 82 1 (Value.slice none 0 0) 0 []] ∧ Inc H162 H ∧ Els (up wa.heap.size H) (eL eI 1) 1 cs75 s196.1 ∧ (bl cs75).Nodup ∧ f 0 = Value.string a0 ∧ f 2 = Value.pointer (some (⟨b21, 0, none⟩ : Addr)) ∧ f 5 = v69 ∧ f 7 = Value.pointer (some (⟨b187, 0, none⟩ : Addr)) ∧ f 8 = Value.int .i64 s196.2) (fun (q : Rs ((List (List Int)) × Int) Empty) e f w => match q with | .go s196 => e = Exit.exit 2 ∧ (∃ H : GH, ∃ v73 : Value, ∃ n74 : Nat, ∃ cs75 : List Value, St Ha wa H w [.box b187 46 [Value.int .i64 (wr (6 + (len s68))), v73], .row 82 1 v73 n74 cs75, .row 9 1 v69 n70 cs71, .box b21 46 [Value.int .i64 0, (Value.slice none 0 0)], .row 82 1 (Value.slice none 0 0) 0 []] ∧ Inc H162 H ∧ Els (up wa.heap.size H) (eL eI 1) 1 cs75 s196.1 ∧ (bl cs75).Nodup ∧ f 0 = Value.string a0 ∧ f 2 = Value.pointer (some (⟨b21, 0, none⟩ : Addr)) ∧ f 5 = v69 ∧ f 7 = Value.pointer (some (⟨b187, 0, none⟩ : Addr))) | .rt x => x.elim) hq ⟨_, _, _, _, (S195.sel [0, 2, 3, 4, 5] (by decide) rfl), (Inc.rfl _), els186, (show (bl []).Nodup from List.nodup_nil), k167, k168, k169, rfl, rfl⟩ ?_) ?_
     ·
      clear hp hq
      rintro s196 f83 w81 ⟨H78, v73, n74, cs75, S79, i80, els76, nd77, k84, k85, k86, k87, k88⟩ o230 hp
      refine FW.seq (FW.seq (FW.region ?_))
      refine FL.v (E.move k88) ?_
      refine FL.v (E.move k86) ?_
      refine FL.v (E.lenO te22 rfl S79 (i := 2) rfl els72 (by decide)) ?_
      refine FL.v (E.lss rfl rfl) ?_
      refine FL.nil ?_
      rcases ifB hp with ⟨c89, hp⟩ | ⟨c89, hp⟩
      ·
       refine FW.condT rfl c89 ?_
       refine FW.skip (FW.seq (FW.block ?_))
       obtain ⟨x99, hx100, hp⟩ := bnd hp
       obtain ⟨r107, hr108, hp⟩ := bnd hp
       obtain ⟨xs201, hz202, hp⟩ := bnd hp
       refine FW.drawB (SX Ha wa H78 [.row 9 1 v69 n70 cs71]) (fun f w => ∃ H : GH, ∃ v215 : Value, ∃ n216 : Nat, ∃ cs217 : List Value, St Ha wa H w [.box b187 46 [Value.int .i64 (wr (6 + (len s68))), v215], .row 82 1 v215 n216 cs217, .row 9 1 v69 n70 cs71, .box b21 46 [Value.int .i64 0, (Value.slice none 0 0)], .row 82 1 (Value.slice none 0 0) 0 []] ∧ Inc H78 H ∧ Els (up wa.heap.size H) (eL eI 1) 1 cs217 xs201 ∧ (bl cs217).Nodup ∧ f 0 = Value.string a0 ∧ f 2 = Value.pointer (some (⟨b21, 0, none⟩ : Addr)) ∧ f 5 = v69 ∧ f 7 = Value.pointer (some (⟨b187, 0, none⟩ : Addr)) ∧ f 8 = Value.int .i64 s196.2) (by kernel_rfl) S79.sl ?_ ?_
       ·
        intro w90 r91
        have S92 := S79.call r91
        refine FB.phase [12] (fun w => WAt w (Addr.add ⟨b187, 0, none⟩ 1) [v73]) ?_
        refine FB.t (i := 0) (bs 13 1) rfl (SP.on ((S92.box_now (i := 0) rfl).sub (j := 1) (n := 1) (c := [v73]) rfl) (SP.nil ⟨_, (S92.sel [2] (by decide) rfl), (Inc.rfl _)⟩)) rfl (fun w' hw' => (E.fieldAddr tf46_1 k87)) ?_
        refine FB.p (i := 1) (bs 13 3) 0 [10, 11, 12] rfl (SP.on ((S92.box_now (i := 0) rfl).sub (j := 1) (n := 1) (c := [v73]) rfl) (SP.nil ⟨_, (S92.sel [2] (by decide) rfl), (Inc.rfl _)⟩)) rfl rfl (fun w' hw' => (E.load rfl (run_load0 Tryz.isAgg44 hw' rfl))) ?_
        refine FB.t (i := 2) (bs 13 7) rfl (SP.on ((S92.box_now (i := 0) rfl).sub (j := 1) (n := 1) (c := [v73]) rfl) (SP.nil ⟨_, (S92.sel [2] (by decide) rfl), (Inc.rfl _)⟩)) rfl (fun w' hw' => (E.move k86)) ?_
        refine FB.t (i := 3) (bs 13 15) rfl (SP.on ((S92.box_now (i := 0) rfl).sub (j := 1) (n := 1) (c := [v73]) rfl) (SP.nil ⟨_, (S92.sel [2] (by decide) rfl), (Inc.rfl _)⟩)) rfl (fun w' hw' => (E.move k86)) ?_
        refine FB.t (i := 4) (bs 13 31) rfl (SP.on ((S92.box_now (i := 0) rfl).sub (j := 1) (n := 1) (c := [v73]) rfl) (SP.nil ⟨_, (S92.sel [2] (by decide) rfl), (Inc.rfl _)⟩)) rfl (fun w' hw' => (E.move k88)) ?_
        obtain ⟨p93, cs94, pt95, l96, at97, rel98, hall101⟩ := S92.row_atA (i := 2) rfl els72 (by decide) hx100
        obtain rfl := eS_open rel98
        refine FB.t (i := 5) (bs 13 63) rfl (SP.on ((S92.box_now (i := 0) rfl).sub (j := 1) (n := 1) (c := [v73]) rfl) (SP.nil ⟨_, (S92.sel [2] (by decide) rfl), (Inc.rfl _)⟩)) rfl (fun w' hw' => (E.indexAddr te22 rfl rfl pt95)) ?_
        refine FB.t (i := 6) (bs 13 127) rfl (SP.on ((S92.box_now (i := 0) rfl).sub (j := 1) (n := 1) (c := [v73]) rfl) (SP.nil ⟨_, (S92.sel [2] (by decide) rfl), (Inc.rfl _)⟩)) rfl (fun w' hw' => (E.load rfl (run_load0 Tryz.isAgg9 (hw'.use fun _ st => hall101 _ _ _ 0 st rfl) rfl))) ?_
        refine FB.t (i := 7) (bs 13 255) rfl (SP.on ((S92.box_now (i := 0) rfl).sub (j := 1) (n := 1) (c := [v73]) rfl) (SP.nil ⟨_, (S92.sel [2] (by decide) rfl), (Inc.rfl _)⟩)) rfl (fun w' hw' => (E.move k88)) ?_
        refine FB.t (i := 8) (bs 13 511) rfl (SP.on ((S92.box_now (i := 0) rfl).sub (j := 1) (n := 1) (c := [v73]) rfl) (SP.nil ⟨_, (S92.sel [2] (by decide) rfl), (Inc.rfl _)⟩)) rfl (fun w' hw' => (E.add rfl rfl)) ?_
        refine FB.all1 (i := 9) (by kernel_rfl) ?_
        ·
         obtain ⟨H102, S103, i104, h105, nv106⟩ := S92.sealRowU (i := 2) (l' := [.box b187 46 [Value.int .i64 (wr (6 + (len s68))), v73], .row 82 1 v73 n74 cs75, .box b21 46 [Value.int .i64 0, (Value.slice none 0 0)], .row 82 1 (Value.slice none 0 0) 0 []]) rfl (els72.mono (up_mono i80)) (by decide) rfl
         refine FC.call (l' := (bs 13 1023)) rfl (by kernel_rfl) rfl rfl rfl (E.call Tryz.call85 (A3 rfl rfl rfl)) (w_spec_l22Defining S103.sl v69 s68 (h105.mono upI) x99 (wr (s196.2 + 7)) hr108) ?_
         rintro e w110 ⟨H109, v115, n116, cs197, rfl, r112, els198, nd199⟩
         refine ⟨_, rfl, ?_⟩
         obtain ⟨H113, r112, hU114⟩ := St.lendX i104 S92.sl r112
         have nv200 : New H78 cs197 := New.of_up S92.sl els198.dom
         have els198 := els198.mono (hU114.tr (up_le S92.size))
         have S111 := S92.join (l' := [.row 82 1 v115 n116 cs197, .box b187 46 [Value.int .i64 (wr (6 + (len s68))), v73], .row 82 1 v73 n74 cs75, .row 9 1 v69 n70 cs71, .box b21 46 [Value.int .i64 0, (Value.slice none 0 0)], .row 82 1 (Value.slice none 0 0) 0 []]) r112 rfl
         refine ⟨(SP.on ((S111.box_now (i := 1) rfl).sub (j := 1) (n := 1) (c := [v73]) rfl) (SP.nil ⟨_, (S111.sel [3] (by decide) rfl), r112.run.inc⟩)), ?_⟩
         refine FB.all1 (i := 10) (by kernel_rfl) ?_
         ·
          obtain ⟨v203, w206, n204, cs205, run207, S208, els209, ce210⟩ := S111.appendO (P := Tryz.prog) te44 (i := 2) (j := 0) rfl (els76.mono (up_mono r112.run.inc)) rfl els198 hz202
          have S208 : St Ha wa H113 w206 [.row 82 1 v115 n116 cs197, .box b187 46 [Value.int .i64 (wr (6 + (len s68))), v73], .row 82 1 v203 n204 cs205, .row 9 1 v69 n70 cs71, .box b21 46 [Value.int .i64 0, (Value.slice none 0 0)], .row 82 1 (Value.slice none 0 0) 0 []] := S208
          have nd211 : (bl cs205).Nodup := by rw [ce210]; exact nd_app nd77 nd199 (Els.dom (els76.mono (upI.tr (Inc.rfl _)))) (by exact nv200)
          refine FC.val (l' := (bs 13 2047)) rfl (by kernel_rfl) rfl rfl rfl (E.append rfl rfl run207) ?_
          refine ⟨(SP.on ((S208.box_now (i := 1) rfl).sub (j := 1) (n := 1) (c := [v73]) rfl) (SP.nil ⟨_, (S208.sel [3] (by decide) rfl), r112.run.inc⟩)), ?_⟩
          refine FB.t (i := 11) (bs 13 4095) rfl (SP.on ((S208.box_now (i := 1) rfl).sub (j := 1) (n := 1) (c := [v73]) rfl) (SP.nil ⟨_, (S208.sel [3] (by decide) rfl), r112.run.inc⟩)) rfl (fun w' hw' => (E.fieldAddr tf46_1 k87)) ?_
          refine FB.all1 (i := 12) (by kernel_rfl) ?_
          ·
           obtain ⟨w212, run213, S214⟩ := S208.store (P := Tryz.prog) (t := 44) (i := 1) (j := 1) (cs' := [Value.int .i64 (wr (6 + (len s68))), v203]) (l' := [.row 82 1 v115 n116 cs197, .box b187 46 [Value.int .i64 (wr (6 + (len s68))), v203], .row 82 1 v203 n204 cs205, .row 9 1 v69 n70 cs71, .box b21 46 [Value.int .i64 0, (Value.slice none 0 0)], .row 82 1 (Value.slice none 0 0) 0 []]) (v := v203) (c := [v203]) rfl Tryz.sizeOf44 (Ln.cells (S208.row_ln (i := 2) rfl)) rfl (ones_cons (Ln.one (S208.row_ln (i := 2) rfl)) ones_nil) (Nat.le_of_ble_eq_true rfl) rfl rfl
           refine FC.act (l' := (bs 13 8191)) rfl (by kernel_rfl) rfl rfl (E.store rfl rfl run213) ?_
           refine ⟨(SP.o (SP.nil ⟨_, (S214.sel [3] (by decide) rfl), r112.run.inc⟩)), ?_⟩
           exact FB.done (by kernel_rfl) ⟨_, _, _, _, (S214.sel [1, 2, 3, 4, 5] (by decide) rfl), r112.run.inc, els209, nd211, k84, k85, k86, k87, k88⟩
       ·
        rintro f224 w223 ⟨H220, v215, n216, cs217, S221, i222, els218, nd219, k225, k226, k227, k228, k229⟩
        refine FW.region ?_
        refine FL.v (E.move k229) ?_
        refine FL.v (E.add rfl rfl) ?_
        refine FL.v (E.assign (v := Value.int .i64 (wr (s196.2 + 1))) rfl) ?_
        refine FL.nil ?_
        obtain rfl := Option.some.inj hp
        exact ⟨rfl, ⟨_, _, _, _, S221, (i80.tr i222), els218, nd219, k225, k226, k227, k228, rfl⟩⟩
      ·
       refine FW.condF rfl c89 ?_
       refine FW.exit ?_
       obtain rfl := Option.some.inj hp
       exact ⟨nofun, rfl, ⟨_, _, _, _, S79, i80, els76, nd77, k84, k85, k86, k87⟩⟩
     ·
      clear hq
      intro e f235 w234 hD
      rcases q196 with s196 | x196
      ·
       obtain ⟨rfl, hD⟩ := hD
       obtain ⟨H231, v73, n74, cs75, S232, i233, els76, nd77, k236, k237, k238, k239⟩ := hD
       replace hp := el_go hp
       refine FW.seq ?_
       obtain ⟨r248, hr249, hp⟩ := bnd hp
       obtain ⟨xs269, hz270, hp⟩ := bnd hp
       refine FW.drawB (Sl H231) (fun f w => ∃ H : GH, ∃ v284 : Value, ∃ n285 : Nat, ∃ cs286 : List Value, St Ha wa H w [.box b187 46 [Value.int .i64 (wr (6 + (len s68))), v284], .row 82 1 v284 n285 cs286, .box b21 46 [Value.int .i64 0, (Value.slice none 0 0)], .row 82 1 (Value.slice none 0 0) 0 []] ∧ Inc H231 H ∧ Els (up wa.heap.size H) (eL eI 1) 1 cs286 xs269 ∧ (bl cs286).Nodup ∧ f 2 = Value.pointer (some (⟨b21, 0, none⟩ : Addr)) ∧ f 7 = Value.pointer (some (⟨b187, 0, none⟩ : Addr))) (by kernel_rfl) S232.sl ?_ ?_
       ·
        intro w240 r241
        have S242 := S232.call r241
        refine FB.phase [9] (fun w => WAt w (Addr.add ⟨b187, 0, none⟩ 1) [v73]) ?_
        refine FB.t (i := 0) (bs 10 1) rfl (SP.on ((S242.box_now (i := 0) rfl).sub (j := 1) (n := 1) (c := [v73]) rfl) (SP.nil S242.sl)) rfl (fun w' hw' => (E.fieldAddr tf46_1 k239)) ?_
        refine FB.p (i := 1) (bs 10 3) 0 [7, 8, 9] rfl (SP.on ((S242.box_now (i := 0) rfl).sub (j := 1) (n := 1) (c := [v73]) rfl) (SP.nil S242.sl)) rfl rfl (fun w' hw' => (E.load rfl (run_load0 Tryz.isAgg44 hw' rfl))) ?_
        refine FB.t (i := 2) (bs 10 7) rfl (SP.on ((S242.box_now (i := 0) rfl).sub (j := 1) (n := 1) (c := [v73]) rfl) (SP.nil S242.sl)) rfl (fun w' hw' => (E.move k238)) ?_
        refine FB.t (i := 3) (bs 10 15) rfl (SP.on ((S242.box_now (i := 0) rfl).sub (j := 1) (n := 1) (c := [v73]) rfl) (SP.nil S242.sl)) rfl (fun w' hw' => (E.move k236)) ?_
        refine FB.all1 (i := 4) (by kernel_rfl) ?_
        ·
         obtain ⟨H243, S244, i245, h246, nv247⟩ := S242.sealRowU (i := 2) (l' := [.box b187 46 [Value.int .i64 (wr (6 + (len s68))), v73], .row 82 1 v73 n74 cs75, .box b21 46 [Value.int .i64 0, (Value.slice none 0 0)], .row 82 1 (Value.slice none 0 0) 0 []]) rfl (els72.mono (up_mono i233)) (by decide) rfl
         refine FC.call (l' := (bs 10 31)) rfl (by kernel_rfl) rfl rfl rfl (E.call Tryz.call86 (A2 rfl rfl)) (w_spec_l22Var S244.sl v69 s68 (h246.mono upI) a0 hr249) ?_
         rintro e w250 ⟨rfl, r251⟩
         refine ⟨_, rfl, ?_⟩
         have r251 := Run.lend i245 S242.sl r251
         have S252 := S242.call r251
         refine ⟨(SP.on ((S252.box_now (i := 0) rfl).sub (j := 1) (n := 1) (c := [v73]) rfl) (SP.nil S252.sl)), ?_⟩
         refine FB.all1 (i := 5) (by kernel_rfl) ?_
         ·
          obtain ⟨v253, w254, run255, S256, els257⟩ := S252.ints (P := Tryz.prog) te82 (up wa.heap.size H231) 1 [r248]
          refine FC.val (l' := (bs 10 63)) rfl (by kernel_rfl) rfl rfl rfl (E.buildSlice (B1 rfl) run255) ?_
          refine ⟨(SP.on ((S256.box_now (i := 1) rfl).sub (j := 1) (n := 1) (c := [v73]) rfl) (SP.nil S256.sl)), ?_⟩
          refine FB.all1 (i := 6) (by kernel_rfl) ?_
          ·
           obtain ⟨H258, S259, i260, h261, nv262⟩ := S256.sealRowU (i := 0) (l' := [.box b187 46 [Value.int .i64 (wr (6 + (len s68))), v73], .row 82 1 v73 n74 cs75, .row 9 1 v69 n70 cs71, .box b21 46 [Value.int .i64 0, (Value.slice none 0 0)], .row 82 1 (Value.slice none 0 0) 0 []]) rfl els257 (by decide) rfl
           obtain ⟨v263, w264, run265, S266⟩ := S259.buildSlice (P := Tryz.prog) te44 [v253] (parts := #[(0, v253)]) (cells := [v253]) rfl (szs_cons (cells_size h261.cells) szs_nil) (fc_cons h261.cells fc_nil) (ones_cons h261.one ones_nil) (Nat.le_of_ble_eq_true rfl)
           have els267 : Els (up wa.heap.size H258) (eL eI 1) 1 [v253] [[r248]] := (Els.snoc (H := (up wa.heap.size H258)) (E := (eL eI 1)) (k := 1) (c := [v253]) (x := [r248]) Els.nil rfl ⟨_, rfl, h261⟩)
           have nd268 : (bl [v253]).Nodup := by exact nd_one v253
           refine FC.val (l' := (bs 10 127)) rfl (by kernel_rfl) rfl rfl rfl (E.buildSlice (B1 rfl) run265) ?_
           refine ⟨(SP.on ((S266.box_now (i := 1) rfl).sub (j := 1) (n := 1) (c := [v73]) rfl) (SP.nil (Sl.of_inc i260 S266.sl))), ?_⟩
           refine FB.all1 (i := 7) (by kernel_rfl) ?_
           ·
            obtain ⟨v271, w274, n272, cs273, run275, S276, els277, ce278⟩ := S266.appendO (P := Tryz.prog) te44 (i := 2) (j := 0) rfl (els76.mono (up_mono i260)) rfl els267 hz270
            have S276 : St Ha wa H258 w274 [.row 82 1 v263 1 [v253], .box b187 46 [Value.int .i64 (wr (6 + (len s68))), v73], .row 82 1 v271 n272 cs273, .row 9 1 v69 n70 cs71, .box b21 46 [Value.int .i64 0, (Value.slice none 0 0)], .row 82 1 (Value.slice none 0 0) 0 []] := S276
            have nd279 : (bl cs273).Nodup := by rw [ce278]; exact nd_app nd77 nd268 (Els.dom (els76.mono (upI.tr (Inc.rfl _)))) (by exact nv262)
            have S280 : St Ha wa H258 w274 [.box b187 46 [Value.int .i64 (wr (6 + (len s68))), v73], .row 82 1 v271 n272 cs273, .row 9 1 v69 n70 cs71, .box b21 46 [Value.int .i64 0, (Value.slice none 0 0)], .row 82 1 (Value.slice none 0 0) 0 []] := S276.drop 0
            refine FC.val (l' := (bs 10 255)) rfl (by kernel_rfl) rfl rfl rfl (E.append rfl rfl run275) ?_
            refine ⟨(SP.on ((S280.box_now (i := 0) rfl).sub (j := 1) (n := 1) (c := [v73]) rfl) (SP.nil (Sl.of_inc i260 S280.sl))), ?_⟩
            refine FB.t (i := 8) (bs 10 511) rfl (SP.on ((S280.box_now (i := 0) rfl).sub (j := 1) (n := 1) (c := [v73]) rfl) (SP.nil (Sl.of_inc i260 S280.sl))) rfl (fun w' hw' => (E.fieldAddr tf46_1 k239)) ?_
            refine FB.all1 (i := 9) (by kernel_rfl) ?_
            ·
             obtain ⟨w281, run282, S283⟩ := S280.store (P := Tryz.prog) (t := 44) (i := 0) (j := 1) (cs' := [Value.int .i64 (wr (6 + (len s68))), v271]) (l' := [.box b187 46 [Value.int .i64 (wr (6 + (len s68))), v271], .row 82 1 v271 n272 cs273, .row 9 1 v69 n70 cs71, .box b21 46 [Value.int .i64 0, (Value.slice none 0 0)], .row 82 1 (Value.slice none 0 0) 0 []]) (v := v271) (c := [v271]) rfl Tryz.sizeOf44 (Ln.cells (S280.row_ln (i := 1) rfl)) rfl (ones_cons (Ln.one (S280.row_ln (i := 1) rfl)) ones_nil) (Nat.le_of_ble_eq_true rfl) rfl rfl
             refine FC.act (l' := (bs 10 1023)) rfl (by kernel_rfl) rfl rfl (E.store rfl rfl run282) ?_
             refine ⟨(SP.o (SP.nil (Sl.of_inc i260 S283.sl))), ?_⟩
             exact FB.done (by kernel_rfl) ⟨_, _, _, _, (S283.sel [0, 1, 3, 4] (by decide) rfl), i260, els277, nd279, k237, k239⟩
       ·
        rintro f293 w292 ⟨H289, v284, n285, cs286, S290, i291, els287, nd288, k294, k295⟩
        refine FW.seq (FW.region ?_)
        refine FL.v (E.load k295 (run_loadA Tryz.isAgg46 Tryz.sizeOf46 (S290.box_now (i := 0) rfl) rfl)) ?_
        obtain ⟨w296, run297, S298⟩ := S290.store0 (P := Tryz.prog) (t := 46) (i := 2) (cs' := [Value.int .i64 (wr (6 + (len s68))), v284]) (l' := [.box b187 46 [Value.int .i64 (wr (6 + (len s68))), v284], .row 82 1 v284 n285 cs286, .box b21 46 [Value.int .i64 (wr (6 + (len s68))), v284], .row 82 1 (Value.slice none 0 0) 0 []]) (v := Value.agg #[Value.int .i64 (wr (6 + (len s68))), v284]) (c := [Value.int .i64 (wr (6 + (len s68))), v284]) rfl Tryz.sizeOf46 rfl rfl (ones_cons rfl (ones_cons (Ln.one (S290.row_ln (i := 1) rfl)) ones_nil)) (Nat.le_of_ble_eq_true rfl) rfl rfl
        refine FL.act rfl rfl (E.store k294 rfl run297) ?_
        refine FL.v (E.assign (v := Value.bool true) rfl) ?_
        refine FL.nil ?_
        refine FW.ret ?_
        obtain ⟨H299, S300, i301, ns304, nv303⟩ := S298.sealRowN (i := 1) (l' := [.box b187 46 [Value.int .i64 (wr (6 + (len s68))), v284], .box b21 46 [Value.int .i64 (wr (6 + (len s68))), v284], .row 82 1 (Value.slice none 0 0) 0 []]) rfl els287 nd288 (by decide) rfl
        have h302 := ns304.rsl
        obtain rfl := Option.some.inj hp
        exact ⟨.inr rfl, resC2 rfl k294 (loadVar_A Tryz.isAgg46 Tryz.sizeOf46 (S300.box_now (i := 1) rfl) rfl) rfl ⟨_, _, rfl, S300.run, ⟨_, ns304⟩⟩⟩
      ·
       exact x196.elim
   ·
    exact x68.elim

set_option maxHeartbeats 4000000 in
theorem w_laws_rInts {Ha : GH} {wa : World} (hs : Sl Ha wa) (v0 : Value) (a0 : List Int) (p0 : RSl Ha eI 1 v0 a0) (v1 : Value) (a1 : List Int) (p1 : RSl Ha eI 1 v1 a1) {r : Bool} (hp : (PF.laws_rInts a0 a1) = some r) :
  Calls Tryz.prog 138 #[v0, v1] wa (Sc Ha wa (Value.bool r)) := by
 unfold PF.laws_rInts at hp
 have S0 := St.init hs
 refine calls_go (N := 26) (args := [v0, v1]) Tryz.func138 rfl rfl rfl ?_
 refine FW.seq (FW.region ?_)
 refine FL.v (E.assign (v := Value.bool false) rfl) ?_
 refine FL.nil (FW.seq (FW.seq (FW.region ?_)))
 refine FL.v (E.move (v := v0) rfl) ?_
 refine FL.v (E.lenP te82 rfl p0) ?_
 refine FL.v (E.move (v := v1) rfl) ?_
 refine FL.v (E.lenP te82 rfl p1) ?_
 refine FL.v (E.neq rfl rfl) ?_
 refine FL.nil ?_
 rcases ifB hp with ⟨c21, hp⟩ | ⟨c21, hp⟩
 ·
  refine FW.condT rfl c21 ?_
  refine FW.seq (FW.region ?_)
  refine FL.v (E.assign (v := Value.bool false) rfl) ?_
  refine FL.nil ?_
  refine FW.ret ?_
  obtain rfl := Option.some.inj hp
  exact ⟨.inr rfl, res1 rfl rfl ⟨rfl, S0.back⟩⟩
 ·
  refine FW.condF rfl c21 ?_
  refine FW.skip (FW.seq (FW.seq (FW.region ?_)))
  refine FL.v (E.assign (v := Value.int .i64 0) rfl) ?_
  refine FL.nil ?_
  obtain ⟨q23, hq, hp⟩ := bndR hp
  refine FW.block ?_
  refine FW.mono (FW.forL (S := Unit) (X := Bool) (fun (i23 : Nat) (s23 : Unit) f w => ∃ H : GH, St Ha wa H w [] ∧ Inc Ha H ∧ f 5 = Value.int .i64 ((i23 : Nat) : Int) ∧ f 0 = v0 ∧ f 1 = v1) (fun q e f w => match q with | .go s23 => e = Exit.exit 0 ∧ (∃ H : GH, St Ha wa H w [] ∧ Inc Ha H) | .rt x => ((e = Exit.ret) ∧ (fun e f w => (e = Exit.normal ∨ e = Exit.ret) ∧ ∀ a, Fr (δ := []) 26 a f → ∃ v, (results Tryz.f138 a.tmps).run Tryz.prog w = .ok v w ∧ (Sc Ha wa (Value.bool x)) (.returned v) w) e f w)) hq ⟨_, S0, (Inc.rfl _), rfl, rfl, rfl⟩ ?_ ?_) ?_
  ·
   clear hp hq
   rintro i23 y22 s23 f55 w54 ⟨H51, S52, i53, k56, k57, k58⟩ hx23 o78 hp
   refine FW.seq (FW.seq (FW.region ?_))
   refine FL.v (E.move k56) ?_
   refine FL.v (E.move k57) ?_
   refine FL.v (E.lenP te82 rfl p0) ?_
   refine FL.v (E.lssT rfl rfl (lss_len hx23)) ?_
   refine FL.nil ?_
   refine FW.condT rfl rfl ?_
   refine FW.skip (FW.seq (FW.block (FW.seq ?_)))
   refine FW.draw (fun w' => Run w54.heap.size H51 w54 H51 w') (by kernel_rfl) (by kernel_rfl) (run_drew S52.sl) ?_
   refine FD.val rfl rfl rfl (fun w' hw' => (E.move k57)) ?_
   refine FD.val rfl rfl rfl (fun w' hw' => (E.move k56)) ?_
   obtain ⟨p60, cs61, pt62, l63, at64, rel65⟩ := p0.at (ix_nat hx23)
   obtain rfl := eI_open rel65
   refine FD.val rfl rfl rfl (fun w' hw' => (E.indexAddr te82 rfl rfl pt62)) ?_
   refine FD.val rfl rfl rfl (fun w' hw' => (E.load rfl (run_load0 Tryz.isAgg3 ((at64.mono i53).now (S52.call hw').sl) rfl))) ?_
   refine FD.val rfl rfl rfl (fun w' hw' => (E.move k58)) ?_
   refine FD.val rfl rfl rfl (fun w' hw' => (E.move k56)) ?_
   obtain ⟨x72, hx73, hp⟩ := bnd hp
   obtain ⟨p66, cs67, pt68, l69, at70, rel71⟩ := p1.at hx73
   obtain rfl := eI_open rel71
   refine FD.val rfl rfl rfl (fun w' hw' => (E.indexAddr te82 rfl rfl pt68)) ?_
   refine FD.val rfl rfl rfl (fun w' hw' => (E.load rfl (run_load0 Tryz.isAgg3 ((at70.mono i53).now (S52.call hw').sl) rfl))) ?_
   refine FD.val rfl rfl rfl (fun w' hw' => (E.neq rfl rfl)) ?_
   refine FD.nil ?_
   intro w74 r76
   have S75 := S52.call r76
   rcases ifB hp with ⟨c77, hp⟩ | ⟨c77, hp⟩
   ·
    refine FW.condT rfl c77 ?_
    refine FW.seq (FW.region ?_)
    refine FL.v (E.assign (v := Value.bool false) rfl) ?_
    refine FL.nil ?_
    refine FW.ret ?_
    obtain rfl := Option.some.inj hp
    exact ⟨nofun, rfl, ⟨.inr rfl, res1 rfl rfl ⟨rfl, S75.back⟩⟩⟩
   ·
    refine FW.condF rfl c77 ?_
    refine FW.skip (FW.region ?_)
    refine FL.v (E.move k56) ?_
    refine FL.v (E.add rfl rfl) ?_
    refine FL.v (E.assign (v := Value.int .i64 (wr (((i23 : Nat) : Int) + 1))) rfl) ?_
    refine FL.nil ?_
    obtain rfl := Option.some.inj hp
    exact ⟨rfl, ⟨_, S75, i53, (nat_succ rfl (lt_of_get hx23) (p0.mono i53).le), k57, k58⟩⟩
  ·
   clear hp hq
   rintro s23 f88 w87 ⟨H84, S85, i86, k89, k90, k91⟩
   refine FW.seq (FW.seq (FW.region ?_))
   refine FL.v (E.move k89) ?_
   refine FL.v (E.move k90) ?_
   refine FL.v (E.lenP te82 rfl p0) ?_
   refine FL.v (E.lss rfl rfl) ?_
   refine FL.nil ?_
   refine FW.condF rfl dlt_len ?_
   refine FW.exit ?_
   exact ⟨nofun, rfl, ⟨_, S85, i86⟩⟩
  ·
   clear hq
   intro e f83 w82 hD
   rcases q23 with s23 | x23
   ·
    obtain ⟨rfl, hD⟩ := hD
    obtain ⟨H79, S80, i81⟩ := hD
    replace hp := el_go hp
    refine FW.seq (FW.region ?_)
    refine FL.v (E.assign (v := Value.bool true) rfl) ?_
    refine FL.nil ?_
    refine FW.ret ?_
    obtain rfl := Option.some.inj hp
    exact ⟨.inr rfl, res1 rfl rfl ⟨rfl, S80.back⟩⟩
   ·
    obtain ⟨he, hL⟩ := hD
    replace hp := el_rt hp
    obtain rfl := Option.some.inj hp
    subst he
    exact hL

set_option maxHeartbeats 4000000 in
theorem w_laws_rTable {Ha : GH} {wa : World} (hs : Sl Ha wa) (v0 : Value) (a0 : List (List Int)) (p0 : RSl Ha (eL eI 1) 1 v0 a0) (v1 : Value) (a1 : List (List Int)) (p1 : RSl Ha (eL eI 1) 1 v1 a1) {r : Bool} (hp : (PF.laws_rTable a0 a1) = some r) :
  Calls Tryz.prog 87 #[v0, v1] wa (Sc Ha wa (Value.bool r)) := by
 unfold PF.laws_rTable at hp
 have S0 := St.init hs
 refine calls_go (N := 27) (args := [v0, v1]) Tryz.func87 rfl rfl rfl ?_
 refine FW.seq (FW.region ?_)
 refine FL.v (E.assign (v := Value.bool false) rfl) ?_
 refine FL.nil (FW.seq (FW.seq (FW.region ?_)))
 refine FL.v (E.move (v := v0) rfl) ?_
 refine FL.v (E.lenP te44 rfl p0) ?_
 refine FL.v (E.move (v := v1) rfl) ?_
 refine FL.v (E.lenP te44 rfl p1) ?_
 refine FL.v (E.neq rfl rfl) ?_
 refine FL.nil ?_
 rcases ifB hp with ⟨c21, hp⟩ | ⟨c21, hp⟩
 ·
  refine FW.condT rfl c21 ?_
  refine FW.seq (FW.region ?_)
  refine FL.v (E.assign (v := Value.bool false) rfl) ?_
  refine FL.nil ?_
  refine FW.ret ?_
  obtain rfl := Option.some.inj hp
  exact ⟨.inr rfl, res1 rfl rfl ⟨rfl, S0.back⟩⟩
 ·
  refine FW.condF rfl c21 ?_
  refine FW.skip (FW.seq (FW.seq (FW.region ?_)))
  refine FL.v (E.assign (v := Value.int .i64 0) rfl) ?_
  refine FL.nil ?_
  obtain ⟨q23, hq, hp⟩ := bndR hp
  refine FW.block ?_
  refine FW.mono (FW.forL (S := Unit) (X := Bool) (fun (i23 : Nat) (s23 : Unit) f w => ∃ H : GH, St Ha wa H w [] ∧ Inc Ha H ∧ f 5 = Value.int .i64 ((i23 : Nat) : Int) ∧ f 0 = v0 ∧ f 1 = v1) (fun q e f w => match q with | .go s23 => e = Exit.exit 0 ∧ (∃ H : GH, St Ha wa H w [] ∧ Inc Ha H) | .rt x => ((e = Exit.ret) ∧ (fun e f w => (e = Exit.normal ∨ e = Exit.ret) ∧ ∀ a, Fr (δ := []) 27 a f → ∃ v, (results Tryz.f87 a.tmps).run Tryz.prog w = .ok v w ∧ (Sc Ha wa (Value.bool x)) (.returned v) w) e f w)) hq ⟨_, S0, (Inc.rfl _), rfl, rfl, rfl⟩ ?_ ?_) ?_
  ·
   clear hp hq
   rintro i23 y22 s23 f61 w60 ⟨H57, S58, i59, k62, k63, k64⟩ hx23 o90 hp
   refine FW.seq (FW.seq (FW.region ?_))
   refine FL.v (E.move k62) ?_
   refine FL.v (E.move k63) ?_
   refine FL.v (E.lenP te44 rfl p0) ?_
   refine FL.v (E.lssT rfl rfl (lss_len hx23)) ?_
   refine FL.nil ?_
   refine FW.condT rfl rfl ?_
   refine FW.skip (FW.seq (FW.block (FW.seq ?_)))
   refine FW.draw (fun w' => Run w60.heap.size H57 w60 H57 w') (by kernel_rfl) (by kernel_rfl) (run_drew S58.sl) ?_
   refine FD.val rfl rfl rfl (fun w' hw' => (E.move k63)) ?_
   refine FD.val rfl rfl rfl (fun w' hw' => (E.move k62)) ?_
   obtain ⟨p66, cs67, pt68, l69, at70, rel71⟩ := p0.at (ix_nat hx23)
   obtain ⟨v72, rfl, h73⟩ := eL_open rel71
   refine FD.val rfl rfl rfl (fun w' hw' => (E.indexAddr te44 rfl rfl pt68)) ?_
   refine FD.val rfl rfl rfl (fun w' hw' => (E.load rfl (run_load0 Tryz.isAgg82 ((at70.mono i59).now (S58.call hw').sl) rfl))) ?_
   refine FD.val rfl rfl rfl (fun w' hw' => (E.move k64)) ?_
   refine FD.val rfl rfl rfl (fun w' hw' => (E.move k62)) ?_
   obtain ⟨x80, hx81, hp⟩ := bnd hp
   obtain ⟨p74, cs75, pt76, l77, at78, rel79⟩ := p1.at hx81
   obtain ⟨v82, rfl, h83⟩ := eL_open rel79
   refine FD.val rfl rfl rfl (fun w' hw' => (E.indexAddr te44 rfl rfl pt76)) ?_
   refine FD.val rfl rfl rfl (fun w' hw' => (E.load rfl (run_load0 Tryz.isAgg82 ((at78.mono i59).now (S58.call hw').sl) rfl))) ?_
   obtain ⟨r84, hr85, hp⟩ := bnd hp
   refine FD.call rfl rfl rfl (fun w' hw' => (E.call Tryz.call138 (A2 rfl rfl))) (fun w' hw' => Calls.cls hw' (w_laws_rInts (S58.call hw').sl v72 y22 (h73.mono i59) v82 x80 (h83.mono i59) hr85)) ?_
   refine FD.val rfl rfl rfl (fun w' hw' => (E.not rfl)) ?_
   refine FD.nil ?_
   intro w86 r88
   have S87 := S58.call r88
   rcases ifB hp with ⟨c89, hp⟩ | ⟨c89, hp⟩
   ·
    refine FW.condT rfl c89 ?_
    refine FW.seq (FW.region ?_)
    refine FL.v (E.assign (v := Value.bool false) rfl) ?_
    refine FL.nil ?_
    refine FW.ret ?_
    obtain rfl := Option.some.inj hp
    exact ⟨nofun, rfl, ⟨.inr rfl, res1 rfl rfl ⟨rfl, S87.back⟩⟩⟩
   ·
    refine FW.condF rfl c89 ?_
    refine FW.skip (FW.region ?_)
    refine FL.v (E.move k62) ?_
    refine FL.v (E.add rfl rfl) ?_
    refine FL.v (E.assign (v := Value.int .i64 (wr (((i23 : Nat) : Int) + 1))) rfl) ?_
    refine FL.nil ?_
    obtain rfl := Option.some.inj hp
    exact ⟨rfl, ⟨_, S87, i59, (nat_succ rfl (lt_of_get hx23) (p0.mono i59).le), k63, k64⟩⟩
  ·
   clear hp hq
   rintro s23 f100 w99 ⟨H96, S97, i98, k101, k102, k103⟩
   refine FW.seq (FW.seq (FW.region ?_))
   refine FL.v (E.move k101) ?_
   refine FL.v (E.move k102) ?_
   refine FL.v (E.lenP te44 rfl p0) ?_
   refine FL.v (E.lss rfl rfl) ?_
   refine FL.nil ?_
   refine FW.condF rfl dlt_len ?_
   refine FW.exit ?_
   exact ⟨nofun, rfl, ⟨_, S97, i98⟩⟩
  ·
   clear hq
   intro e f95 w94 hD
   rcases q23 with s23 | x23
   ·
    obtain ⟨rfl, hD⟩ := hD
    obtain ⟨H91, S92, i93⟩ := hD
    replace hp := el_go hp
    refine FW.seq (FW.region ?_)
    refine FL.v (E.assign (v := Value.bool true) rfl) ?_
    refine FL.nil ?_
    refine FW.ret ?_
    obtain rfl := Option.some.inj hp
    exact ⟨.inr rfl, res1 rfl rfl ⟨rfl, S92.back⟩⟩
   ·
    obtain ⟨he, hL⟩ := hD
    replace hp := el_rt hp
    obtain rfl := Option.some.inj hp
    subst he
    exact hL

theorem w_laws_rCnf {Ha : GH} {wa : World} (hs : Sl Ha wa) (a0 : Cnf) (v0_1 : Value) (p0_1 : RSl Ha (eL eI 1) 1 v0_1 a0.clauses) (a1 : Cnf) (v1_1 : Value) (p1_1 : RSl Ha (eL eI 1) 1 v1_1 a1.clauses) {r : Bool} (hp : (PF.laws_rCnf a0 a1) = some r) :
  Calls Tryz.prog 32 #[Value.agg #[Value.int .i64 a0.vars, v0_1], Value.agg #[Value.int .i64 a1.vars, v1_1]] wa (Sc Ha wa (Value.bool r)) := by
 unfold PF.laws_rCnf at hp
 have S0 := St.init hs
 refine calls_go (N := 17) (args := [Value.agg #[Value.int .i64 a0.vars, v0_1], Value.agg #[Value.int .i64 a1.vars, v1_1]]) Tryz.func32 rfl rfl rfl ?_
 refine FW.seq (FW.region ?_)
 obtain ⟨b21, w22, run23, S24⟩ := S0.box (P := Tryz.prog) 46 [Value.int .i64 a0.vars, v0_1] (v := Value.agg #[Value.int .i64 a0.vars, v0_1]) rfl (ones_cons rfl (ones_cons p0_1.one ones_nil))
 refine FL.v (E.box rfl run23) ?_
 obtain ⟨H25, S26, i27, at28⟩ := S24.sealBox (i := 0) (l' := []) rfl rfl
 obtain ⟨b29, w30, run31, S32⟩ := S26.box (P := Tryz.prog) 46 [Value.int .i64 a1.vars, v1_1] (v := Value.agg #[Value.int .i64 a1.vars, v1_1]) rfl (ones_cons rfl (ones_cons p1_1.one ones_nil))
 refine FL.v (E.box rfl run31) ?_
 obtain ⟨H33, S34, i35, at36⟩ := S32.sealBox (i := 0) (l' := []) rfl rfl
 refine FL.v (E.assign (v := Value.bool false) rfl) ?_
 refine FL.nil (FW.seq (FW.region ?_))
 refine FL.v (E.fieldAddr tf46_0 rfl) ?_
 refine FL.v (E.load rfl (run_load1 Tryz.isAgg3 ((at28.mono i35).now S34.sl) rfl)) ?_
 refine FL.v (E.fieldAddr tf46_0 rfl) ?_
 refine FL.v (E.load rfl (run_load1 Tryz.isAgg3 (at36.now S34.sl) rfl)) ?_
 refine FL.v (E.eql rfl rfl) ?_
 refine FL.v (E.move (v := Value.bool (a0.vars == a1.vars)) rfl) ?_
 obtain ⟨t42, hqt42, hp⟩ := bnd hp
 refine FL.cut 6 (fun f w => ∃ H : GH, St Ha wa H w [] ∧ Inc H33 H ∧ f 16 = Value.bool t42) ?_ ?_
 ·
  clear hp; have hp := hqt42; clear hqt42
  rcases ifB hp with ⟨c48, hp⟩ | ⟨c48, hp⟩
  ·
   refine FL.val (wF_yes rfl rfl rfl c48) rfl rfl (E.fieldAddr tf46_1 rfl) ?_
   refine FL.val (wF_yes rfl rfl rfl c48) rfl rfl (E.load rfl (run_load1 Tryz.isAgg44 ((at28.mono i35).now S34.sl) rfl)) ?_
   refine FL.val (wF_yes rfl rfl rfl c48) rfl rfl (E.fieldAddr tf46_1 rfl) ?_
   refine FL.val (wF_yes rfl rfl rfl c48) rfl rfl (E.load rfl (run_load1 Tryz.isAgg44 (at36.now S34.sl) rfl)) ?_
   obtain ⟨r49, hr50, hp⟩ := bnd hp
   refine FL.call (wF_yes rfl rfl rfl c48) rfl rfl (E.call Tryz.call87 (A2 rfl rfl)) (w_laws_rTable S34.sl v0_1 a0.clauses (p0_1.mono (i27.tr i35)) v1_1 a1.clauses (p1_1.mono (i27.tr i35)) hr50) ?_
   rintro e w51 ⟨rfl, r52⟩
   refine ⟨_, rfl, ?_⟩
   have S53 := S34.call r52
   obtain rfl := Option.some.inj hp
   refine FL.v (E.pickT rfl c48 rfl) ?_
   exact FL.nil ⟨rfl, _, S53, (Inc.rfl _), rfl⟩
  ·
   refine FL.skip (wF_no rfl rfl rfl c48) rfl ?_
   refine FL.skip (wF_no rfl rfl rfl c48) rfl ?_
   refine FL.skip (wF_no rfl rfl rfl c48) rfl ?_
   refine FL.skip (wF_no rfl rfl rfl c48) rfl ?_
   refine FL.skip (wF_no rfl rfl rfl c48) rfl ?_
   obtain rfl := Option.some.inj hp
   refine FL.v (E.pickF rfl c48 rfl) ?_
   exact FL.nil ⟨rfl, _, S34, (Inc.rfl _), rfl⟩
 rintro f47 w46 ⟨H43, S44, i45, k54⟩
 refine FL.v (E.assign k54) ?_
 refine FL.nil ?_
 refine FW.ret ?_
 obtain rfl := Option.some.inj hp
 exact ⟨.inr rfl, res1 rfl rfl ⟨rfl, S44.back⟩⟩

@[reducible] def p_impl_CircuitOfFormula (Ha : GH) (wa : World) (r : ((List Gate) × Bool)) : Ending → World → Prop :=
 fun e w' => ∃ H' : GH, ∃ v0 : Value, ∃ n0 : Nat, ∃ c0 : List Value, e = .returned (Value.tuple #[v0, Value.bool r.2]) ∧ St Ha wa H' w' [.row 118 3 v0 n0 c0] ∧ Els (up wa.heap.size H') eGate 3 c0 r.1
set_option maxHeartbeats 4000000 in
theorem w_impl_CircuitOfFormula {Ha : GH} {wa : World} (hs : Sl Ha wa) (a0 : ByteArray) {r : ((List Gate) × Bool)} (hp : (PF.impl_CircuitOfFormula a0) = some r) :
  Calls Tryz.prog 33 #[Value.string a0] wa (p_impl_CircuitOfFormula Ha wa r) := by
 unfold PF.impl_CircuitOfFormula at hp
 have S0 := St.init hs
 refine calls_go (N := 143) (args := [Value.string a0]) Tryz.func33 rfl rfl rfl ?_
 refine FW.seq (FW.region ?_)
 refine FL.v (E.assign (v := Value.slice none 0 0) rfl) ?_
 refine FL.v (E.assign (v := Value.bool false) rfl) ?_
 refine FL.nil (FW.seq (FW.region ?_))
 refine FL.v (E.move (v := Value.string a0) rfl) ?_
 obtain ⟨r21, hr22, hp⟩ := bnd hp
 refine FL.call rfl rfl rfl (E.call Tryz.call78 (A1 rfl)) (w_impl_parse S0.sl a0 hr22) ?_
 rintro e w24 ⟨H23, v27, rfl, r26, h28⟩
 refine ⟨_, rfl, ?_⟩
 have S25 := S0.call r26
 refine FL.v (E.move (v := Value.tuple #[v27, Value.bool r21.2]) rfl) ?_
 refine FL.v (E.extract (i := 0) rfl rfl) ?_
 refine FL.v (E.extract (i := 1) rfl rfl) ?_
 refine FL.v (E.assign (v := v27) rfl) ?_
 refine FL.v (E.assign (v := Value.bool r21.2) rfl) ?_
 refine FL.nil (FW.seq (FW.seq (FW.region ?_)))
 refine FL.v (E.move (v := Value.bool r21.2) rfl) ?_
 refine FL.v (E.not rfl) ?_
 refine FL.nil ?_
 rcases ifB hp with ⟨c29, hp⟩ | ⟨c29, hp⟩
 ·
  refine FW.condT rfl c29 ?_
  refine FW.seq (FW.region ?_)
  refine FL.v (E.assign (v := Value.slice none 0 0) rfl) ?_
  refine FL.v (E.assign (v := Value.bool false) rfl) ?_
  refine FL.nil ?_
  refine FW.ret ?_
  obtain rfl := Option.some.inj hp
  exact ⟨.inr rfl, res2 rfl rfl rfl ⟨_, _, _, _, rfl, (S25.nil 118 3), Els.nil⟩⟩
 ·
  refine FW.condF rfl c29 ?_
  refine FW.skip (FW.seq (FW.region ?_))
  refine FL.v (E.assign (v := Value.slice none 0 0) rfl) ?_
  refine FL.nil (FW.seq (FW.region ?_))
  obtain ⟨b30, o31, w32, run33, S34, hm35⟩ := S25.makeMap (P := Tryz.prog) (K := ByteArray) (V := Int) 104 Value.string (Value.int .i64)
  refine FL.v (E.makeMap run33) ?_
  refine FL.v (E.assign (v := Value.map (some b30)) rfl) ?_
  refine FL.nil (FW.seq (FW.seq (FW.region ?_)))
  refine FL.v (E.move (v := v27) rfl) ?_
  obtain ⟨r36, hr37, hp⟩ := bnd hp
  refine FL.call rfl rfl rfl (E.call Tryz.call80 (A1 rfl)) (w_impl_formula_parts S34.sl v27 r21.1 h28 hr37) ?_
  rintro e w39 ⟨H38, v42, n43, cs44, rfl, r41, els45⟩
  refine ⟨_, rfl, ?_⟩
  have S40 := S34.join (l' := [.row 101 1 v42 n43 cs44, .raw b30 o31]) r41 rfl
  refine FL.v (E.lenO te106 rfl S40 (i := 0) rfl els45 (by decide)) ?_
  refine FL.v (E.move (v := Value.int .i64 0) rfl) ?_
  refine FL.nil ?_
  obtain ⟨m46, hchk47, hp⟩ := bnd hp
  obtain ⟨q47, hq, hp⟩ := bndR hp
  refine FW.block ?_
  refine FW.mono (FW.forR (S := ((List (ByteArray × Int)) × (List Gate))) (X := Empty) (fun (i47 : Nat) (s47 : ((List (ByteArray × Int)) × (List Gate))) f w => ∃ H : GH, ∃ o48 : Obj, ∃ v51 : Value, ∃ n52 : Nat, ∃ cs53 : List Value, St Ha wa H w [.row 101 1 v42 n43 cs44, .raw b30 o48, .row 118 3 v51 n52 cs53] ∧ Inc H38 H ∧ MapOf (K := ByteArray) (V := Int) Value.string (Value.int .i64) o48 s47.1 ∧ Els (up wa.heap.size H) eGate 3 cs53 s47.2 ∧ f 22 = Value.int .i64 ((i47 : Nat) : Int) ∧ f 6 = v51 ∧ f 7 = Value.map (some b30) ∧ f 20 = v42 ∧ f 21 = Value.int .i64 (len r36)) (fun (q : Rs ((List (ByteArray × Int)) × (List Gate)) Empty) e f w => match q with | .go s47 => e = Exit.exit 0 ∧ (∃ H : GH, ∃ o48 : Obj, ∃ v51 : Value, ∃ n52 : Nat, ∃ cs53 : List Value, St Ha wa H w [.row 101 1 v42 n43 cs44, .raw b30 o48, .row 118 3 v51 n52 cs53] ∧ Inc H38 H ∧ MapOf (K := ByteArray) (V := Int) Value.string (Value.int .i64) o48 s47.1 ∧ Els (up wa.heap.size H) eGate 3 cs53 s47.2 ∧ f 6 = v51) | .rt x => x.elim) hq ⟨_, _, _, _, _, ((S40.nil 118 3).sel [1, 2, 0] (by decide) rfl), (Inc.rfl _), hm35, Els.nil, rfl, rfl, rfl, rfl, rfl⟩ ?_ ?_) ?_
  ·
   clear hp hq
   rintro i47 s47 f59 w58 ⟨H55, o48, v51, n52, cs53, S56, i57, hm49, els54, k60, k61, k62, k63, k64⟩ hi47 hj47 o272 hp
   refine FW.seq (FW.region ?_)
   refine FL.v (E.lssT k60 k64 (lss_chk hj47 hchk47)) ?_
   refine FL.nil (FW.seq ?_)
   refine FW.condT rfl rfl ?_
   refine FW.skip (FW.seq (FW.block (FW.seq (FW.region ?_))))
   obtain ⟨x71, hx72, hp⟩ := bnd hp
   obtain ⟨p65, cs66, pt67, l68, at69, rel70⟩ := S56.row_at (i := 0) rfl els45 (by decide) hx72
   obtain ⟨v73, rfl, h74⟩ := eFo_open rel70
   refine FL.v (E.indexAddr te106 k63 k60 pt67) ?_
   refine FL.v (E.load rfl (run_load0 Tryz.isAgg101 at69 rfl)) ?_
   refine FL.v (E.assign (v := v73) rfl) ?_
   refine FL.nil (FW.seq (FW.region ?_))
   obtain ⟨b75, w76, run77, S78⟩ := S56.alloc (P := Tryz.prog) 118 [Value.int .i64 0, Value.int .i64 0, Value.int .i64 0] Tryz.zeroValue118 rfl (ones_cons rfl (ones_cons rfl (ones_cons rfl ones_nil)))
   refine FL.v (E.alloc run77) ?_
   refine FL.nil (FW.seq (FW.seq (FW.region ?_)))
   refine FL.v (E.move (v := v73) rfl) ?_
   obtain ⟨y79, hy80, hp⟩ := bnd hp
   obtain ⟨q81, v83, v84, rfl, at82, h85, h86⟩ := FAt.open h74 hy80
   refine FL.v (E.nilCheck rfl) ?_
   refine FL.v (E.fieldAddr tf109_0 rfl) ?_
   refine FL.v (E.load rfl (run_load1 Tryz.isAgg5 ((at82.mono i57).now S78.sl) rfl)) ?_
   refine FL.nil ?_
   obtain ⟨q88, hq, hp⟩ := bndR hp
   refine FW.joinE (S := ((List Gate) × Int × Int × Int × Fo)) (X := Empty) (q := q88) (fun s87 f w => ∃ H : GH, ∃ v90 : Value, ∃ n91 : Nat, ∃ cs92 : List Value, ∃ v94 : Value, St Ha wa H w [.box b75 118 [Value.int .i64 s87.2.1, Value.int .i64 s87.2.2.1, Value.int .i64 s87.2.2.2.1], .row 101 1 v42 n43 cs44, .raw b30 o48, .row 118 3 v90 n91 cs92] ∧ Inc H55 H ∧ Els (up wa.heap.size H) eGate 3 cs92 s87.1 ∧ FAt H v94 s87.2.2.2.2 ∧ f 6 = v90 ∧ f 7 = Value.map (some b30) ∧ f 9 = v94 ∧ f 10 = Value.pointer (some (⟨b75, 0, none⟩ : Addr)) ∧ f 20 = v42 ∧ f 21 = Value.int .i64 (len r36) ∧ f 22 = Value.int .i64 ((i47 : Nat) : Int)) (fun (_ : Empty) _ _ _ => False) ?_ ?_ ?_
   ·
    clear hp; have hp := hq; clear hq
    refine FW.block (FW.seq (FW.region ?_))
    refine FL.v (E.eql rfl rfl) ?_
    refine FL.v (E.assign (v := Value.bool (y79.op == 48)) rfl) ?_
    refine FL.nil ?_
    rcases ifB hp with ⟨c96, hp⟩ | ⟨c96, hp⟩
    ·
     refine FW.condT rfl c96 ?_
     refine FW.region ?_
     refine FL.v (E.build (B1 rfl) (run_build _ 118 #[(0, Value.int .i64 3)] #[Value.int .i64 3, Value.int .i64 0, Value.int .i64 0] (by rfl))) ?_
     obtain ⟨w97, run98, S99⟩ := S78.store0 (P := Tryz.prog) (t := 118) (i := 0) (cs' := [Value.int .i64 3, Value.int .i64 0, Value.int .i64 0]) (l' := [.box b75 118 [Value.int .i64 3, Value.int .i64 0, Value.int .i64 0], .row 101 1 v42 n43 cs44, .raw b30 o48, .row 118 3 v51 n52 cs53]) (v := Value.agg #[Value.int .i64 3, Value.int .i64 0, Value.int .i64 0]) (c := [Value.int .i64 3, Value.int .i64 0, Value.int .i64 0]) rfl Tryz.sizeOf118 rfl rfl (ones_cons rfl (ones_cons rfl (ones_cons rfl ones_nil))) (Nat.le_of_ble_eq_true rfl) rfl rfl
     refine FL.act rfl rfl (E.store rfl rfl run98) ?_
     refine FL.nil ?_
     obtain rfl := Option.some.inj hp
     exact ⟨rfl, ⟨_, _, _, _, _, S99, (Inc.rfl _), els54, (h74.mono i57), k61, k62, rfl, rfl, k63, k64, k60⟩⟩
    ·
     refine FW.condF rfl c96 ?_
     refine FW.seq (FW.region ?_)
     refine FL.v (E.eql rfl rfl) ?_
     refine FL.v (E.assign (v := Value.bool (y79.op == 49)) rfl) ?_
     refine FL.nil ?_
     rcases ifB hp with ⟨c100, hp⟩ | ⟨c100, hp⟩
     ·
      refine FW.condT rfl c100 ?_
      refine FW.region ?_
      refine FL.v (E.build (B1 rfl) (run_build _ 118 #[(0, Value.int .i64 2)] #[Value.int .i64 2, Value.int .i64 0, Value.int .i64 0] (by rfl))) ?_
      obtain ⟨w101, run102, S103⟩ := S78.store0 (P := Tryz.prog) (t := 118) (i := 0) (cs' := [Value.int .i64 2, Value.int .i64 0, Value.int .i64 0]) (l' := [.box b75 118 [Value.int .i64 2, Value.int .i64 0, Value.int .i64 0], .row 101 1 v42 n43 cs44, .raw b30 o48, .row 118 3 v51 n52 cs53]) (v := Value.agg #[Value.int .i64 2, Value.int .i64 0, Value.int .i64 0]) (c := [Value.int .i64 2, Value.int .i64 0, Value.int .i64 0]) rfl Tryz.sizeOf118 rfl rfl (ones_cons rfl (ones_cons rfl (ones_cons rfl ones_nil))) (Nat.le_of_ble_eq_true rfl) rfl rfl
      refine FL.act rfl rfl (E.store rfl rfl run102) ?_
      refine FL.nil ?_
      obtain rfl := Option.some.inj hp
      exact ⟨rfl, ⟨_, _, _, _, _, S103, (Inc.rfl _), els54, (h74.mono i57), k61, k62, rfl, rfl, k63, k64, k60⟩⟩
     ·
      refine FW.condF rfl c100 ?_
      refine FW.seq (FW.region ?_)
      refine FL.v (E.eql rfl rfl) ?_
      refine FL.v (E.assign (v := Value.bool (y79.op == 126)) rfl) ?_
      refine FL.nil ?_
      rcases ifB hp with ⟨c104, hp⟩ | ⟨c104, hp⟩
      ·
       refine FW.condT rfl c104 ?_
       refine FW.region ?_
       refine FL.v (E.move k62) ?_
       refine FL.v (E.move (v := Value.pointer (some q81)) rfl) ?_
       refine FL.v (E.nilCheck rfl) ?_
       refine FL.v (E.fieldAddr tf109_1 rfl) ?_
       refine FL.v (E.load rfl (run_load1 Tryz.isAgg101 ((at82.mono i57).now S78.sl) rfl)) ?_
       obtain ⟨y105, hy107, hp⟩ := bnd hp
       obtain ⟨q108, v111, v112, rfl, at110, h113, h114⟩ := FAt.open h85 hy107
       refine FL.v (E.nilCheck rfl) ?_
       refine FL.v (E.fieldAddr tf109_3 rfl) ?_
       refine FL.v (E.load rfl (run_load1 Tryz.isAgg9 ((at110.mono i57).now S78.sl) rfl)) ?_
       refine FL.v (E.lookup rfl rfl (S78.mapGet (P := Tryz.prog) (i := 2) rfl hm49 Tryz.runUnderlying104 (KeyNow.str Tryz.runUnderlying9) (z := 0) Tryz.zeroValue3 y105.text)) ?_
       refine FL.v (E.build (B2 rfl rfl) (run_build _ 118 #[(0, Value.int .i64 4), (1, Value.int .i64 ((mget s47.1 y105.text).getD 0))] #[Value.int .i64 4, Value.int .i64 ((mget s47.1 y105.text).getD 0), Value.int .i64 0] (by rfl))) ?_
       obtain ⟨w115, run116, S117⟩ := S78.store0 (P := Tryz.prog) (t := 118) (i := 0) (cs' := [Value.int .i64 4, Value.int .i64 ((mget s47.1 y105.text).getD 0), Value.int .i64 0]) (l' := [.box b75 118 [Value.int .i64 4, Value.int .i64 ((mget s47.1 y105.text).getD 0), Value.int .i64 0], .row 101 1 v42 n43 cs44, .raw b30 o48, .row 118 3 v51 n52 cs53]) (v := Value.agg #[Value.int .i64 4, Value.int .i64 ((mget s47.1 y105.text).getD 0), Value.int .i64 0]) (c := [Value.int .i64 4, Value.int .i64 ((mget s47.1 y105.text).getD 0), Value.int .i64 0]) rfl Tryz.sizeOf118 rfl rfl (ones_cons rfl (ones_cons rfl (ones_cons rfl ones_nil))) (Nat.le_of_ble_eq_true rfl) rfl rfl
       refine FL.act rfl rfl (E.store rfl rfl run116) ?_
       refine FL.nil ?_
       obtain rfl := Option.some.inj hp
       exact ⟨rfl, ⟨_, _, _, _, _, S117, (Inc.rfl _), els54, (h74.mono i57), k61, k62, rfl, rfl, k63, k64, k60⟩⟩
      ·
       refine FW.condF rfl c104 ?_
       refine FW.seq (FW.region ?_)
       refine FL.v (E.eql rfl rfl) ?_
       refine FL.v (E.assign (v := Value.bool (y79.op == 38)) rfl) ?_
       refine FL.nil ?_
       rcases ifB hp with ⟨c118, hp⟩ | ⟨c118, hp⟩
       ·
        refine FW.condT rfl c118 ?_
        obtain ⟨y122, hy123, hp⟩ := bnd hp
        obtain ⟨y130, hy131, hp⟩ := bnd hp
        refine FW.drawB (Sl H55) (fun f w => ∃ H : GH, ∃ v141 : Value, St Ha wa H w [.box b75 118 [Value.int .i64 5, Value.int .i64 ((mget s47.1 y122.text).getD 0), Value.int .i64 ((mget s47.1 y130.text).getD 0)], .row 101 1 v42 n43 cs44, .raw b30 o48, .row 118 3 v51 n52 cs53] ∧ Inc H55 H ∧ FAt H v141 x71 ∧ f 6 = v51 ∧ f 7 = Value.map (some b30) ∧ f 9 = v141 ∧ f 10 = Value.pointer (some (⟨b75, 0, none⟩ : Addr)) ∧ f 20 = v42 ∧ f 21 = Value.int .i64 (len r36) ∧ f 22 = Value.int .i64 ((i47 : Nat) : Int)) (by kernel_rfl) S78.sl ?_ ?_
        ·
         intro w119 r120
         have S121 := S78.call r120
         refine FB.t (i := 0) (bs 20 1) rfl (SP.nil S121.sl) rfl (fun w' hw' => (E.move k62)) ?_
         refine FB.t (i := 1) (bs 20 3) rfl (SP.nil S121.sl) rfl (fun w' hw' => (E.move (v := Value.pointer (some q81)) rfl)) ?_
         refine FB.t (i := 2) (bs 20 7) rfl (SP.nil S121.sl) rfl (fun w' hw' => (E.nilCheck rfl)) ?_
         refine FB.t (i := 3) (bs 20 15) rfl (SP.nil S121.sl) rfl (fun w' hw' => (E.fieldAddr tf109_1 rfl)) ?_
         refine FB.t (i := 4) (bs 20 31) rfl (SP.nil S121.sl) rfl (fun w' hw' => (E.load rfl (run_load1 Tryz.isAgg101 ((at82.mono i57).now hw') rfl))) ?_
         obtain ⟨q124, v126, v127, rfl, at125, h128, h129⟩ := FAt.open h85 hy123
         refine FB.t (i := 5) (bs 20 63) rfl (SP.nil S121.sl) rfl (fun w' hw' => (E.nilCheck rfl)) ?_
         refine FB.t (i := 6) (bs 20 127) rfl (SP.nil S121.sl) rfl (fun w' hw' => (E.fieldAddr tf109_3 rfl)) ?_
         refine FB.t (i := 7) (bs 20 255) rfl (SP.nil S121.sl) rfl (fun w' hw' => (E.load rfl (run_load1 Tryz.isAgg9 ((at125.mono i57).now hw') rfl))) ?_
         refine FB.t (i := 9) (bs 20 767) rfl (SP.nil S121.sl) rfl (fun w' hw' => (E.move k62)) ?_
         refine FB.t (i := 10) (bs 20 1791) rfl (SP.nil S121.sl) rfl (fun w' hw' => (E.move (v := Value.pointer (some q81)) rfl)) ?_
         refine FB.t (i := 11) (bs 20 3839) rfl (SP.nil S121.sl) rfl (fun w' hw' => (E.nilCheck rfl)) ?_
         refine FB.t (i := 12) (bs 20 7935) rfl (SP.nil S121.sl) rfl (fun w' hw' => (E.fieldAddr tf109_2 rfl)) ?_
         refine FB.t (i := 13) (bs 20 16127) rfl (SP.nil S121.sl) rfl (fun w' hw' => (E.load rfl (run_load1 Tryz.isAgg101 ((at82.mono i57).now hw') rfl))) ?_
         obtain ⟨q132, v134, v135, rfl, at133, h136, h137⟩ := FAt.open h86 hy131
         refine FB.t (i := 14) (bs 20 32511) rfl (SP.nil S121.sl) rfl (fun w' hw' => (E.nilCheck rfl)) ?_
         refine FB.t (i := 15) (bs 20 65279) rfl (SP.nil S121.sl) rfl (fun w' hw' => (E.fieldAddr tf109_3 rfl)) ?_
         refine FB.t (i := 16) (bs 20 130815) rfl (SP.nil S121.sl) rfl (fun w' hw' => (E.load rfl (run_load1 Tryz.isAgg9 ((at133.mono i57).now hw') rfl))) ?_
         refine FB.all2 (i := 8) (j := 17) (by kernel_rfl) ?_ ?_
         ·
          refine FC.val (l' := (bs 20 131071)) rfl (by kernel_rfl) rfl rfl rfl (E.lookup rfl rfl (S121.mapGet (P := Tryz.prog) (i := 2) rfl hm49 Tryz.runUnderlying104 (KeyNow.str Tryz.runUnderlying9) (z := 0) Tryz.zeroValue3 y122.text)) ?_
          refine ⟨(SP.nil S121.sl), ?_⟩
          refine FB.all1 (i := 17) (by kernel_rfl) ?_
          ·
           refine FC.val (l' := (bs 20 262143)) rfl (by kernel_rfl) rfl rfl rfl (E.lookup rfl rfl (S121.mapGet (P := Tryz.prog) (i := 2) rfl hm49 Tryz.runUnderlying104 (KeyNow.str Tryz.runUnderlying9) (z := 0) Tryz.zeroValue3 y130.text)) ?_
           refine ⟨(SP.nil S121.sl), ?_⟩
           refine FB.t (i := 18) (bs 20 524287) rfl (SP.nil S121.sl) rfl (fun w' hw' => (E.build (B3 rfl rfl rfl) (run_build _ 118 #[(0, Value.int .i64 5), (1, Value.int .i64 ((mget s47.1 y122.text).getD 0)), (2, Value.int .i64 ((mget s47.1 y130.text).getD 0))] #[Value.int .i64 5, Value.int .i64 ((mget s47.1 y122.text).getD 0), Value.int .i64 ((mget s47.1 y130.text).getD 0)] (by rfl)))) ?_
           refine FB.all1 (i := 19) (by kernel_rfl) ?_
           ·
            obtain ⟨w138, run139, S140⟩ := S121.store0 (P := Tryz.prog) (t := 118) (i := 0) (cs' := [Value.int .i64 5, Value.int .i64 ((mget s47.1 y122.text).getD 0), Value.int .i64 ((mget s47.1 y130.text).getD 0)]) (l' := [.box b75 118 [Value.int .i64 5, Value.int .i64 ((mget s47.1 y122.text).getD 0), Value.int .i64 ((mget s47.1 y130.text).getD 0)], .row 101 1 v42 n43 cs44, .raw b30 o48, .row 118 3 v51 n52 cs53]) (v := Value.agg #[Value.int .i64 5, Value.int .i64 ((mget s47.1 y122.text).getD 0), Value.int .i64 ((mget s47.1 y130.text).getD 0)]) (c := [Value.int .i64 5, Value.int .i64 ((mget s47.1 y122.text).getD 0), Value.int .i64 ((mget s47.1 y130.text).getD 0)]) rfl Tryz.sizeOf118 rfl rfl (ones_cons rfl (ones_cons rfl (ones_cons rfl ones_nil))) (Nat.le_of_ble_eq_true rfl) rfl rfl
            refine FC.act (l' := (bs 20 1048575)) rfl (by kernel_rfl) rfl rfl (E.store rfl rfl run139) ?_
            refine ⟨(SP.nil S140.sl), ?_⟩
            exact FB.done (by kernel_rfl) ⟨_, _, S140, (Inc.rfl _), (h74.mono i57), k61, k62, rfl, rfl, k63, k64, k60⟩
         ·
          refine FC.val (l' := (bs 20 261887)) rfl (by kernel_rfl) rfl rfl rfl (E.lookup rfl rfl (S121.mapGet (P := Tryz.prog) (i := 2) rfl hm49 Tryz.runUnderlying104 (KeyNow.str Tryz.runUnderlying9) (z := 0) Tryz.zeroValue3 y130.text)) ?_
          refine ⟨(SP.nil S121.sl), ?_⟩
          refine FB.all1 (i := 8) (by kernel_rfl) ?_
          ·
           refine FC.val (l' := (bs 20 262143)) rfl (by kernel_rfl) rfl rfl rfl (E.lookup rfl rfl (S121.mapGet (P := Tryz.prog) (i := 2) rfl hm49 Tryz.runUnderlying104 (KeyNow.str Tryz.runUnderlying9) (z := 0) Tryz.zeroValue3 y122.text)) ?_
           refine ⟨(SP.nil S121.sl), ?_⟩
           refine FB.t (i := 18) (bs 20 524287) rfl (SP.nil S121.sl) rfl (fun w' hw' => (E.build (B3 rfl rfl rfl) (run_build _ 118 #[(0, Value.int .i64 5), (1, Value.int .i64 ((mget s47.1 y122.text).getD 0)), (2, Value.int .i64 ((mget s47.1 y130.text).getD 0))] #[Value.int .i64 5, Value.int .i64 ((mget s47.1 y122.text).getD 0), Value.int .i64 ((mget s47.1 y130.text).getD 0)] (by rfl)))) ?_
           refine FB.all1 (i := 19) (by kernel_rfl) ?_
           ·
            obtain ⟨w138, run139, S140⟩ := S121.store0 (P := Tryz.prog) (t := 118) (i := 0) (cs' := [Value.int .i64 5, Value.int .i64 ((mget s47.1 y122.text).getD 0), Value.int .i64 ((mget s47.1 y130.text).getD 0)]) (l' := [.box b75 118 [Value.int .i64 5, Value.int .i64 ((mget s47.1 y122.text).getD 0), Value.int .i64 ((mget s47.1 y130.text).getD 0)], .row 101 1 v42 n43 cs44, .raw b30 o48, .row 118 3 v51 n52 cs53]) (v := Value.agg #[Value.int .i64 5, Value.int .i64 ((mget s47.1 y122.text).getD 0), Value.int .i64 ((mget s47.1 y130.text).getD 0)]) (c := [Value.int .i64 5, Value.int .i64 ((mget s47.1 y122.text).getD 0), Value.int .i64 ((mget s47.1 y130.text).getD 0)]) rfl Tryz.sizeOf118 rfl rfl (ones_cons rfl (ones_cons rfl (ones_cons rfl ones_nil))) (Nat.le_of_ble_eq_true rfl) rfl rfl
            refine FC.act (l' := (bs 20 1048575)) rfl (by kernel_rfl) rfl rfl (E.store rfl rfl run139) ?_
            refine ⟨(SP.nil S140.sl), ?_⟩
            exact FB.done (by kernel_rfl) ⟨_, _, S140, (Inc.rfl _), (h74.mono i57), k61, k62, rfl, rfl, k63, k64, k60⟩
        ·
         rintro f147 w146 ⟨H143, v141, S144, i145, h142, k148, k149, k150, k151, k152, k153, k154⟩
         obtain rfl := Option.some.inj hp
         exact ⟨rfl, ⟨_, _, _, _, _, S144, i145, (els54.mono (up_mono i145)), h142, k148, k149, k150, k151, k152, k153, k154⟩⟩
       ·
        refine FW.condF rfl c118 ?_
        refine FW.seq (FW.region ?_)
        refine FL.v (E.eql rfl rfl) ?_
        refine FL.v (E.assign (v := Value.bool (y79.op == 124)) rfl) ?_
        refine FL.nil ?_
        rcases ifB hp with ⟨c155, hp⟩ | ⟨c155, hp⟩
        ·
         refine FW.condT rfl c155 ?_
         obtain ⟨y159, hy160, hp⟩ := bnd hp
         obtain ⟨y167, hy168, hp⟩ := bnd hp
         refine FW.drawB (Sl H55) (fun f w => ∃ H : GH, ∃ v178 : Value, St Ha wa H w [.box b75 118 [Value.int .i64 6, Value.int .i64 ((mget s47.1 y159.text).getD 0), Value.int .i64 ((mget s47.1 y167.text).getD 0)], .row 101 1 v42 n43 cs44, .raw b30 o48, .row 118 3 v51 n52 cs53] ∧ Inc H55 H ∧ FAt H v178 x71 ∧ f 6 = v51 ∧ f 7 = Value.map (some b30) ∧ f 9 = v178 ∧ f 10 = Value.pointer (some (⟨b75, 0, none⟩ : Addr)) ∧ f 20 = v42 ∧ f 21 = Value.int .i64 (len r36) ∧ f 22 = Value.int .i64 ((i47 : Nat) : Int)) (by kernel_rfl) S78.sl ?_ ?_
         ·
          intro w156 r157
          have S158 := S78.call r157
          refine FB.t (i := 0) (bs 20 1) rfl (SP.nil S158.sl) rfl (fun w' hw' => (E.move k62)) ?_
          refine FB.t (i := 1) (bs 20 3) rfl (SP.nil S158.sl) rfl (fun w' hw' => (E.move (v := Value.pointer (some q81)) rfl)) ?_
          refine FB.t (i := 2) (bs 20 7) rfl (SP.nil S158.sl) rfl (fun w' hw' => (E.nilCheck rfl)) ?_
          refine FB.t (i := 3) (bs 20 15) rfl (SP.nil S158.sl) rfl (fun w' hw' => (E.fieldAddr tf109_1 rfl)) ?_
          refine FB.t (i := 4) (bs 20 31) rfl (SP.nil S158.sl) rfl (fun w' hw' => (E.load rfl (run_load1 Tryz.isAgg101 ((at82.mono i57).now hw') rfl))) ?_
          obtain ⟨q161, v163, v164, rfl, at162, h165, h166⟩ := FAt.open h85 hy160
          refine FB.t (i := 5) (bs 20 63) rfl (SP.nil S158.sl) rfl (fun w' hw' => (E.nilCheck rfl)) ?_
          refine FB.t (i := 6) (bs 20 127) rfl (SP.nil S158.sl) rfl (fun w' hw' => (E.fieldAddr tf109_3 rfl)) ?_
          refine FB.t (i := 7) (bs 20 255) rfl (SP.nil S158.sl) rfl (fun w' hw' => (E.load rfl (run_load1 Tryz.isAgg9 ((at162.mono i57).now hw') rfl))) ?_
          refine FB.t (i := 9) (bs 20 767) rfl (SP.nil S158.sl) rfl (fun w' hw' => (E.move k62)) ?_
          refine FB.t (i := 10) (bs 20 1791) rfl (SP.nil S158.sl) rfl (fun w' hw' => (E.move (v := Value.pointer (some q81)) rfl)) ?_
          refine FB.t (i := 11) (bs 20 3839) rfl (SP.nil S158.sl) rfl (fun w' hw' => (E.nilCheck rfl)) ?_
          refine FB.t (i := 12) (bs 20 7935) rfl (SP.nil S158.sl) rfl (fun w' hw' => (E.fieldAddr tf109_2 rfl)) ?_
          refine FB.t (i := 13) (bs 20 16127) rfl (SP.nil S158.sl) rfl (fun w' hw' => (E.load rfl (run_load1 Tryz.isAgg101 ((at82.mono i57).now hw') rfl))) ?_
          obtain ⟨q169, v171, v172, rfl, at170, h173, h174⟩ := FAt.open h86 hy168
          refine FB.t (i := 14) (bs 20 32511) rfl (SP.nil S158.sl) rfl (fun w' hw' => (E.nilCheck rfl)) ?_
          refine FB.t (i := 15) (bs 20 65279) rfl (SP.nil S158.sl) rfl (fun w' hw' => (E.fieldAddr tf109_3 rfl)) ?_
          refine FB.t (i := 16) (bs 20 130815) rfl (SP.nil S158.sl) rfl (fun w' hw' => (E.load rfl (run_load1 Tryz.isAgg9 ((at170.mono i57).now hw') rfl))) ?_
          refine FB.all2 (i := 8) (j := 17) (by kernel_rfl) ?_ ?_
          ·
           refine FC.val (l' := (bs 20 131071)) rfl (by kernel_rfl) rfl rfl rfl (E.lookup rfl rfl (S158.mapGet (P := Tryz.prog) (i := 2) rfl hm49 Tryz.runUnderlying104 (KeyNow.str Tryz.runUnderlying9) (z := 0) Tryz.zeroValue3 y159.text)) ?_
           refine ⟨(SP.nil S158.sl), ?_⟩
           refine FB.all1 (i := 17) (by kernel_rfl) ?_
           ·
            refine FC.val (l' := (bs 20 262143)) rfl (by kernel_rfl) rfl rfl rfl (E.lookup rfl rfl (S158.mapGet (P := Tryz.prog) (i := 2) rfl hm49 Tryz.runUnderlying104 (KeyNow.str Tryz.runUnderlying9) (z := 0) Tryz.zeroValue3 y167.text)) ?_
            refine ⟨(SP.nil S158.sl), ?_⟩
            refine FB.t (i := 18) (bs 20 524287) rfl (SP.nil S158.sl) rfl (fun w' hw' => (E.build (B3 rfl rfl rfl) (run_build _ 118 #[(0, Value.int .i64 6), (1, Value.int .i64 ((mget s47.1 y159.text).getD 0)), (2, Value.int .i64 ((mget s47.1 y167.text).getD 0))] #[Value.int .i64 6, Value.int .i64 ((mget s47.1 y159.text).getD 0), Value.int .i64 ((mget s47.1 y167.text).getD 0)] (by rfl)))) ?_
            refine FB.all1 (i := 19) (by kernel_rfl) ?_
            ·
             obtain ⟨w175, run176, S177⟩ := S158.store0 (P := Tryz.prog) (t := 118) (i := 0) (cs' := [Value.int .i64 6, Value.int .i64 ((mget s47.1 y159.text).getD 0), Value.int .i64 ((mget s47.1 y167.text).getD 0)]) (l' := [.box b75 118 [Value.int .i64 6, Value.int .i64 ((mget s47.1 y159.text).getD 0), Value.int .i64 ((mget s47.1 y167.text).getD 0)], .row 101 1 v42 n43 cs44, .raw b30 o48, .row 118 3 v51 n52 cs53]) (v := Value.agg #[Value.int .i64 6, Value.int .i64 ((mget s47.1 y159.text).getD 0), Value.int .i64 ((mget s47.1 y167.text).getD 0)]) (c := [Value.int .i64 6, Value.int .i64 ((mget s47.1 y159.text).getD 0), Value.int .i64 ((mget s47.1 y167.text).getD 0)]) rfl Tryz.sizeOf118 rfl rfl (ones_cons rfl (ones_cons rfl (ones_cons rfl ones_nil))) (Nat.le_of_ble_eq_true rfl) rfl rfl
             refine FC.act (l' := (bs 20 1048575)) rfl (by kernel_rfl) rfl rfl (E.store rfl rfl run176) ?_
             refine ⟨(SP.nil S177.sl), ?_⟩
             exact FB.done (by kernel_rfl) ⟨_, _, S177, (Inc.rfl _), (h74.mono i57), k61, k62, rfl, rfl, k63, k64, k60⟩
          ·
           refine FC.val (l' := (bs 20 261887)) rfl (by kernel_rfl) rfl rfl rfl (E.lookup rfl rfl (S158.mapGet (P := Tryz.prog) (i := 2) rfl hm49 Tryz.runUnderlying104 (KeyNow.str Tryz.runUnderlying9) (z := 0) Tryz.zeroValue3 y167.text)) ?_
           refine ⟨(SP.nil S158.sl), ?_⟩
           refine FB.all1 (i := 8) (by kernel_rfl) ?_
           ·
            refine FC.val (l' := (bs 20 262143)) rfl (by kernel_rfl) rfl rfl rfl (E.lookup rfl rfl (S158.mapGet (P := Tryz.prog) (i := 2) rfl hm49 Tryz.runUnderlying104 (KeyNow.str Tryz.runUnderlying9) (z := 0) Tryz.zeroValue3 y159.text)) ?_
            refine ⟨(SP.nil S158.sl), ?_⟩
            refine FB.t (i := 18) (bs 20 524287) rfl (SP.nil S158.sl) rfl (fun w' hw' => (E.build (B3 rfl rfl rfl) (run_build _ 118 #[(0, Value.int .i64 6), (1, Value.int .i64 ((mget s47.1 y159.text).getD 0)), (2, Value.int .i64 ((mget s47.1 y167.text).getD 0))] #[Value.int .i64 6, Value.int .i64 ((mget s47.1 y159.text).getD 0), Value.int .i64 ((mget s47.1 y167.text).getD 0)] (by rfl)))) ?_
            refine FB.all1 (i := 19) (by kernel_rfl) ?_
            ·
             obtain ⟨w175, run176, S177⟩ := S158.store0 (P := Tryz.prog) (t := 118) (i := 0) (cs' := [Value.int .i64 6, Value.int .i64 ((mget s47.1 y159.text).getD 0), Value.int .i64 ((mget s47.1 y167.text).getD 0)]) (l' := [.box b75 118 [Value.int .i64 6, Value.int .i64 ((mget s47.1 y159.text).getD 0), Value.int .i64 ((mget s47.1 y167.text).getD 0)], .row 101 1 v42 n43 cs44, .raw b30 o48, .row 118 3 v51 n52 cs53]) (v := Value.agg #[Value.int .i64 6, Value.int .i64 ((mget s47.1 y159.text).getD 0), Value.int .i64 ((mget s47.1 y167.text).getD 0)]) (c := [Value.int .i64 6, Value.int .i64 ((mget s47.1 y159.text).getD 0), Value.int .i64 ((mget s47.1 y167.text).getD 0)]) rfl Tryz.sizeOf118 rfl rfl (ones_cons rfl (ones_cons rfl (ones_cons rfl ones_nil))) (Nat.le_of_ble_eq_true rfl) rfl rfl
             refine FC.act (l' := (bs 20 1048575)) rfl (by kernel_rfl) rfl rfl (E.store rfl rfl run176) ?_
             refine ⟨(SP.nil S177.sl), ?_⟩
             exact FB.done (by kernel_rfl) ⟨_, _, S177, (Inc.rfl _), (h74.mono i57), k61, k62, rfl, rfl, k63, k64, k60⟩
         ·
          rintro f184 w183 ⟨H180, v178, S181, i182, h179, k185, k186, k187, k188, k189, k190, k191⟩
          obtain rfl := Option.some.inj hp
          exact ⟨rfl, ⟨_, _, _, _, _, S181, i182, (els54.mono (up_mono i182)), h179, k185, k186, k187, k188, k189, k190, k191⟩⟩
        ·
         refine FW.condF rfl c155 ?_
         refine FW.seq (FW.region ?_)
         refine FL.v (E.eql rfl rfl) ?_
         refine FL.v (E.assign (v := Value.bool (y79.op == 62)) rfl) ?_
         refine FL.nil ?_
         rcases ifB hp with ⟨c192, hp⟩ | ⟨c192, hp⟩
         ·
          refine FW.condT rfl c192 ?_
          refine FW.seq (FW.region ?_)
          refine FL.v (E.move k61) ?_
          refine FL.v (E.move k62) ?_
          refine FL.v (E.move (v := Value.pointer (some q81)) rfl) ?_
          refine FL.v (E.nilCheck rfl) ?_
          refine FL.v (E.fieldAddr tf109_1 rfl) ?_
          refine FL.v (E.load rfl (run_load1 Tryz.isAgg101 ((at82.mono i57).now S78.sl) rfl)) ?_
          obtain ⟨y193, hy194, hp⟩ := bnd hp
          obtain ⟨q195, v197, v198, rfl, at196, h199, h200⟩ := FAt.open h85 hy194
          refine FL.v (E.nilCheck rfl) ?_
          refine FL.v (E.fieldAddr tf109_3 rfl) ?_
          refine FL.v (E.load rfl (run_load1 Tryz.isAgg9 ((at196.mono i57).now S78.sl) rfl)) ?_
          refine FL.v (E.lookup rfl rfl (S78.mapGet (P := Tryz.prog) (i := 2) rfl hm49 Tryz.runUnderlying104 (KeyNow.str Tryz.runUnderlying9) (z := 0) Tryz.zeroValue3 y193.text)) ?_
          refine FL.v (E.build (B2 rfl rfl) (run_build _ 118 #[(0, Value.int .i64 4), (1, Value.int .i64 ((mget s47.1 y193.text).getD 0))] #[Value.int .i64 4, Value.int .i64 ((mget s47.1 y193.text).getD 0), Value.int .i64 0] (by rfl))) ?_
          obtain ⟨v201, w202, run203, S204⟩ := S78.buildSlice (P := Tryz.prog) te50 [Value.agg #[Value.int .i64 4, Value.int .i64 ((mget s47.1 y193.text).getD 0), Value.int .i64 0]] (parts := #[(0, Value.agg #[Value.int .i64 4, Value.int .i64 ((mget s47.1 y193.text).getD 0), Value.int .i64 0])]) (cells := [Value.int .i64 4, Value.int .i64 ((mget s47.1 y193.text).getD 0), Value.int .i64 0]) rfl (szs_cons rfl szs_nil) (fc_cons rfl fc_nil) (ones_cons rfl (ones_cons rfl (ones_cons rfl ones_nil))) (Nat.le_of_ble_eq_true rfl)
          have els205 : Els (up wa.heap.size H55) eGate 3 [Value.int .i64 4, Value.int .i64 ((mget s47.1 y193.text).getD 0), Value.int .i64 0] [(Gate.mk 4 ((mget s47.1 y193.text).getD 0) 0)] := (Els.snoc (H := (up wa.heap.size H55)) (E := eGate) (k := 3) (c := [Value.int .i64 4, Value.int .i64 ((mget s47.1 y193.text).getD 0), Value.int .i64 0]) (x := (Gate.mk 4 ((mget s47.1 y193.text).getD 0) 0)) Els.nil rfl rfl)
          refine FL.v (E.buildSlice (B1 rfl) run203) ?_
          obtain ⟨xs206, hz207, hp⟩ := bnd hp
          obtain ⟨v208, w211, n209, cs210, run212, S213, els214, ce215⟩ := S204.appendO (P := Tryz.prog) te50 (i := 4) (j := 0) rfl els54 rfl els205 hz207
          have S213 : St Ha wa H55 w211 [.row 118 3 v201 1 [Value.int .i64 4, Value.int .i64 ((mget s47.1 y193.text).getD 0), Value.int .i64 0], .box b75 118 [Value.int .i64 0, Value.int .i64 0, Value.int .i64 0], .row 101 1 v42 n43 cs44, .raw b30 o48, .row 118 3 v208 n209 cs210] := S213
          have S216 : St Ha wa H55 w211 [.box b75 118 [Value.int .i64 0, Value.int .i64 0, Value.int .i64 0], .row 101 1 v42 n43 cs44, .raw b30 o48, .row 118 3 v208 n209 cs210] := S213.drop 0
          refine FL.v (E.append rfl rfl run212) ?_
          refine FL.v (E.assign (v := v208) rfl) ?_
          refine FL.nil (FW.region ?_)
          refine FL.v (E.move (v := v208) rfl) ?_
          refine FL.v (E.lenO te50 rfl S216 (i := 3) rfl els214 (by decide)) ?_
          refine FL.v (E.sub rfl rfl) ?_
          refine FL.v (E.move k62) ?_
          refine FL.v (E.move (v := Value.pointer (some q81)) rfl) ?_
          refine FL.v (E.nilCheck rfl) ?_
          refine FL.v (E.fieldAddr tf109_2 rfl) ?_
          refine FL.v (E.load rfl (run_load1 Tryz.isAgg101 ((at82.mono i57).now S216.sl) rfl)) ?_
          obtain ⟨y217, hy218, hp⟩ := bnd hp
          obtain ⟨q219, v221, v222, rfl, at220, h223, h224⟩ := FAt.open h86 hy218
          refine FL.v (E.nilCheck rfl) ?_
          refine FL.v (E.fieldAddr tf109_3 rfl) ?_
          refine FL.v (E.load rfl (run_load1 Tryz.isAgg9 ((at220.mono i57).now S216.sl) rfl)) ?_
          refine FL.v (E.lookup rfl rfl (S216.mapGet (P := Tryz.prog) (i := 2) rfl hm49 Tryz.runUnderlying104 (KeyNow.str Tryz.runUnderlying9) (z := 0) Tryz.zeroValue3 y217.text)) ?_
          refine FL.v (E.build (B3 rfl rfl rfl) (run_build _ 118 #[(0, Value.int .i64 6), (1, Value.int .i64 (wr ((len xs206) - 1))), (2, Value.int .i64 ((mget s47.1 y217.text).getD 0))] #[Value.int .i64 6, Value.int .i64 (wr ((len xs206) - 1)), Value.int .i64 ((mget s47.1 y217.text).getD 0)] (by rfl))) ?_
          obtain ⟨w225, run226, S227⟩ := S216.store0 (P := Tryz.prog) (t := 118) (i := 0) (cs' := [Value.int .i64 6, Value.int .i64 (wr ((len xs206) - 1)), Value.int .i64 ((mget s47.1 y217.text).getD 0)]) (l' := [.box b75 118 [Value.int .i64 6, Value.int .i64 (wr ((len xs206) - 1)), Value.int .i64 ((mget s47.1 y217.text).getD 0)], .row 101 1 v42 n43 cs44, .raw b30 o48, .row 118 3 v208 n209 cs210]) (v := Value.agg #[Value.int .i64 6, Value.int .i64 (wr ((len xs206) - 1)), Value.int .i64 ((mget s47.1 y217.text).getD 0)]) (c := [Value.int .i64 6, Value.int .i64 (wr ((len xs206) - 1)), Value.int .i64 ((mget s47.1 y217.text).getD 0)]) rfl Tryz.sizeOf118 rfl rfl (ones_cons rfl (ones_cons rfl (ones_cons rfl ones_nil))) (Nat.le_of_ble_eq_true rfl) rfl rfl
          refine FL.act rfl rfl (E.store rfl rfl run226) ?_
          refine FL.nil ?_
          obtain rfl := Option.some.inj hp
          exact ⟨rfl, ⟨_, _, _, _, _, S227, (Inc.rfl _), els214, (h74.mono i57), rfl, k62, rfl, rfl, k63, k64, k60⟩⟩
         ·
          refine FW.condF rfl c192 ?_
          refine FW.region ?_
          refine FL.v (E.move (v := Value.pointer (some q81)) rfl) ?_
          refine FL.v (E.nilCheck rfl) ?_
          refine FL.v (E.fieldAddr tf109_0 rfl) ?_
          refine FL.v (E.load rfl (run_load1 Tryz.isAgg5 ((at82.mono i57).now S78.sl) rfl)) ?_
          refine FL.v (E.subK rfl rfl) ?_
          refine FL.v (E.conv Tryz.runUnderlying5 Tryz.runUnderlying3 rfl) ?_
          refine FL.v (E.add rfl rfl) ?_
          refine FL.v (E.build (B2 rfl rfl) (run_build _ 118 #[(0, Value.int .i64 1), (1, Value.int .i64 (wr ((wrk true 64 (wrk false 8 (y79.op - 97))) + 1)))] #[Value.int .i64 1, Value.int .i64 (wr ((wrk true 64 (wrk false 8 (y79.op - 97))) + 1)), Value.int .i64 0] (by rfl))) ?_
          obtain ⟨w228, run229, S230⟩ := S78.store0 (P := Tryz.prog) (t := 118) (i := 0) (cs' := [Value.int .i64 1, Value.int .i64 (wr ((wrk true 64 (wrk false 8 (y79.op - 97))) + 1)), Value.int .i64 0]) (l' := [.box b75 118 [Value.int .i64 1, Value.int .i64 (wr ((wrk true 64 (wrk false 8 (y79.op - 97))) + 1)), Value.int .i64 0], .row 101 1 v42 n43 cs44, .raw b30 o48, .row 118 3 v51 n52 cs53]) (v := Value.agg #[Value.int .i64 1, Value.int .i64 (wr ((wrk true 64 (wrk false 8 (y79.op - 97))) + 1)), Value.int .i64 0]) (c := [Value.int .i64 1, Value.int .i64 (wr ((wrk true 64 (wrk false 8 (y79.op - 97))) + 1)), Value.int .i64 0]) rfl Tryz.sizeOf118 rfl rfl (ones_cons rfl (ones_cons rfl (ones_cons rfl ones_nil))) (Nat.le_of_ble_eq_true rfl) rfl rfl
          refine FL.act rfl rfl (E.store rfl rfl run229) ?_
          refine FL.nil ?_
          obtain rfl := Option.some.inj hp
          exact ⟨rfl, ⟨_, _, _, _, _, S230, (Inc.rfl _), els54, (h74.mono i57), k61, k62, rfl, rfl, k63, k64, k60⟩⟩
   ·
    rintro s87 rfl f235 w234 ⟨H231, v90, n91, cs92, v94, S232, i233, els93, h95, k236, k237, k238, k239, k240, k241, k242⟩
    replace hp := el_go hp
    refine FW.seq (FW.region ?_)
    refine FL.v (E.move k236) ?_
    refine FL.v (E.load k239 (run_loadA Tryz.isAgg118 Tryz.sizeOf118 (S232.box_now (i := 0) rfl) rfl)) ?_
    obtain ⟨v243, w244, run245, S246⟩ := S232.buildSlice (P := Tryz.prog) te50 [Value.agg #[Value.int .i64 s87.2.1, Value.int .i64 s87.2.2.1, Value.int .i64 s87.2.2.2.1]] (parts := #[(0, Value.agg #[Value.int .i64 s87.2.1, Value.int .i64 s87.2.2.1, Value.int .i64 s87.2.2.2.1])]) (cells := [Value.int .i64 s87.2.1, Value.int .i64 s87.2.2.1, Value.int .i64 s87.2.2.2.1]) rfl (szs_cons rfl szs_nil) (fc_cons rfl fc_nil) (ones_cons rfl (ones_cons rfl (ones_cons rfl ones_nil))) (Nat.le_of_ble_eq_true rfl)
    have els247 : Els (up wa.heap.size H231) eGate 3 [Value.int .i64 s87.2.1, Value.int .i64 s87.2.2.1, Value.int .i64 s87.2.2.2.1] [(Gate.mk s87.2.1 s87.2.2.1 s87.2.2.2.1)] := (Els.snoc (H := (up wa.heap.size H231)) (E := eGate) (k := 3) (c := [Value.int .i64 s87.2.1, Value.int .i64 s87.2.2.1, Value.int .i64 s87.2.2.2.1]) (x := (Gate.mk s87.2.1 s87.2.2.1 s87.2.2.2.1)) Els.nil rfl rfl)
    refine FL.v (E.buildSlice (B1 rfl) run245) ?_
    obtain ⟨xs248, hz249, hp⟩ := bnd hp
    obtain ⟨v250, w253, n251, cs252, run254, S255, els256, ce257⟩ := S246.appendO (P := Tryz.prog) te50 (i := 4) (j := 0) rfl els93 rfl els247 hz249
    have S255 : St Ha wa H231 w253 [.row 118 3 v243 1 [Value.int .i64 s87.2.1, Value.int .i64 s87.2.2.1, Value.int .i64 s87.2.2.2.1], .box b75 118 [Value.int .i64 s87.2.1, Value.int .i64 s87.2.2.1, Value.int .i64 s87.2.2.2.1], .row 101 1 v42 n43 cs44, .raw b30 o48, .row 118 3 v250 n251 cs252] := S255
    have S258 : St Ha wa H231 w253 [.box b75 118 [Value.int .i64 s87.2.1, Value.int .i64 s87.2.2.1, Value.int .i64 s87.2.2.2.1], .row 101 1 v42 n43 cs44, .raw b30 o48, .row 118 3 v250 n251 cs252] := S255.drop 0
    refine FL.v (E.append rfl rfl run254) ?_
    refine FL.v (E.assign (v := v250) rfl) ?_
    refine FL.nil (FW.region ?_)
    refine FL.v (E.move k237) ?_
    refine FL.v (E.move k238) ?_
    obtain ⟨y259, hy260, hp⟩ := bnd hp
    obtain ⟨q261, v263, v264, rfl, at262, h265, h266⟩ := FAt.open h95 hy260
    refine FL.v (E.nilCheck rfl) ?_
    refine FL.v (E.fieldAddr tf109_3 rfl) ?_
    refine FL.v (E.load rfl (run_load1 Tryz.isAgg9 (at262.now S258.sl) rfl)) ?_
    refine FL.v (E.move (v := v250) rfl) ?_
    refine FL.v (E.lenO te50 rfl S258 (i := 3) rfl els256 (by decide)) ?_
    refine FL.v (E.sub rfl rfl) ?_
    obtain ⟨o267, w268, run269, S270, hm271⟩ := S258.mapPut (P := Tryz.prog) (i := 2) rfl hm49 Tryz.runUnderlying104 (KeyNow.str Tryz.runUnderlying9) y259.text (wr ((len xs248) - 1))
    have S270 : St Ha wa H231 w268 [.box b75 118 [Value.int .i64 s87.2.1, Value.int .i64 s87.2.2.1, Value.int .i64 s87.2.2.2.1], .row 101 1 v42 n43 cs44, .raw b30 o267, .row 118 3 v250 n251 cs252] := S270
    refine FL.act rfl rfl (E.mapUpdate rfl rfl rfl run269) ?_
    refine FL.nil (FW.region ?_)
    refine FL.v (E.add k242 rfl) ?_
    refine FL.v (E.move (v := Value.int .i64 (wr (((i47 : Nat) : Int) + 1))) rfl) ?_
    refine FL.nil ?_
    obtain rfl := Option.some.inj hp
    exact ⟨rfl, ⟨_, _, _, _, _, (S270.sel [1, 2, 3] (by decide) rfl), (i57.tr i233), hm271, els256, (nat_succ rfl hj47 (chk_le hchk47)), rfl, k237, k240, k241⟩⟩
   ·
    intro x89; exact x89.elim
  ·
   clear hp hq
   rintro s47 f284 w283 ⟨H280, o48, v51, n52, cs53, S281, i282, hm49, els54, k285, k286, k287, k288, k289⟩
   refine FW.seq (FW.region ?_)
   refine FL.v (E.lss k285 k289) ?_
   refine FL.nil (FW.seq ?_)
   refine FW.condF rfl (dlt_maxchk hchk47) ?_
   refine FW.exit ?_
   exact ⟨nofun, rfl, ⟨_, _, _, _, _, S281, i282, hm49, els54, k286⟩⟩
  ·
   clear hq
   intro e f277 w276 hD
   rcases q47 with s47 | x47
   ·
    obtain ⟨rfl, hD⟩ := hD
    obtain ⟨H273, o48, v51, n52, cs53, S274, i275, hm49, els54, k278⟩ := hD
    replace hp := el_go hp
    refine FW.seq (FW.seq (FW.region ?_))
    refine FL.v (E.move k278) ?_
    refine FL.v (E.lenO te50 rfl S274 (i := 2) rfl els54 (by decide)) ?_
    refine FL.v (E.gtr rfl rfl) ?_
    refine FL.nil ?_
    rcases ifB hp with ⟨c279, hp⟩ | ⟨c279, hp⟩
    ·
     refine FW.condT rfl c279 ?_
     refine FW.seq (FW.region ?_)
     refine FL.v (E.assign (v := Value.slice none 0 0) rfl) ?_
     refine FL.v (E.assign (v := Value.bool false) rfl) ?_
     refine FL.nil ?_
     refine FW.ret ?_
     obtain rfl := Option.some.inj hp
     exact ⟨.inr rfl, res2 rfl rfl rfl ⟨_, _, _, _, rfl, ((S274.nil 118 3).sel [0] (by decide) rfl), Els.nil⟩⟩
    ·
     refine FW.condF rfl c279 ?_
     refine FW.skip (FW.seq (FW.region ?_))
     refine FL.v (E.move k278) ?_
     refine FL.v (E.assign (v := v51) rfl) ?_
     refine FL.v (E.assign (v := Value.bool true) rfl) ?_
     refine FL.nil ?_
     refine FW.ret ?_
     obtain rfl := Option.some.inj hp
     exact ⟨.inr rfl, res2 rfl rfl rfl ⟨_, _, _, _, rfl, (S274.sel [2] (by decide) rfl), els54⟩⟩
   ·
    exact x47.elim

@[reducible] def p_spec_CircuitOfFormula (Ha : GH) (wa : World) (r : ((List Gate) × Bool)) : Ending → World → Prop :=
 fun e w' => ∃ H' : GH, ∃ v0 : Value, ∃ n0 : Nat, ∃ c0 : List Value, e = .returned (Value.tuple #[v0, Value.bool r.2]) ∧ St Ha wa H' w' [.row 118 3 v0 n0 c0] ∧ Els (up wa.heap.size H') eGate 3 c0 r.1
set_option maxHeartbeats 4000000 in
theorem w_spec_CircuitOfFormula {Ha : GH} {wa : World} (hs : Sl Ha wa) (a0 : ByteArray) {r : ((List Gate) × Bool)} (hp : (PF.spec_CircuitOfFormula a0) = some r) :
  Calls Tryz.prog 34 #[Value.string a0] wa (p_spec_CircuitOfFormula Ha wa r) := by
 unfold PF.spec_CircuitOfFormula at hp
 have S0 := St.init hs
 refine calls_go (N := 131) (args := [Value.string a0]) Tryz.func34 rfl rfl rfl ?_
 refine FW.seq (FW.region ?_)
 refine FL.v (E.assign (v := Value.slice none 0 0) rfl) ?_
 refine FL.v (E.assign (v := Value.bool false) rfl) ?_
 refine FL.nil (FW.seq (FW.region ?_))
 obtain ⟨v21, w22, run23, S24⟩ := S0.buildSlice (P := Tryz.prog) te50 [] (parts := #[]) (cells := []) rfl szs_nil fc_nil ones_nil (Nat.le_of_ble_eq_true rfl)
 have els25 : Els (up wa.heap.size Ha) eGate 3 [] [] := Els.nil
 refine FL.v (E.buildSlice (B0) run23) ?_
 refine FL.v (E.assign (v := v21) rfl) ?_
 refine FL.nil (FW.seq (FW.seq (FW.region ?_)))
 refine FL.v (E.move (v := Value.string a0) rfl) ?_
 obtain ⟨r26, hr27, hp⟩ := bnd hp
 refine FL.call rfl rfl rfl (E.call Tryz.call48 (A1 rfl)) (w_spec_l22Good S24.sl a0 hr27) ?_
 rintro e w28 ⟨rfl, r29⟩
 refine ⟨_, rfl, ?_⟩
 have S30 := S24.call r29
 refine FL.v (E.not rfl) ?_
 refine FL.nil ?_
 rcases ifB hp with ⟨c31, hp⟩ | ⟨c31, hp⟩
 ·
  refine FW.condT rfl c31 ?_
  refine FW.seq (FW.region ?_)
  refine FL.v (E.move (v := v21) rfl) ?_
  refine FL.v (E.assign (v := v21) rfl) ?_
  refine FL.v (E.assign (v := Value.bool false) rfl) ?_
  refine FL.nil ?_
  refine FW.ret ?_
  obtain rfl := Option.some.inj hp
  exact ⟨.inr rfl, res2 rfl rfl rfl ⟨_, _, _, _, rfl, S30, els25⟩⟩
 ·
  refine FW.condF rfl c31 ?_
  refine FW.skip (FW.seq (FW.region ?_))
  obtain ⟨v32, w33, run34, S35⟩ := S30.buildSlice (P := Tryz.prog) te22 [] (parts := #[]) (cells := []) rfl szs_nil fc_nil ones_nil (Nat.le_of_ble_eq_true rfl)
  have els36 : Els (up wa.heap.size Ha) eS 1 [] [] := Els.nil
  refine FL.v (E.buildSlice (B0) run34) ?_
  refine FL.v (E.move (v := Value.string a0) rfl) ?_
  obtain ⟨H37, S38, i39, h40, nv41⟩ := S35.sealRowU (i := 0) (l' := [.row 118 3 v21 0 []]) rfl els36 (by decide) rfl
  obtain ⟨r42, hr43, hp⟩ := bnd hp
  refine FL.call rfl rfl rfl (E.call Tryz.call83 (A2 rfl rfl)) (w_spec_l22All S38.sl v32 [] (h40.mono upI) a0 hr43) ?_
  rintro e w45 ⟨H44, v48, rfl, r47, h49⟩
  refine ⟨_, rfl, ?_⟩
  have S46 := S38.call r47
  refine FL.v (E.assign (v := v48) rfl) ?_
  refine FL.nil (FW.seq (FW.region ?_))
  refine FL.v (E.move (v := v48) rfl) ?_
  refine FL.v (E.lenP te22 rfl h49) ?_
  obtain ⟨xs50, hm51, hp⟩ := bnd hp
  obtain ⟨v52, w53, n57, cs58, run54, S55, els56, hbl59⟩ := S46.makeEls (P := Tryz.prog) te82 (G := (up wa.heap.size H44)) (En := eI) (x0 := (0 : Int)) hm51 rfl (ones_cons rfl ones_nil) .i64 .i64
  refine FL.v (E.makeSlice rfl rfl run54) ?_
  refine FL.v (E.assign (v := v52) rfl) ?_
  refine FL.nil (FW.seq (FW.seq (FW.region ?_)))
  refine FL.v (E.assign (v := Value.int .i64 0) rfl) ?_
  refine FL.nil ?_
  obtain ⟨q61, hq, hp⟩ := bndR hp
  refine FW.block ?_
  refine FW.mono (FW.forL (S := ((List Int) × (List Gate))) (X := Empty) (fun (i61 : Nat) (s61 : ((List Int) × (List Gate))) f w => ∃ H : GH, ∃ v428 : Value, ∃ n429 : Nat, ∃ cs430 : List Value, ∃ v432 : Value, ∃ n433 : Nat, ∃ cs434 : List Value, St Ha wa H w [.row 3 1 v428 n429 cs430, .row 118 3 v432 n433 cs434] ∧ Inc H44 H ∧ Els (up wa.heap.size H) eI 1 cs430 s61.1 ∧ Els (up wa.heap.size H) eGate 3 cs434 s61.2 ∧ f 7 = Value.int .i64 ((i61 : Nat) : Int) ∧ f 4 = v432 ∧ f 5 = v48 ∧ f 6 = v428) (fun (q : Rs ((List Int) × (List Gate)) Empty) e f w => match q with | .go s61 => e = Exit.exit 0 ∧ (∃ H : GH, ∃ v428 : Value, ∃ n429 : Nat, ∃ cs430 : List Value, ∃ v432 : Value, ∃ n433 : Nat, ∃ cs434 : List Value, St Ha wa H w [.row 3 1 v428 n429 cs430, .row 118 3 v432 n433 cs434] ∧ Inc H44 H ∧ Els (up wa.heap.size H) eI 1 cs430 s61.1 ∧ Els (up wa.heap.size H) eGate 3 cs434 s61.2 ∧ f 4 = v432) | .rt x => x.elim) hq ⟨_, _, _, _, _, _, _, S55, (Inc.rfl _), els56, (els25.mono (up_mono (i39.tr r47.inc))), rfl, rfl, rfl, rfl⟩ ?_ ?_) ?_
  ·
   clear hp hq
   rintro i61 y60 s61 f801 w800 ⟨H797, v428, n429, cs430, v432, n433, cs434, S798, i799, els431, els435, k802, k803, k804, k805⟩ hx61 o288 hp
   refine FW.seq (FW.seq (FW.region ?_))
   refine FL.v (E.move k802) ?_
   refine FL.v (E.move k804) ?_
   refine FL.v (E.lenP te22 rfl h49) ?_
   refine FL.v (E.lssT rfl rfl (lss_len hx61)) ?_
   refine FL.nil ?_
   refine FW.condT rfl rfl ?_
   refine FW.skip (FW.seq (FW.block (FW.seq (FW.region ?_))))
   refine FL.v (E.move k804) ?_
   refine FL.v (E.move k802) ?_
   obtain ⟨p806, cs807, pt808, l809, at810, rel811⟩ := h49.at (ix_nat hx61)
   obtain rfl := eS_open rel811
   refine FL.v (E.indexAddr te22 rfl rfl pt808) ?_
   refine FL.v (E.load rfl (run_load0 Tryz.isAgg9 ((at810.mono i799).now S798.sl) rfl)) ?_
   obtain ⟨r812, hr813, hp⟩ := bnd hp
   refine FL.call rfl rfl rfl (E.call Tryz.call73 (A1 rfl)) (w_spec_l22Parts S798.sl y60 hr813) ?_
   rintro e w814 ⟨rfl, r815⟩
   refine ⟨_, rfl, ?_⟩
   have S816 := S798.call r815
   refine FL.v (E.move (v := Value.tuple #[Value.int .u8 r812.1, Value.string r812.2.1, Value.string r812.2.2]) rfl) ?_
   refine FL.v (E.extract (i := 0) rfl rfl) ?_
   refine FL.v (E.extract (i := 1) rfl rfl) ?_
   refine FL.v (E.extract (i := 2) rfl rfl) ?_
   refine FL.v (E.assign (v := Value.int .u8 r812.1) rfl) ?_
   refine FL.v (E.assign (v := Value.string r812.2.1) rfl) ?_
   refine FL.v (E.assign (v := Value.string r812.2.2) rfl) ?_
   refine FL.nil (FW.seq (FW.region ?_))
   refine FL.v (E.assign (v := Value.int .i64 0) rfl) ?_
   refine FL.v (E.assign (v := Value.int .i64 0) rfl) ?_
   refine FL.nil (FW.seq (FW.seq (FW.region ?_)))
   refine FL.v (E.assign (v := Value.int .i64 0) rfl) ?_
   refine FL.nil ?_
   obtain ⟨m817, hchk818, hp⟩ := bnd hp
   obtain ⟨q818, hq, hp⟩ := bndR hp
   refine FW.block ?_
   refine FW.mono (FW.forR (S := (Int × Int)) (X := Empty) (fun (i818 : Nat) (s818 : (Int × Int)) f w => ∃ H : GH, St Ha wa H w [.row 3 1 v428 n429 cs430, .row 118 3 v432 n433 cs434] ∧ Inc H797 H ∧ f 13 = Value.int .i64 ((i818 : Nat) : Int) ∧ f 4 = v432 ∧ f 5 = v48 ∧ f 6 = v428 ∧ f 7 = Value.int .i64 ((i61 : Nat) : Int) ∧ f 8 = Value.int .u8 r812.1 ∧ f 9 = Value.string r812.2.1 ∧ f 10 = Value.string r812.2.2 ∧ f 11 = Value.int .i64 s818.1 ∧ f 12 = Value.int .i64 s818.2) (fun (q : Rs (Int × Int) Empty) e f w => match q with | .go s818 => e = Exit.exit 2 ∧ (∃ H : GH, St Ha wa H w [.row 3 1 v428 n429 cs430, .row 118 3 v432 n433 cs434] ∧ Inc H797 H ∧ f 4 = v432 ∧ f 5 = v48 ∧ f 6 = v428 ∧ f 7 = Value.int .i64 ((i61 : Nat) : Int) ∧ f 8 = Value.int .u8 r812.1 ∧ f 11 = Value.int .i64 s818.1 ∧ f 12 = Value.int .i64 s818.2) | .rt x => x.elim) hq ⟨_, S816, (Inc.rfl _), rfl, k803, k804, k805, k802, rfl, rfl, rfl, rfl, rfl⟩ ?_ ?_) ?_
   ·
    clear hp hq
    rintro i818 s818 f889 w888 ⟨H885, S886, i887, k890, k891, k892, k893, k894, k895, k896, k897, k898, k899⟩ hi818 hj818 o951 hp
    refine FW.seq (FW.seq (FW.region ?_))
    refine FL.v (E.move k890) ?_
    refine FL.v (E.move k894) ?_
    refine FL.v (E.lssT rfl rfl (lss_chk hj818 hchk818)) ?_
    refine FL.nil ?_
    refine FW.condT rfl rfl ?_
    refine FW.skip (FW.seq (FW.block (FW.seq (FW.seq (FW.region ?_)))))
    refine FL.v (E.move k892) ?_
    refine FL.v (E.move k890) ?_
    obtain ⟨x906, hx907, hp⟩ := bnd hp
    obtain ⟨p900, cs901, pt902, l903, at904, rel905⟩ := h49.at hx907
    obtain rfl := eS_open rel905
    refine FL.v (E.indexAddr te22 rfl rfl pt902) ?_
    refine FL.v (E.load rfl (run_load0 Tryz.isAgg9 ((at904.mono (i799.tr i887)).now S886.sl) rfl)) ?_
    refine FL.v (E.move k896) ?_
    refine FL.v (E.eqlS rfl rfl) ?_
    refine FL.nil ?_
    rcases ifB hp with ⟨c908, hp⟩ | ⟨c908, hp⟩
    ·
     refine FW.condT rfl c908 ?_
     refine FW.region ?_
     refine FL.v (E.move k893) ?_
     refine FL.v (E.move k890) ?_
     obtain ⟨x915, hx916, hp⟩ := bnd hp
     obtain ⟨p909, cs910, pt911, l912, at913, rel914⟩ := S886.row_at (i := 0) rfl els431 (by decide) hx916
     obtain rfl := eI_open rel914
     refine FL.v (E.indexAddr te82 rfl rfl pt911) ?_
     refine FL.v (E.load rfl (run_load0 Tryz.isAgg3 at913 rfl)) ?_
     refine FL.v (E.assign (v := Value.int .i64 x915) rfl) ?_
     refine FL.nil (FW.seq (FW.region ?_))
     refine FL.v (E.move k892) ?_
     refine FL.v (E.move k890) ?_
     obtain ⟨x923, hx924, hp⟩ := bnd hp
     obtain ⟨p917, cs918, pt919, l920, at921, rel922⟩ := h49.at hx924
     obtain rfl := eS_open rel922
     refine FL.v (E.indexAddr te22 rfl rfl pt919) ?_
     refine FL.v (E.load rfl (run_load0 Tryz.isAgg9 ((at921.mono (i799.tr i887)).now S886.sl) rfl)) ?_
     refine FL.v (E.move k897) ?_
     refine FL.v (E.eqlS rfl rfl) ?_
     refine FL.nil ?_
     rcases ifB hp with ⟨c925, hp⟩ | ⟨c925, hp⟩
     ·
      refine FW.condT rfl c925 ?_
      refine FW.region ?_
      refine FL.v (E.move k893) ?_
      refine FL.v (E.move k890) ?_
      obtain ⟨x932, hx933, hp⟩ := bnd hp
      obtain ⟨p926, cs927, pt928, l929, at930, rel931⟩ := S886.row_at (i := 0) rfl els431 (by decide) hx933
      obtain rfl := eI_open rel931
      refine FL.v (E.indexAddr te82 rfl rfl pt928) ?_
      refine FL.v (E.load rfl (run_load0 Tryz.isAgg3 at930 rfl)) ?_
      refine FL.v (E.assign (v := Value.int .i64 x932) rfl) ?_
      refine FL.nil (FW.region ?_)
      refine FL.v (E.move k890) ?_
      refine FL.v (E.add rfl rfl) ?_
      refine FL.v (E.assign (v := Value.int .i64 (wr (((i818 : Nat) : Int) + 1))) rfl) ?_
      refine FL.nil ?_
      obtain rfl := Option.some.inj hp
      exact ⟨rfl, ⟨_, S886, i887, (nat_succ rfl hj818 (chk_le hchk818)), k891, k892, k893, k894, k895, k896, k897, rfl, rfl⟩⟩
     ·
      refine FW.condF rfl c925 ?_
      refine FW.skip (FW.region ?_)
      refine FL.v (E.move k890) ?_
      refine FL.v (E.add rfl rfl) ?_
      refine FL.v (E.assign (v := Value.int .i64 (wr (((i818 : Nat) : Int) + 1))) rfl) ?_
      refine FL.nil ?_
      obtain rfl := Option.some.inj hp
      exact ⟨rfl, ⟨_, S886, i887, (nat_succ rfl hj818 (chk_le hchk818)), k891, k892, k893, k894, k895, k896, k897, rfl, k899⟩⟩
    ·
     refine FW.condF rfl c908 ?_
     refine FW.skip (FW.seq (FW.region ?_))
     refine FL.v (E.move k892) ?_
     refine FL.v (E.move k890) ?_
     obtain ⟨x940, hx941, hp⟩ := bnd hp
     obtain ⟨p934, cs935, pt936, l937, at938, rel939⟩ := h49.at hx941
     obtain rfl := eS_open rel939
     refine FL.v (E.indexAddr te22 rfl rfl pt936) ?_
     refine FL.v (E.load rfl (run_load0 Tryz.isAgg9 ((at938.mono (i799.tr i887)).now S886.sl) rfl)) ?_
     refine FL.v (E.move k897) ?_
     refine FL.v (E.eqlS rfl rfl) ?_
     refine FL.nil ?_
     rcases ifB hp with ⟨c942, hp⟩ | ⟨c942, hp⟩
     ·
      refine FW.condT rfl c942 ?_
      refine FW.region ?_
      refine FL.v (E.move k893) ?_
      refine FL.v (E.move k890) ?_
      obtain ⟨x949, hx950, hp⟩ := bnd hp
      obtain ⟨p943, cs944, pt945, l946, at947, rel948⟩ := S886.row_at (i := 0) rfl els431 (by decide) hx950
      obtain rfl := eI_open rel948
      refine FL.v (E.indexAddr te82 rfl rfl pt945) ?_
      refine FL.v (E.load rfl (run_load0 Tryz.isAgg3 at947 rfl)) ?_
      refine FL.v (E.assign (v := Value.int .i64 x949) rfl) ?_
      refine FL.nil (FW.region ?_)
      refine FL.v (E.move k890) ?_
      refine FL.v (E.add rfl rfl) ?_
      refine FL.v (E.assign (v := Value.int .i64 (wr (((i818 : Nat) : Int) + 1))) rfl) ?_
      refine FL.nil ?_
      obtain rfl := Option.some.inj hp
      exact ⟨rfl, ⟨_, S886, i887, (nat_succ rfl hj818 (chk_le hchk818)), k891, k892, k893, k894, k895, k896, k897, k898, rfl⟩⟩
     ·
      refine FW.condF rfl c942 ?_
      refine FW.skip (FW.region ?_)
      refine FL.v (E.move k890) ?_
      refine FL.v (E.add rfl rfl) ?_
      refine FL.v (E.assign (v := Value.int .i64 (wr (((i818 : Nat) : Int) + 1))) rfl) ?_
      refine FL.nil ?_
      obtain rfl := Option.some.inj hp
      exact ⟨rfl, ⟨_, S886, i887, (nat_succ rfl hj818 (chk_le hchk818)), k891, k892, k893, k894, k895, k896, k897, k898, k899⟩⟩
   ·
    clear hp hq
    rintro s818 f277 w276 ⟨H273, S274, i275, k278, k279, k280, k281, k282, k283, k284, k285, k286, k287⟩
    refine FW.seq (FW.seq (FW.region ?_))
    refine FL.v (E.move k278) ?_
    refine FL.v (E.move k282) ?_
    refine FL.v (E.lss rfl rfl) ?_
    refine FL.nil ?_
    refine FW.condF rfl (dlt_maxchk hchk818) ?_
    refine FW.exit ?_
    exact ⟨nofun, rfl, ⟨_, S274, i275, k279, k280, k281, k282, k283, k286, k287⟩⟩
   ·
    clear hq
    intro e f956 w955 hD
    rcases q818 with s818 | x818
    ·
     obtain ⟨rfl, hD⟩ := hD
     obtain ⟨H952, S953, i954, k957, k958, k959, k960, k961, k962, k963⟩ := hD
     replace hp := el_go hp
     refine FW.seq (FW.seq (FW.region ?_))
     refine FL.v (E.move k961) ?_
     refine FL.nil (FW.block (FW.seq (FW.region ?_)))
     refine FL.v (E.eql rfl rfl) ?_
     refine FL.v (E.assign (v := Value.bool (r812.1 == 48)) rfl) ?_
     refine FL.nil ?_
     rcases ifB hp with ⟨c964, hp⟩ | ⟨c964, hp⟩
     ·
      refine FW.condT rfl c964 ?_
      refine FW.region ?_
      refine FL.v (E.move k957) ?_
      refine FL.v (E.build (B1 rfl) (run_build _ 118 #[(0, Value.int .i64 3)] #[Value.int .i64 3, Value.int .i64 0, Value.int .i64 0] (by rfl))) ?_
      obtain ⟨v965, w966, run967, S968⟩ := S953.buildSlice (P := Tryz.prog) te50 [Value.agg #[Value.int .i64 3, Value.int .i64 0, Value.int .i64 0]] (parts := #[(0, Value.agg #[Value.int .i64 3, Value.int .i64 0, Value.int .i64 0])]) (cells := [Value.int .i64 3, Value.int .i64 0, Value.int .i64 0]) rfl (szs_cons rfl szs_nil) (fc_cons rfl fc_nil) (ones_cons rfl (ones_cons rfl (ones_cons rfl ones_nil))) (Nat.le_of_ble_eq_true rfl)
      have els969 : Els (up wa.heap.size H952) eGate 3 [Value.int .i64 3, Value.int .i64 0, Value.int .i64 0] [(Gate.mk 3 0 0)] := (Els.snoc (H := (up wa.heap.size H952)) (E := eGate) (k := 3) (c := [Value.int .i64 3, Value.int .i64 0, Value.int .i64 0]) (x := (Gate.mk 3 0 0)) Els.nil rfl rfl)
      refine FL.v (E.buildSlice (B1 rfl) run967) ?_
      obtain ⟨xs970, hz971, hp⟩ := bnd hp
      obtain ⟨v972, w975, n973, cs974, run976, S977, els978, ce979⟩ := S968.appendO (P := Tryz.prog) te50 (i := 2) (j := 0) rfl (els435.mono (up_mono i954)) rfl els969 hz971
      have S977 : St Ha wa H952 w975 [.row 118 3 v965 1 [Value.int .i64 3, Value.int .i64 0, Value.int .i64 0], .row 3 1 v428 n429 cs430, .row 118 3 v972 n973 cs974] := S977
      have S980 : St Ha wa H952 w975 [.row 3 1 v428 n429 cs430, .row 118 3 v972 n973 cs974] := S977.drop 0
      refine FL.v (E.append rfl rfl run976) ?_
      refine FL.v (E.assign (v := v972) rfl) ?_
      refine FL.nil (FW.region ?_)
      refine FL.v (E.move k959) ?_
      refine FL.v (E.move k960) ?_
      refine FL.v (E.move (v := v972) rfl) ?_
      refine FL.v (E.lenO te50 rfl S980 (i := 1) rfl els978 (by decide)) ?_
      refine FL.v (E.sub rfl rfl) ?_
      obtain ⟨x987, hx988, hp⟩ := bnd hp
      obtain ⟨p981, cs982, pt983, l984, at985, rel986⟩ := S980.row_at (i := 0) rfl els431 (by decide) hx988
      obtain rfl := eI_open rel986
      refine FL.v (E.indexAddr te82 rfl rfl pt983) ?_
      obtain ⟨xs992, hput993, hp⟩ := bnd hp
      obtain ⟨w989, cs995, run990, S991, els994, ce996⟩ := S980.putEls (P := Tryz.prog) (t := 3) (i := 0) rfl (els431.mono (up_mono i954)) hput993 pt983 Tryz.sizeOf3 (u := Value.int .i64 (wr ((len xs970) - 1))) (c := [Value.int .i64 (wr ((len xs970) - 1))]) rfl rfl (ones_cons rfl ones_nil) rfl
      have S991 : St Ha wa H952 w989 [.row 3 1 v428 n429 cs995, .row 118 3 v972 n973 cs974] := S991
      refine FL.act rfl rfl (E.store rfl rfl run990) ?_
      refine FL.nil (FW.region ?_)
      refine FL.v (E.move k960) ?_
      refine FL.v (E.add rfl rfl) ?_
      refine FL.v (E.assign (v := Value.int .i64 (wr (((i61 : Nat) : Int) + 1))) rfl) ?_
      refine FL.nil ?_
      obtain rfl := Option.some.inj hp
      exact ⟨rfl, ⟨_, _, _, _, _, _, _, S991, (i799.tr i954), els994, els978, (nat_succ rfl (lt_of_get hx61) (h49.mono (i799.tr i954)).le), rfl, k958, k959⟩⟩
     ·
      refine FW.condF rfl c964 ?_
      refine FW.seq (FW.region ?_)
      refine FL.v (E.eql rfl rfl) ?_
      refine FL.v (E.assign (v := Value.bool (r812.1 == 49)) rfl) ?_
      refine FL.nil ?_
      rcases ifB hp with ⟨c997, hp⟩ | ⟨c997, hp⟩
      ·
       refine FW.condT rfl c997 ?_
       refine FW.region ?_
       refine FL.v (E.move k957) ?_
       refine FL.v (E.build (B1 rfl) (run_build _ 118 #[(0, Value.int .i64 2)] #[Value.int .i64 2, Value.int .i64 0, Value.int .i64 0] (by rfl))) ?_
       obtain ⟨v998, w999, run62, S63⟩ := S953.buildSlice (P := Tryz.prog) te50 [Value.agg #[Value.int .i64 2, Value.int .i64 0, Value.int .i64 0]] (parts := #[(0, Value.agg #[Value.int .i64 2, Value.int .i64 0, Value.int .i64 0])]) (cells := [Value.int .i64 2, Value.int .i64 0, Value.int .i64 0]) rfl (szs_cons rfl szs_nil) (fc_cons rfl fc_nil) (ones_cons rfl (ones_cons rfl (ones_cons rfl ones_nil))) (Nat.le_of_ble_eq_true rfl)
       have els64 : Els (up wa.heap.size H952) eGate 3 [Value.int .i64 2, Value.int .i64 0, Value.int .i64 0] [(Gate.mk 2 0 0)] := (Els.snoc (H := (up wa.heap.size H952)) (E := eGate) (k := 3) (c := [Value.int .i64 2, Value.int .i64 0, Value.int .i64 0]) (x := (Gate.mk 2 0 0)) Els.nil rfl rfl)
       refine FL.v (E.buildSlice (B1 rfl) run62) ?_
       obtain ⟨xs65, hz66, hp⟩ := bnd hp
       obtain ⟨v67, w70, n68, cs69, run71, S72, els73, ce74⟩ := S63.appendO (P := Tryz.prog) te50 (i := 2) (j := 0) rfl (els435.mono (up_mono i954)) rfl els64 hz66
       have S72 : St Ha wa H952 w70 [.row 118 3 v998 1 [Value.int .i64 2, Value.int .i64 0, Value.int .i64 0], .row 3 1 v428 n429 cs430, .row 118 3 v67 n68 cs69] := S72
       have S75 : St Ha wa H952 w70 [.row 3 1 v428 n429 cs430, .row 118 3 v67 n68 cs69] := S72.drop 0
       refine FL.v (E.append rfl rfl run71) ?_
       refine FL.v (E.assign (v := v67) rfl) ?_
       refine FL.nil (FW.region ?_)
       refine FL.v (E.move k959) ?_
       refine FL.v (E.move k960) ?_
       refine FL.v (E.move (v := v67) rfl) ?_
       refine FL.v (E.lenO te50 rfl S75 (i := 1) rfl els73 (by decide)) ?_
       refine FL.v (E.sub rfl rfl) ?_
       obtain ⟨x83, hx84, hp⟩ := bnd hp
       obtain ⟨p76, cs77, pt78, l79, at80, rel81⟩ := S75.row_at (i := 0) rfl els431 (by decide) hx84
       obtain rfl := eI_open rel81
       refine FL.v (E.indexAddr te82 rfl rfl pt78) ?_
       obtain ⟨xs88, hput89, hp⟩ := bnd hp
       obtain ⟨w85, cs91, run86, S87, els90, ce92⟩ := S75.putEls (P := Tryz.prog) (t := 3) (i := 0) rfl (els431.mono (up_mono i954)) hput89 pt78 Tryz.sizeOf3 (u := Value.int .i64 (wr ((len xs65) - 1))) (c := [Value.int .i64 (wr ((len xs65) - 1))]) rfl rfl (ones_cons rfl ones_nil) rfl
       have S87 : St Ha wa H952 w85 [.row 3 1 v428 n429 cs91, .row 118 3 v67 n68 cs69] := S87
       refine FL.act rfl rfl (E.store rfl rfl run86) ?_
       refine FL.nil (FW.region ?_)
       refine FL.v (E.move k960) ?_
       refine FL.v (E.add rfl rfl) ?_
       refine FL.v (E.assign (v := Value.int .i64 (wr (((i61 : Nat) : Int) + 1))) rfl) ?_
       refine FL.nil ?_
       obtain rfl := Option.some.inj hp
       exact ⟨rfl, ⟨_, _, _, _, _, _, _, S87, (i799.tr i954), els90, els73, (nat_succ rfl (lt_of_get hx61) (h49.mono (i799.tr i954)).le), rfl, k958, k959⟩⟩
      ·
       refine FW.condF rfl c997 ?_
       refine FW.seq (FW.region ?_)
       refine FL.v (E.eql rfl rfl) ?_
       refine FL.v (E.assign (v := Value.bool (r812.1 == 126)) rfl) ?_
       refine FL.nil ?_
       rcases ifB hp with ⟨c93, hp⟩ | ⟨c93, hp⟩
       ·
        refine FW.condT rfl c93 ?_
        refine FW.region ?_
        refine FL.v (E.move k957) ?_
        refine FL.v (E.move k962) ?_
        refine FL.v (E.build (B2 rfl rfl) (run_build _ 118 #[(0, Value.int .i64 4), (1, Value.int .i64 s818.1)] #[Value.int .i64 4, Value.int .i64 s818.1, Value.int .i64 0] (by rfl))) ?_
        obtain ⟨v94, w95, run96, S97⟩ := S953.buildSlice (P := Tryz.prog) te50 [Value.agg #[Value.int .i64 4, Value.int .i64 s818.1, Value.int .i64 0]] (parts := #[(0, Value.agg #[Value.int .i64 4, Value.int .i64 s818.1, Value.int .i64 0])]) (cells := [Value.int .i64 4, Value.int .i64 s818.1, Value.int .i64 0]) rfl (szs_cons rfl szs_nil) (fc_cons rfl fc_nil) (ones_cons rfl (ones_cons rfl (ones_cons rfl ones_nil))) (Nat.le_of_ble_eq_true rfl)
        have els98 : Els (up wa.heap.size H952) eGate 3 [Value.int .i64 4, Value.int .i64 s818.1, Value.int .i64 0] [(Gate.mk 4 s818.1 0)] := (Els.snoc (H := (up wa.heap.size H952)) (E := eGate) (k := 3) (c := [Value.int .i64 4, Value.int .i64 s818.1, Value.int .i64 0]) (x := (Gate.mk 4 s818.1 0)) Els.nil rfl rfl)
        refine FL.v (E.buildSlice (B1 rfl) run96) ?_
        obtain ⟨xs99, hz100, hp⟩ := bnd hp
        obtain ⟨v101, w104, n102, cs103, run105, S106, els107, ce108⟩ := S97.appendO (P := Tryz.prog) te50 (i := 2) (j := 0) rfl (els435.mono (up_mono i954)) rfl els98 hz100
        have S106 : St Ha wa H952 w104 [.row 118 3 v94 1 [Value.int .i64 4, Value.int .i64 s818.1, Value.int .i64 0], .row 3 1 v428 n429 cs430, .row 118 3 v101 n102 cs103] := S106
        have S109 : St Ha wa H952 w104 [.row 3 1 v428 n429 cs430, .row 118 3 v101 n102 cs103] := S106.drop 0
        refine FL.v (E.append rfl rfl run105) ?_
        refine FL.v (E.assign (v := v101) rfl) ?_
        refine FL.nil (FW.region ?_)
        refine FL.v (E.move k959) ?_
        refine FL.v (E.move k960) ?_
        refine FL.v (E.move (v := v101) rfl) ?_
        refine FL.v (E.lenO te50 rfl S109 (i := 1) rfl els107 (by decide)) ?_
        refine FL.v (E.sub rfl rfl) ?_
        obtain ⟨x116, hx117, hp⟩ := bnd hp
        obtain ⟨p110, cs111, pt112, l113, at114, rel115⟩ := S109.row_at (i := 0) rfl els431 (by decide) hx117
        obtain rfl := eI_open rel115
        refine FL.v (E.indexAddr te82 rfl rfl pt112) ?_
        obtain ⟨xs121, hput122, hp⟩ := bnd hp
        obtain ⟨w118, cs124, run119, S120, els123, ce125⟩ := S109.putEls (P := Tryz.prog) (t := 3) (i := 0) rfl (els431.mono (up_mono i954)) hput122 pt112 Tryz.sizeOf3 (u := Value.int .i64 (wr ((len xs99) - 1))) (c := [Value.int .i64 (wr ((len xs99) - 1))]) rfl rfl (ones_cons rfl ones_nil) rfl
        have S120 : St Ha wa H952 w118 [.row 3 1 v428 n429 cs124, .row 118 3 v101 n102 cs103] := S120
        refine FL.act rfl rfl (E.store rfl rfl run119) ?_
        refine FL.nil (FW.region ?_)
        refine FL.v (E.move k960) ?_
        refine FL.v (E.add rfl rfl) ?_
        refine FL.v (E.assign (v := Value.int .i64 (wr (((i61 : Nat) : Int) + 1))) rfl) ?_
        refine FL.nil ?_
        obtain rfl := Option.some.inj hp
        exact ⟨rfl, ⟨_, _, _, _, _, _, _, S120, (i799.tr i954), els123, els107, (nat_succ rfl (lt_of_get hx61) (h49.mono (i799.tr i954)).le), rfl, k958, k959⟩⟩
       ·
        refine FW.condF rfl c93 ?_
        refine FW.seq (FW.region ?_)
        refine FL.v (E.eql rfl rfl) ?_
        refine FL.v (E.assign (v := Value.bool (r812.1 == 38)) rfl) ?_
        refine FL.nil ?_
        rcases ifB hp with ⟨c126, hp⟩ | ⟨c126, hp⟩
        ·
         refine FW.condT rfl c126 ?_
         refine FW.region ?_
         refine FL.v (E.move k957) ?_
         refine FL.v (E.move k962) ?_
         refine FL.v (E.move k963) ?_
         refine FL.v (E.build (B3 rfl rfl rfl) (run_build _ 118 #[(0, Value.int .i64 5), (1, Value.int .i64 s818.1), (2, Value.int .i64 s818.2)] #[Value.int .i64 5, Value.int .i64 s818.1, Value.int .i64 s818.2] (by rfl))) ?_
         obtain ⟨v127, w128, run129, S130⟩ := S953.buildSlice (P := Tryz.prog) te50 [Value.agg #[Value.int .i64 5, Value.int .i64 s818.1, Value.int .i64 s818.2]] (parts := #[(0, Value.agg #[Value.int .i64 5, Value.int .i64 s818.1, Value.int .i64 s818.2])]) (cells := [Value.int .i64 5, Value.int .i64 s818.1, Value.int .i64 s818.2]) rfl (szs_cons rfl szs_nil) (fc_cons rfl fc_nil) (ones_cons rfl (ones_cons rfl (ones_cons rfl ones_nil))) (Nat.le_of_ble_eq_true rfl)
         have els131 : Els (up wa.heap.size H952) eGate 3 [Value.int .i64 5, Value.int .i64 s818.1, Value.int .i64 s818.2] [(Gate.mk 5 s818.1 s818.2)] := (Els.snoc (H := (up wa.heap.size H952)) (E := eGate) (k := 3) (c := [Value.int .i64 5, Value.int .i64 s818.1, Value.int .i64 s818.2]) (x := (Gate.mk 5 s818.1 s818.2)) Els.nil rfl rfl)
         refine FL.v (E.buildSlice (B1 rfl) run129) ?_
         obtain ⟨xs132, hz133, hp⟩ := bnd hp
         obtain ⟨v134, w137, n135, cs136, run138, S139, els140, ce141⟩ := S130.appendO (P := Tryz.prog) te50 (i := 2) (j := 0) rfl (els435.mono (up_mono i954)) rfl els131 hz133
         have S139 : St Ha wa H952 w137 [.row 118 3 v127 1 [Value.int .i64 5, Value.int .i64 s818.1, Value.int .i64 s818.2], .row 3 1 v428 n429 cs430, .row 118 3 v134 n135 cs136] := S139
         have S142 : St Ha wa H952 w137 [.row 3 1 v428 n429 cs430, .row 118 3 v134 n135 cs136] := S139.drop 0
         refine FL.v (E.append rfl rfl run138) ?_
         refine FL.v (E.assign (v := v134) rfl) ?_
         refine FL.nil (FW.region ?_)
         refine FL.v (E.move k959) ?_
         refine FL.v (E.move k960) ?_
         refine FL.v (E.move (v := v134) rfl) ?_
         refine FL.v (E.lenO te50 rfl S142 (i := 1) rfl els140 (by decide)) ?_
         refine FL.v (E.sub rfl rfl) ?_
         obtain ⟨x149, hx150, hp⟩ := bnd hp
         obtain ⟨p143, cs144, pt145, l146, at147, rel148⟩ := S142.row_at (i := 0) rfl els431 (by decide) hx150
         obtain rfl := eI_open rel148
         refine FL.v (E.indexAddr te82 rfl rfl pt145) ?_
         obtain ⟨xs154, hput155, hp⟩ := bnd hp
         obtain ⟨w151, cs157, run152, S153, els156, ce158⟩ := S142.putEls (P := Tryz.prog) (t := 3) (i := 0) rfl (els431.mono (up_mono i954)) hput155 pt145 Tryz.sizeOf3 (u := Value.int .i64 (wr ((len xs132) - 1))) (c := [Value.int .i64 (wr ((len xs132) - 1))]) rfl rfl (ones_cons rfl ones_nil) rfl
         have S153 : St Ha wa H952 w151 [.row 3 1 v428 n429 cs157, .row 118 3 v134 n135 cs136] := S153
         refine FL.act rfl rfl (E.store rfl rfl run152) ?_
         refine FL.nil (FW.region ?_)
         refine FL.v (E.move k960) ?_
         refine FL.v (E.add rfl rfl) ?_
         refine FL.v (E.assign (v := Value.int .i64 (wr (((i61 : Nat) : Int) + 1))) rfl) ?_
         refine FL.nil ?_
         obtain rfl := Option.some.inj hp
         exact ⟨rfl, ⟨_, _, _, _, _, _, _, S153, (i799.tr i954), els156, els140, (nat_succ rfl (lt_of_get hx61) (h49.mono (i799.tr i954)).le), rfl, k958, k959⟩⟩
        ·
         refine FW.condF rfl c126 ?_
         refine FW.seq (FW.region ?_)
         refine FL.v (E.eql rfl rfl) ?_
         refine FL.v (E.assign (v := Value.bool (r812.1 == 124)) rfl) ?_
         refine FL.nil ?_
         rcases ifB hp with ⟨c159, hp⟩ | ⟨c159, hp⟩
         ·
          refine FW.condT rfl c159 ?_
          refine FW.region ?_
          refine FL.v (E.move k957) ?_
          refine FL.v (E.move k962) ?_
          refine FL.v (E.move k963) ?_
          refine FL.v (E.build (B3 rfl rfl rfl) (run_build _ 118 #[(0, Value.int .i64 6), (1, Value.int .i64 s818.1), (2, Value.int .i64 s818.2)] #[Value.int .i64 6, Value.int .i64 s818.1, Value.int .i64 s818.2] (by rfl))) ?_
          obtain ⟨v160, w161, run162, S163⟩ := S953.buildSlice (P := Tryz.prog) te50 [Value.agg #[Value.int .i64 6, Value.int .i64 s818.1, Value.int .i64 s818.2]] (parts := #[(0, Value.agg #[Value.int .i64 6, Value.int .i64 s818.1, Value.int .i64 s818.2])]) (cells := [Value.int .i64 6, Value.int .i64 s818.1, Value.int .i64 s818.2]) rfl (szs_cons rfl szs_nil) (fc_cons rfl fc_nil) (ones_cons rfl (ones_cons rfl (ones_cons rfl ones_nil))) (Nat.le_of_ble_eq_true rfl)
          have els164 : Els (up wa.heap.size H952) eGate 3 [Value.int .i64 6, Value.int .i64 s818.1, Value.int .i64 s818.2] [(Gate.mk 6 s818.1 s818.2)] := (Els.snoc (H := (up wa.heap.size H952)) (E := eGate) (k := 3) (c := [Value.int .i64 6, Value.int .i64 s818.1, Value.int .i64 s818.2]) (x := (Gate.mk 6 s818.1 s818.2)) Els.nil rfl rfl)
          refine FL.v (E.buildSlice (B1 rfl) run162) ?_
          obtain ⟨xs165, hz166, hp⟩ := bnd hp
          obtain ⟨v167, w170, n168, cs169, run171, S172, els173, ce174⟩ := S163.appendO (P := Tryz.prog) te50 (i := 2) (j := 0) rfl (els435.mono (up_mono i954)) rfl els164 hz166
          have S172 : St Ha wa H952 w170 [.row 118 3 v160 1 [Value.int .i64 6, Value.int .i64 s818.1, Value.int .i64 s818.2], .row 3 1 v428 n429 cs430, .row 118 3 v167 n168 cs169] := S172
          have S175 : St Ha wa H952 w170 [.row 3 1 v428 n429 cs430, .row 118 3 v167 n168 cs169] := S172.drop 0
          refine FL.v (E.append rfl rfl run171) ?_
          refine FL.v (E.assign (v := v167) rfl) ?_
          refine FL.nil (FW.region ?_)
          refine FL.v (E.move k959) ?_
          refine FL.v (E.move k960) ?_
          refine FL.v (E.move (v := v167) rfl) ?_
          refine FL.v (E.lenO te50 rfl S175 (i := 1) rfl els173 (by decide)) ?_
          refine FL.v (E.sub rfl rfl) ?_
          obtain ⟨x182, hx183, hp⟩ := bnd hp
          obtain ⟨p176, cs177, pt178, l179, at180, rel181⟩ := S175.row_at (i := 0) rfl els431 (by decide) hx183
          obtain rfl := eI_open rel181
          refine FL.v (E.indexAddr te82 rfl rfl pt178) ?_
          obtain ⟨xs187, hput188, hp⟩ := bnd hp
          obtain ⟨w184, cs190, run185, S186, els189, ce191⟩ := S175.putEls (P := Tryz.prog) (t := 3) (i := 0) rfl (els431.mono (up_mono i954)) hput188 pt178 Tryz.sizeOf3 (u := Value.int .i64 (wr ((len xs165) - 1))) (c := [Value.int .i64 (wr ((len xs165) - 1))]) rfl rfl (ones_cons rfl ones_nil) rfl
          have S186 : St Ha wa H952 w184 [.row 3 1 v428 n429 cs190, .row 118 3 v167 n168 cs169] := S186
          refine FL.act rfl rfl (E.store rfl rfl run185) ?_
          refine FL.nil (FW.region ?_)
          refine FL.v (E.move k960) ?_
          refine FL.v (E.add rfl rfl) ?_
          refine FL.v (E.assign (v := Value.int .i64 (wr (((i61 : Nat) : Int) + 1))) rfl) ?_
          refine FL.nil ?_
          obtain rfl := Option.some.inj hp
          exact ⟨rfl, ⟨_, _, _, _, _, _, _, S186, (i799.tr i954), els189, els173, (nat_succ rfl (lt_of_get hx61) (h49.mono (i799.tr i954)).le), rfl, k958, k959⟩⟩
         ·
          refine FW.condF rfl c159 ?_
          refine FW.seq (FW.region ?_)
          refine FL.v (E.eql rfl rfl) ?_
          refine FL.v (E.assign (v := Value.bool (r812.1 == 62)) rfl) ?_
          refine FL.nil ?_
          rcases ifB hp with ⟨c192, hp⟩ | ⟨c192, hp⟩
          ·
           refine FW.condT rfl c192 ?_
           refine FW.seq (FW.region ?_)
           refine FL.v (E.move k957) ?_
           refine FL.v (E.move k962) ?_
           refine FL.v (E.build (B2 rfl rfl) (run_build _ 118 #[(0, Value.int .i64 4), (1, Value.int .i64 s818.1)] #[Value.int .i64 4, Value.int .i64 s818.1, Value.int .i64 0] (by rfl))) ?_
           obtain ⟨v193, w194, run195, S196⟩ := S953.buildSlice (P := Tryz.prog) te50 [Value.agg #[Value.int .i64 4, Value.int .i64 s818.1, Value.int .i64 0]] (parts := #[(0, Value.agg #[Value.int .i64 4, Value.int .i64 s818.1, Value.int .i64 0])]) (cells := [Value.int .i64 4, Value.int .i64 s818.1, Value.int .i64 0]) rfl (szs_cons rfl szs_nil) (fc_cons rfl fc_nil) (ones_cons rfl (ones_cons rfl (ones_cons rfl ones_nil))) (Nat.le_of_ble_eq_true rfl)
           have els197 : Els (up wa.heap.size H952) eGate 3 [Value.int .i64 4, Value.int .i64 s818.1, Value.int .i64 0] [(Gate.mk 4 s818.1 0)] := (Els.snoc (H := (up wa.heap.size H952)) (E := eGate) (k := 3) (c := [Value.int .i64 4, Value.int .i64 s818.1, Value.int .i64 0]) (x := (Gate.mk 4 s818.1 0)) Els.nil rfl rfl)
           refine FL.v (E.buildSlice (B1 rfl) run195) ?_
           obtain ⟨xs198, hz199, hp⟩ := bnd hp
           obtain ⟨v200, w203, n201, cs202, run204, S205, els206, ce207⟩ := S196.appendO (P := Tryz.prog) te50 (i := 2) (j := 0) rfl (els435.mono (up_mono i954)) rfl els197 hz199
           have S205 : St Ha wa H952 w203 [.row 118 3 v193 1 [Value.int .i64 4, Value.int .i64 s818.1, Value.int .i64 0], .row 3 1 v428 n429 cs430, .row 118 3 v200 n201 cs202] := S205
           have S208 : St Ha wa H952 w203 [.row 3 1 v428 n429 cs430, .row 118 3 v200 n201 cs202] := S205.drop 0
           refine FL.v (E.append rfl rfl run204) ?_
           refine FL.v (E.assign (v := v200) rfl) ?_
           refine FL.nil (FW.region ?_)
           refine FL.v (E.move (v := v200) rfl) ?_
           refine FL.v (E.move (v := v200) rfl) ?_
           refine FL.v (E.lenO te50 rfl S208 (i := 1) rfl els206 (by decide)) ?_
           refine FL.v (E.sub rfl rfl) ?_
           refine FL.v (E.move k963) ?_
           refine FL.v (E.build (B3 rfl rfl rfl) (run_build _ 118 #[(0, Value.int .i64 6), (1, Value.int .i64 (wr ((len xs198) - 1))), (2, Value.int .i64 s818.2)] #[Value.int .i64 6, Value.int .i64 (wr ((len xs198) - 1)), Value.int .i64 s818.2] (by rfl))) ?_
           obtain ⟨v209, w210, run211, S212⟩ := S208.buildSlice (P := Tryz.prog) te50 [Value.agg #[Value.int .i64 6, Value.int .i64 (wr ((len xs198) - 1)), Value.int .i64 s818.2]] (parts := #[(0, Value.agg #[Value.int .i64 6, Value.int .i64 (wr ((len xs198) - 1)), Value.int .i64 s818.2])]) (cells := [Value.int .i64 6, Value.int .i64 (wr ((len xs198) - 1)), Value.int .i64 s818.2]) rfl (szs_cons rfl szs_nil) (fc_cons rfl fc_nil) (ones_cons rfl (ones_cons rfl (ones_cons rfl ones_nil))) (Nat.le_of_ble_eq_true rfl)
           have els213 : Els (up wa.heap.size H952) eGate 3 [Value.int .i64 6, Value.int .i64 (wr ((len xs198) - 1)), Value.int .i64 s818.2] [(Gate.mk 6 (wr ((len xs198) - 1)) s818.2)] := (Els.snoc (H := (up wa.heap.size H952)) (E := eGate) (k := 3) (c := [Value.int .i64 6, Value.int .i64 (wr ((len xs198) - 1)), Value.int .i64 s818.2]) (x := (Gate.mk 6 (wr ((len xs198) - 1)) s818.2)) Els.nil rfl rfl)
           refine FL.v (E.buildSlice (B1 rfl) run211) ?_
           obtain ⟨xs214, hz215, hp⟩ := bnd hp
           obtain ⟨v216, w219, n217, cs218, run220, S221, els222, ce223⟩ := S212.appendO (P := Tryz.prog) te50 (i := 2) (j := 0) rfl els206 rfl els213 hz215
           have S221 : St Ha wa H952 w219 [.row 118 3 v209 1 [Value.int .i64 6, Value.int .i64 (wr ((len xs198) - 1)), Value.int .i64 s818.2], .row 3 1 v428 n429 cs430, .row 118 3 v216 n217 cs218] := S221
           have S224 : St Ha wa H952 w219 [.row 3 1 v428 n429 cs430, .row 118 3 v216 n217 cs218] := S221.drop 0
           refine FL.v (E.append rfl rfl run220) ?_
           refine FL.v (E.assign (v := v216) rfl) ?_
           refine FL.nil (FW.region ?_)
           refine FL.v (E.move k959) ?_
           refine FL.v (E.move k960) ?_
           refine FL.v (E.move (v := v216) rfl) ?_
           refine FL.v (E.lenO te50 rfl S224 (i := 1) rfl els222 (by decide)) ?_
           refine FL.v (E.sub rfl rfl) ?_
           obtain ⟨x231, hx232, hp⟩ := bnd hp
           obtain ⟨p225, cs226, pt227, l228, at229, rel230⟩ := S224.row_at (i := 0) rfl els431 (by decide) hx232
           obtain rfl := eI_open rel230
           refine FL.v (E.indexAddr te82 rfl rfl pt227) ?_
           obtain ⟨xs236, hput237, hp⟩ := bnd hp
           obtain ⟨w233, cs239, run234, S235, els238, ce240⟩ := S224.putEls (P := Tryz.prog) (t := 3) (i := 0) rfl (els431.mono (up_mono i954)) hput237 pt227 Tryz.sizeOf3 (u := Value.int .i64 (wr ((len xs214) - 1))) (c := [Value.int .i64 (wr ((len xs214) - 1))]) rfl rfl (ones_cons rfl ones_nil) rfl
           have S235 : St Ha wa H952 w233 [.row 3 1 v428 n429 cs239, .row 118 3 v216 n217 cs218] := S235
           refine FL.act rfl rfl (E.store rfl rfl run234) ?_
           refine FL.nil (FW.region ?_)
           refine FL.v (E.move k960) ?_
           refine FL.v (E.add rfl rfl) ?_
           refine FL.v (E.assign (v := Value.int .i64 (wr (((i61 : Nat) : Int) + 1))) rfl) ?_
           refine FL.nil ?_
           obtain rfl := Option.some.inj hp
           exact ⟨rfl, ⟨_, _, _, _, _, _, _, S235, (i799.tr i954), els238, els222, (nat_succ rfl (lt_of_get hx61) (h49.mono (i799.tr i954)).le), rfl, k958, k959⟩⟩
          ·
           refine FW.condF rfl c192 ?_
           refine FW.region ?_
           refine FL.v (E.move k957) ?_
           refine FL.v (E.move k961) ?_
           refine FL.v (E.subK rfl rfl) ?_
           refine FL.v (E.conv Tryz.runUnderlying5 Tryz.runUnderlying3 rfl) ?_
           refine FL.v (E.add rfl rfl) ?_
           refine FL.v (E.build (B2 rfl rfl) (run_build _ 118 #[(0, Value.int .i64 1), (1, Value.int .i64 (wr ((wrk true 64 (wrk false 8 (r812.1 - 97))) + 1)))] #[Value.int .i64 1, Value.int .i64 (wr ((wrk true 64 (wrk false 8 (r812.1 - 97))) + 1)), Value.int .i64 0] (by rfl))) ?_
           obtain ⟨v241, w242, run243, S244⟩ := S953.buildSlice (P := Tryz.prog) te50 [Value.agg #[Value.int .i64 1, Value.int .i64 (wr ((wrk true 64 (wrk false 8 (r812.1 - 97))) + 1)), Value.int .i64 0]] (parts := #[(0, Value.agg #[Value.int .i64 1, Value.int .i64 (wr ((wrk true 64 (wrk false 8 (r812.1 - 97))) + 1)), Value.int .i64 0])]) (cells := [Value.int .i64 1, Value.int .i64 (wr ((wrk true 64 (wrk false 8 (r812.1 - 97))) + 1)), Value.int .i64 0]) rfl (szs_cons rfl szs_nil) (fc_cons rfl fc_nil) (ones_cons rfl (ones_cons rfl (ones_cons rfl ones_nil))) (Nat.le_of_ble_eq_true rfl)
           have els245 : Els (up wa.heap.size H952) eGate 3 [Value.int .i64 1, Value.int .i64 (wr ((wrk true 64 (wrk false 8 (r812.1 - 97))) + 1)), Value.int .i64 0] [(Gate.mk 1 (wr ((wrk true 64 (wrk false 8 (r812.1 - 97))) + 1)) 0)] := (Els.snoc (H := (up wa.heap.size H952)) (E := eGate) (k := 3) (c := [Value.int .i64 1, Value.int .i64 (wr ((wrk true 64 (wrk false 8 (r812.1 - 97))) + 1)), Value.int .i64 0]) (x := (Gate.mk 1 (wr ((wrk true 64 (wrk false 8 (r812.1 - 97))) + 1)) 0)) Els.nil rfl rfl)
           refine FL.v (E.buildSlice (B1 rfl) run243) ?_
           obtain ⟨xs246, hz247, hp⟩ := bnd hp
           obtain ⟨v248, w251, n249, cs250, run252, S253, els254, ce255⟩ := S244.appendO (P := Tryz.prog) te50 (i := 2) (j := 0) rfl (els435.mono (up_mono i954)) rfl els245 hz247
           have S253 : St Ha wa H952 w251 [.row 118 3 v241 1 [Value.int .i64 1, Value.int .i64 (wr ((wrk true 64 (wrk false 8 (r812.1 - 97))) + 1)), Value.int .i64 0], .row 3 1 v428 n429 cs430, .row 118 3 v248 n249 cs250] := S253
           have S256 : St Ha wa H952 w251 [.row 3 1 v428 n429 cs430, .row 118 3 v248 n249 cs250] := S253.drop 0
           refine FL.v (E.append rfl rfl run252) ?_
           refine FL.v (E.assign (v := v248) rfl) ?_
           refine FL.nil (FW.region ?_)
           refine FL.v (E.move k959) ?_
           refine FL.v (E.move k960) ?_
           refine FL.v (E.move (v := v248) rfl) ?_
           refine FL.v (E.lenO te50 rfl S256 (i := 1) rfl els254 (by decide)) ?_
           refine FL.v (E.sub rfl rfl) ?_
           obtain ⟨x263, hx264, hp⟩ := bnd hp
           obtain ⟨p257, cs258, pt259, l260, at261, rel262⟩ := S256.row_at (i := 0) rfl els431 (by decide) hx264
           obtain rfl := eI_open rel262
           refine FL.v (E.indexAddr te82 rfl rfl pt259) ?_
           obtain ⟨xs268, hput269, hp⟩ := bnd hp
           obtain ⟨w265, cs271, run266, S267, els270, ce272⟩ := S256.putEls (P := Tryz.prog) (t := 3) (i := 0) rfl (els431.mono (up_mono i954)) hput269 pt259 Tryz.sizeOf3 (u := Value.int .i64 (wr ((len xs246) - 1))) (c := [Value.int .i64 (wr ((len xs246) - 1))]) rfl rfl (ones_cons rfl ones_nil) rfl
           have S267 : St Ha wa H952 w265 [.row 3 1 v428 n429 cs271, .row 118 3 v248 n249 cs250] := S267
           refine FL.act rfl rfl (E.store rfl rfl run266) ?_
           refine FL.nil (FW.region ?_)
           refine FL.v (E.move k960) ?_
           refine FL.v (E.add rfl rfl) ?_
           refine FL.v (E.assign (v := Value.int .i64 (wr (((i61 : Nat) : Int) + 1))) rfl) ?_
           refine FL.nil ?_
           obtain rfl := Option.some.inj hp
           exact ⟨rfl, ⟨_, _, _, _, _, _, _, S267, (i799.tr i954), els270, els254, (nat_succ rfl (lt_of_get hx61) (h49.mono (i799.tr i954)).le), rfl, k958, k959⟩⟩
    ·
     exact x818.elim
  ·
   clear hp hq
   rintro s61 f299 w298 ⟨H295, v428, n429, cs430, v432, n433, cs434, S296, i297, els431, els435, k300, k301, k302, k303⟩
   refine FW.seq (FW.seq (FW.region ?_))
   refine FL.v (E.move k300) ?_
   refine FL.v (E.move k302) ?_
   refine FL.v (E.lenP te22 rfl h49) ?_
   refine FL.v (E.lss rfl rfl) ?_
   refine FL.nil ?_
   refine FW.condF rfl dlt_len ?_
   refine FW.exit ?_
   exact ⟨nofun, rfl, ⟨_, _, _, _, _, _, _, S296, i297, els431, els435, k301⟩⟩
  ·
   clear hq
   intro e f293 w292 hD
   rcases q61 with s61 | x61
   ·
    obtain ⟨rfl, hD⟩ := hD
    obtain ⟨H289, v428, n429, cs430, v432, n433, cs434, S290, i291, els431, els435, k294⟩ := hD
    replace hp := el_go hp
    refine FW.seq (FW.region ?_)
    refine FL.v (E.move k294) ?_
    refine FL.v (E.assign (v := v432) rfl) ?_
    refine FL.v (E.assign (v := Value.bool true) rfl) ?_
    refine FL.nil ?_
    refine FW.ret ?_
    obtain rfl := Option.some.inj hp
    exact ⟨.inr rfl, res2 rfl rfl rfl ⟨_, _, _, _, rfl, (S290.sel [1] (by decide) rfl), els435⟩⟩
   ·
    exact x61.elim

theorem w_impl_IsFormula {Ha : GH} {wa : World} (hs : Sl Ha wa) (a0 : ByteArray) {r : Bool} (hp : (PF.impl_IsFormula a0) = some r) :
  Calls Tryz.prog 35 #[Value.string a0] wa (Sc Ha wa (Value.bool r)) := by
 unfold PF.impl_IsFormula at hp
 have S0 := St.init hs
 refine calls_go (N := 11) (args := [Value.string a0]) Tryz.func35 rfl rfl rfl ?_
 refine FW.seq (FW.region ?_)
 refine FL.v (E.assign (v := Value.bool false) rfl) ?_
 refine FL.nil (FW.seq (FW.region ?_))
 refine FL.v (E.move (v := Value.string a0) rfl) ?_
 obtain ⟨r21, hr22, hp⟩ := bnd hp
 refine FL.call rfl rfl rfl (E.call Tryz.call78 (A1 rfl)) (w_impl_parse S0.sl a0 hr22) ?_
 rintro e w24 ⟨H23, v27, rfl, r26, h28⟩
 refine ⟨_, rfl, ?_⟩
 have S25 := S0.call r26
 refine FL.v (E.move (v := Value.tuple #[v27, Value.bool r21.2]) rfl) ?_
 refine FL.v (E.extract (i := 0) rfl rfl) ?_
 refine FL.v (E.extract (i := 1) rfl rfl) ?_
 refine FL.v (E.assign (v := v27) rfl) ?_
 refine FL.v (E.assign (v := Value.bool r21.2) rfl) ?_
 refine FL.nil (FW.seq (FW.region ?_))
 refine FL.v (E.move (v := Value.bool r21.2) rfl) ?_
 refine FL.v (E.assign (v := Value.bool r21.2) rfl) ?_
 refine FL.nil ?_
 refine FW.ret ?_
 obtain rfl := Option.some.inj hp
 exact ⟨.inr rfl, res1 rfl rfl ⟨rfl, S25.back⟩⟩

set_option maxHeartbeats 4000000 in
theorem w_laws_rGates {Ha : GH} {wa : World} (hs : Sl Ha wa) (v0 : Value) (a0 : List Gate) (p0 : RSl Ha eGate 3 v0 a0) (v1 : Value) (a1 : List Gate) (p1 : RSl Ha eGate 3 v1 a1) {r : Bool} (hp : (PF.laws_rGates a0 a1) = some r) :
  Calls Tryz.prog 36 #[v0, v1] wa (Sc Ha wa (Value.bool r)) := by
 unfold PF.laws_rGates at hp
 have S0 := St.init hs
 refine calls_go (N := 26) (args := [v0, v1]) Tryz.func36 rfl rfl rfl ?_
 refine FW.seq (FW.region ?_)
 refine FL.v (E.assign (v := Value.bool false) rfl) ?_
 refine FL.nil (FW.seq (FW.seq (FW.region ?_)))
 refine FL.v (E.move (v := v0) rfl) ?_
 refine FL.v (E.lenP te50 rfl p0) ?_
 refine FL.v (E.move (v := v1) rfl) ?_
 refine FL.v (E.lenP te50 rfl p1) ?_
 refine FL.v (E.neq rfl rfl) ?_
 refine FL.nil ?_
 rcases ifB hp with ⟨c21, hp⟩ | ⟨c21, hp⟩
 ·
  refine FW.condT rfl c21 ?_
  refine FW.seq (FW.region ?_)
  refine FL.v (E.assign (v := Value.bool false) rfl) ?_
  refine FL.nil ?_
  refine FW.ret ?_
  obtain rfl := Option.some.inj hp
  exact ⟨.inr rfl, res1 rfl rfl ⟨rfl, S0.back⟩⟩
 ·
  refine FW.condF rfl c21 ?_
  refine FW.skip (FW.seq (FW.seq (FW.region ?_)))
  refine FL.v (E.assign (v := Value.int .i64 0) rfl) ?_
  refine FL.nil ?_
  obtain ⟨q23, hq, hp⟩ := bndR hp
  refine FW.block ?_
  refine FW.mono (FW.forL (S := Unit) (X := Bool) (fun (i23 : Nat) (s23 : Unit) f w => ∃ H : GH, St Ha wa H w [] ∧ Inc Ha H ∧ f 5 = Value.int .i64 ((i23 : Nat) : Int) ∧ f 0 = v0 ∧ f 1 = v1) (fun q e f w => match q with | .go s23 => e = Exit.exit 0 ∧ (∃ H : GH, St Ha wa H w [] ∧ Inc Ha H) | .rt x => ((e = Exit.ret) ∧ (fun e f w => (e = Exit.normal ∨ e = Exit.ret) ∧ ∀ a, Fr (δ := []) 26 a f → ∃ v, (results Tryz.f36 a.tmps).run Tryz.prog w = .ok v w ∧ (Sc Ha wa (Value.bool x)) (.returned v) w) e f w)) hq ⟨_, S0, (Inc.rfl _), rfl, rfl, rfl⟩ ?_ ?_) ?_
  ·
   clear hp hq
   rintro i23 y22 s23 f55 w54 ⟨H51, S52, i53, k56, k57, k58⟩ hx23 o78 hp
   refine FW.seq (FW.seq (FW.region ?_))
   refine FL.v (E.move k56) ?_
   refine FL.v (E.move k57) ?_
   refine FL.v (E.lenP te50 rfl p0) ?_
   refine FL.v (E.lssT rfl rfl (lss_len hx23)) ?_
   refine FL.nil ?_
   refine FW.condT rfl rfl ?_
   refine FW.skip (FW.seq (FW.block (FW.seq ?_)))
   refine FW.draw (fun w' => Run w54.heap.size H51 w54 H51 w') (by kernel_rfl) (by kernel_rfl) (run_drew S52.sl) ?_
   refine FD.val rfl rfl rfl (fun w' hw' => (E.move k57)) ?_
   refine FD.val rfl rfl rfl (fun w' hw' => (E.move k56)) ?_
   obtain ⟨p60, cs61, pt62, l63, at64, rel65⟩ := p0.at (ix_nat hx23)
   obtain rfl := eGate_open rel65
   refine FD.val rfl rfl rfl (fun w' hw' => (E.indexAddr te50 rfl rfl pt62)) ?_
   refine FD.val rfl rfl rfl (fun w' hw' => (E.load rfl (run_loadA Tryz.isAgg118 Tryz.sizeOf118 ((at64.mono i53).now (S52.call hw').sl) rfl))) ?_
   refine FD.val rfl rfl rfl (fun w' hw' => (E.move k58)) ?_
   refine FD.val rfl rfl rfl (fun w' hw' => (E.move k56)) ?_
   obtain ⟨x72, hx73, hp⟩ := bnd hp
   obtain ⟨p66, cs67, pt68, l69, at70, rel71⟩ := p1.at hx73
   obtain rfl := eGate_open rel71
   refine FD.val rfl rfl rfl (fun w' hw' => (E.indexAddr te50 rfl rfl pt68)) ?_
   refine FD.val rfl rfl rfl (fun w' hw' => (E.load rfl (run_loadA Tryz.isAgg118 Tryz.sizeOf118 ((at70.mono i53).now (S52.call hw').sl) rfl))) ?_
   refine FD.val rfl rfl rfl (fun w' hw' => (E.neqA sg118 (sq118 y22.kind y22.a y22.b x72.kind x72.a x72.b) rfl rfl)) ?_
   refine FD.nil ?_
   intro w74 r76
   have S75 := S52.call r76
   rcases ifB hp with ⟨c77, hp⟩ | ⟨c77, hp⟩
   ·
    refine FW.condT rfl c77 ?_
    refine FW.seq (FW.region ?_)
    refine FL.v (E.assign (v := Value.bool false) rfl) ?_
    refine FL.nil ?_
    refine FW.ret ?_
    obtain rfl := Option.some.inj hp
    exact ⟨nofun, rfl, ⟨.inr rfl, res1 rfl rfl ⟨rfl, S75.back⟩⟩⟩
   ·
    refine FW.condF rfl c77 ?_
    refine FW.skip (FW.region ?_)
    refine FL.v (E.move k56) ?_
    refine FL.v (E.add rfl rfl) ?_
    refine FL.v (E.assign (v := Value.int .i64 (wr (((i23 : Nat) : Int) + 1))) rfl) ?_
    refine FL.nil ?_
    obtain rfl := Option.some.inj hp
    exact ⟨rfl, ⟨_, S75, i53, (nat_succ rfl (lt_of_get hx23) (p0.mono i53).le), k57, k58⟩⟩
  ·
   clear hp hq
   rintro s23 f88 w87 ⟨H84, S85, i86, k89, k90, k91⟩
   refine FW.seq (FW.seq (FW.region ?_))
   refine FL.v (E.move k89) ?_
   refine FL.v (E.move k90) ?_
   refine FL.v (E.lenP te50 rfl p0) ?_
   refine FL.v (E.lss rfl rfl) ?_
   refine FL.nil ?_
   refine FW.condF rfl dlt_len ?_
   refine FW.exit ?_
   exact ⟨nofun, rfl, ⟨_, S85, i86⟩⟩
  ·
   clear hq
   intro e f83 w82 hD
   rcases q23 with s23 | x23
   ·
    obtain ⟨rfl, hD⟩ := hD
    obtain ⟨H79, S80, i81⟩ := hD
    replace hp := el_go hp
    refine FW.seq (FW.region ?_)
    refine FL.v (E.assign (v := Value.bool true) rfl) ?_
    refine FL.nil ?_
    refine FW.ret ?_
    obtain rfl := Option.some.inj hp
    exact ⟨.inr rfl, res1 rfl rfl ⟨rfl, S80.back⟩⟩
   ·
    obtain ⟨he, hL⟩ := hD
    replace hp := el_rt hp
    obtain rfl := Option.some.inj hp
    subst he
    exact hL

set_option maxHeartbeats 4000000 in
theorem w_impl_formula_value_B {rec_impl_formula_value : Fo → Int → Option Bool} (hrec_impl_formula_value : ∀ {Ha : GH} {wa : World} (hs : Sl Ha wa) (v0 : Value) (a0 : Fo) (p0 : FAt Ha v0 a0) (a1 : Int) {r : Bool} (hp : rec_impl_formula_value a0 a1 = some r), Calls Tryz.prog 88 #[v0, Value.int .i64 a1] wa (Sc Ha wa (Value.bool r))) {Ha : GH} {wa : World} (hs : Sl Ha wa) (v0 : Value) (a0 : Fo) (p0 : FAt Ha v0 a0) (a1 : Int) {r : Bool} (hp : PF.impl_formula_value_B rec_impl_formula_value a0 a1 = some r) :
  Calls Tryz.prog 88 #[v0, Value.int .i64 a1] wa (Sc Ha wa (Value.bool r)) := by
 unfold PF.impl_formula_value_B at hp
 have S0 := St.init hs
 refine calls_go (N := 84) (args := [v0, Value.int .i64 a1]) Tryz.func88 rfl rfl rfl ?_
 refine FW.seq (FW.region ?_)
 refine FL.v (E.assign (v := Value.bool false) rfl) ?_
 refine FL.nil (FW.seq (FW.seq (FW.region ?_)))
 refine FL.v (E.move (v := v0) rfl) ?_
 obtain ⟨y21, hy22, hp⟩ := bnd hp
 obtain ⟨q23, v25, v26, rfl, at24, h27, h28⟩ := FAt.open p0 hy22
 refine FL.v (E.nilCheck rfl) ?_
 refine FL.v (E.fieldAddr tf109_0 rfl) ?_
 refine FL.v (E.load rfl (run_load1 Tryz.isAgg5 (at24.now S0.sl) rfl)) ?_
 refine FL.nil (FW.block (FW.seq (FW.seq (FW.region ?_))))
 refine FL.v (E.eql rfl rfl) ?_
 refine FL.v (E.assign (v := Value.bool (y21.op == 48)) rfl) ?_
 refine FL.nil ?_
 obtain ⟨q31, hq, hp⟩ := bndR hp
 refine FW.joinE (S := Bool) (X := Empty) (q := q31) (fun s30 f w => ∃ H : GH, St Ha wa H w [] ∧ Inc Ha H ∧ f 0 = Value.pointer (some q23) ∧ f 1 = Value.int .i64 a1 ∧ f 8 = Value.int .u8 y21.op ∧ f 9 = Value.bool s30) (fun (_ : Empty) _ _ _ => False) ?_ ?_ ?_
 ·
  clear hp; have hp := hq; clear hq
  rcases ifB hp with ⟨c33, hp⟩ | ⟨c33, hp⟩
  ·
   refine FW.condT rfl c33 ?_
   refine FW.skip ?_
   obtain rfl := Option.some.inj hp
   exact ⟨rfl, ⟨_, S0, (Inc.rfl _), rfl, rfl, rfl, rfl⟩⟩
  ·
   refine FW.condF rfl c33 ?_
   refine FW.region ?_
   refine FL.v (E.eql rfl rfl) ?_
   refine FL.v (E.assign (v := Value.bool (y21.op == 49)) rfl) ?_
   refine FL.nil ?_
   obtain rfl := Option.some.inj hp
   exact ⟨rfl, ⟨_, S0, (Inc.rfl _), rfl, rfl, rfl, rfl⟩⟩
 ·
  rintro s30 rfl f38 w37 ⟨H34, S35, i36, k39, k40, k41, k42⟩
  replace hp := el_go hp
  rcases ifB hp with ⟨c43, hp⟩ | ⟨c43, hp⟩
  ·
   refine FW.condT k42 c43 ?_
   refine FW.seq (FW.region ?_)
   refine FL.v (E.move k39) ?_
   refine FL.v (E.nilCheck rfl) ?_
   refine FL.v (E.fieldAddr tf109_0 rfl) ?_
   refine FL.v (E.load rfl (run_load1 Tryz.isAgg5 ((at24.mono i36).now S35.sl) rfl)) ?_
   refine FL.v (E.eql rfl rfl) ?_
   refine FL.v (E.assign (v := Value.bool (y21.op == 49)) rfl) ?_
   refine FL.nil ?_
   refine FW.ret ?_
   obtain rfl := Option.some.inj hp
   exact ⟨.inr rfl, res1 rfl rfl ⟨rfl, S35.back⟩⟩
  ·
   refine FW.condF k42 c43 ?_
   refine FW.seq (FW.region ?_)
   refine FL.v (E.eql k41 rfl) ?_
   refine FL.v (E.assign (v := Value.bool (y21.op == 126)) rfl) ?_
   refine FL.nil ?_
   rcases ifB hp with ⟨c44, hp⟩ | ⟨c44, hp⟩
   ·
    refine FW.condT rfl c44 ?_
    refine FW.seq (FW.region ?_)
    refine FL.v (E.move k39) ?_
    refine FL.v (E.nilCheck rfl) ?_
    refine FL.v (E.fieldAddr tf109_1 rfl) ?_
    refine FL.v (E.load rfl (run_load1 Tryz.isAgg101 ((at24.mono i36).now S35.sl) rfl)) ?_
    refine FL.v (E.move k40) ?_
    obtain ⟨r45, hr46, hp⟩ := bnd hp
    refine FL.call rfl rfl rfl (E.call Tryz.call88 (A2 rfl rfl)) (hrec_impl_formula_value S35.sl v25 y21.a (h27.mono i36) a1 hr46) ?_
    rintro e w47 ⟨rfl, r48⟩
    refine ⟨_, rfl, ?_⟩
    have S49 := S35.call r48
    refine FL.v (E.not rfl) ?_
    refine FL.v (E.assign (v := Value.bool (!r45)) rfl) ?_
    refine FL.nil ?_
    refine FW.ret ?_
    obtain rfl := Option.some.inj hp
    exact ⟨.inr rfl, res1 rfl rfl ⟨rfl, S49.back⟩⟩
   ·
    refine FW.condF rfl c44 ?_
    refine FW.seq (FW.region ?_)
    refine FL.v (E.eql k41 rfl) ?_
    refine FL.v (E.assign (v := Value.bool (y21.op == 38)) rfl) ?_
    refine FL.nil ?_
    rcases ifB hp with ⟨c50, hp⟩ | ⟨c50, hp⟩
    ·
     refine FW.condT rfl c50 ?_
     refine FW.seq (FW.region ?_)
     refine FL.v (E.move k39) ?_
     refine FL.v (E.nilCheck rfl) ?_
     refine FL.v (E.fieldAddr tf109_1 rfl) ?_
     refine FL.v (E.load rfl (run_load1 Tryz.isAgg101 ((at24.mono i36).now S35.sl) rfl)) ?_
     refine FL.v (E.move k40) ?_
     obtain ⟨r51, hr52, hp⟩ := bnd hp
     refine FL.call rfl rfl rfl (E.call Tryz.call88 (A2 rfl rfl)) (hrec_impl_formula_value S35.sl v25 y21.a (h27.mono i36) a1 hr52) ?_
     rintro e w53 ⟨rfl, r54⟩
     refine ⟨_, rfl, ?_⟩
     have S55 := S35.call r54
     refine FL.v (E.move (v := Value.bool r51) rfl) ?_
     obtain ⟨t61, hqt61, hp⟩ := bnd hp
     refine FL.cut 7 (fun f w => ∃ H : GH, St Ha wa H w [] ∧ Inc H34 H ∧ f 41 = Value.bool t61) ?_ ?_
     ·
      clear hp; have hp := hqt61; clear hqt61
      rcases ifB hp with ⟨c67, hp⟩ | ⟨c67, hp⟩
      ·
       refine FL.val (wF_yes rfl rfl rfl c67) rfl rfl (E.move k39) ?_
       refine FL.val (wF_yes rfl rfl rfl c67) rfl rfl (E.nilCheck rfl) ?_
       refine FL.val (wF_yes rfl rfl rfl c67) rfl rfl (E.fieldAddr tf109_2 rfl) ?_
       refine FL.val (wF_yes rfl rfl rfl c67) rfl rfl (E.load rfl (run_load1 Tryz.isAgg101 ((at24.mono i36).now S55.sl) rfl)) ?_
       refine FL.val (wF_yes rfl rfl rfl c67) rfl rfl (E.move k40) ?_
       obtain ⟨r68, hr69, hp⟩ := bnd hp
       refine FL.call (wF_yes rfl rfl rfl c67) rfl rfl (E.call Tryz.call88 (A2 rfl rfl)) (hrec_impl_formula_value S55.sl v26 y21.b (h28.mono i36) a1 hr69) ?_
       rintro e w70 ⟨rfl, r71⟩
       refine ⟨_, rfl, ?_⟩
       have S72 := S55.call r71
       obtain rfl := Option.some.inj hp
       refine FL.v (E.pickT rfl c67 rfl) ?_
       exact FL.nil ⟨rfl, _, S72, (Inc.rfl _), rfl⟩
      ·
       refine FL.skip (wF_no rfl rfl rfl c67) rfl ?_
       refine FL.skip (wF_no rfl rfl rfl c67) rfl ?_
       refine FL.skip (wF_no rfl rfl rfl c67) rfl ?_
       refine FL.skip (wF_no rfl rfl rfl c67) rfl ?_
       refine FL.skip (wF_no rfl rfl rfl c67) rfl ?_
       refine FL.skip (wF_no rfl rfl rfl c67) rfl ?_
       obtain rfl := Option.some.inj hp
       refine FL.v (E.pickF rfl c67 rfl) ?_
       exact FL.nil ⟨rfl, _, S55, (Inc.rfl _), rfl⟩
     rintro f66 w65 ⟨H62, S63, i64, k73⟩
     refine FL.v (E.assign k73) ?_
     refine FL.nil ?_
     refine FW.ret ?_
     obtain rfl := Option.some.inj hp
     exact ⟨.inr rfl, res1 rfl rfl ⟨rfl, S63.back⟩⟩
    ·
     refine FW.condF rfl c50 ?_
     refine FW.seq (FW.region ?_)
     refine FL.v (E.eql k41 rfl) ?_
     refine FL.v (E.assign (v := Value.bool (y21.op == 124)) rfl) ?_
     refine FL.nil ?_
     rcases ifB hp with ⟨c74, hp⟩ | ⟨c74, hp⟩
     ·
      refine FW.condT rfl c74 ?_
      refine FW.seq (FW.region ?_)
      refine FL.v (E.move k39) ?_
      refine FL.v (E.nilCheck rfl) ?_
      refine FL.v (E.fieldAddr tf109_1 rfl) ?_
      refine FL.v (E.load rfl (run_load1 Tryz.isAgg101 ((at24.mono i36).now S35.sl) rfl)) ?_
      refine FL.v (E.move k40) ?_
      obtain ⟨r75, hr76, hp⟩ := bnd hp
      refine FL.call rfl rfl rfl (E.call Tryz.call88 (A2 rfl rfl)) (hrec_impl_formula_value S35.sl v25 y21.a (h27.mono i36) a1 hr76) ?_
      rintro e w77 ⟨rfl, r78⟩
      refine ⟨_, rfl, ?_⟩
      have S79 := S35.call r78
      refine FL.v (E.move (v := Value.bool r75) rfl) ?_
      obtain ⟨t85, hqt85, hp⟩ := bnd hp
      refine FL.cut 7 (fun f w => ∃ H : GH, St Ha wa H w [] ∧ Inc H34 H ∧ f 57 = Value.bool t85) ?_ ?_
      ·
       clear hp; have hp := hqt85; clear hqt85
       rcases ifB hp with ⟨c91, hp⟩ | ⟨c91, hp⟩
       ·
        refine FL.skip (wF_no rfl rfl rfl c91) rfl ?_
        refine FL.skip (wF_no rfl rfl rfl c91) rfl ?_
        refine FL.skip (wF_no rfl rfl rfl c91) rfl ?_
        refine FL.skip (wF_no rfl rfl rfl c91) rfl ?_
        refine FL.skip (wF_no rfl rfl rfl c91) rfl ?_
        refine FL.skip (wF_no rfl rfl rfl c91) rfl ?_
        obtain rfl := Option.some.inj hp
        refine FL.v (E.pickT rfl c91 rfl) ?_
        exact FL.nil ⟨rfl, _, S79, (Inc.rfl _), rfl⟩
       ·
        refine FL.val (wF_yes rfl rfl rfl c91) rfl rfl (E.move k39) ?_
        refine FL.val (wF_yes rfl rfl rfl c91) rfl rfl (E.nilCheck rfl) ?_
        refine FL.val (wF_yes rfl rfl rfl c91) rfl rfl (E.fieldAddr tf109_2 rfl) ?_
        refine FL.val (wF_yes rfl rfl rfl c91) rfl rfl (E.load rfl (run_load1 Tryz.isAgg101 ((at24.mono i36).now S79.sl) rfl)) ?_
        refine FL.val (wF_yes rfl rfl rfl c91) rfl rfl (E.move k40) ?_
        obtain ⟨r92, hr93, hp⟩ := bnd hp
        refine FL.call (wF_yes rfl rfl rfl c91) rfl rfl (E.call Tryz.call88 (A2 rfl rfl)) (hrec_impl_formula_value S79.sl v26 y21.b (h28.mono i36) a1 hr93) ?_
        rintro e w94 ⟨rfl, r95⟩
        refine ⟨_, rfl, ?_⟩
        have S96 := S79.call r95
        obtain rfl := Option.some.inj hp
        refine FL.v (E.pickF rfl c91 rfl) ?_
        exact FL.nil ⟨rfl, _, S96, (Inc.rfl _), rfl⟩
      rintro f90 w89 ⟨H86, S87, i88, k97⟩
      refine FL.v (E.assign k97) ?_
      refine FL.nil ?_
      refine FW.ret ?_
      obtain rfl := Option.some.inj hp
      exact ⟨.inr rfl, res1 rfl rfl ⟨rfl, S87.back⟩⟩
     ·
      refine FW.condF rfl c74 ?_
      refine FW.seq (FW.region ?_)
      refine FL.v (E.eql k41 rfl) ?_
      refine FL.v (E.assign (v := Value.bool (y21.op == 62)) rfl) ?_
      refine FL.nil ?_
      rcases ifB hp with ⟨c98, hp⟩ | ⟨c98, hp⟩
      ·
       refine FW.condT rfl c98 ?_
       refine FW.seq (FW.region ?_)
       refine FL.v (E.move k39) ?_
       refine FL.v (E.nilCheck rfl) ?_
       refine FL.v (E.fieldAddr tf109_1 rfl) ?_
       refine FL.v (E.load rfl (run_load1 Tryz.isAgg101 ((at24.mono i36).now S35.sl) rfl)) ?_
       refine FL.v (E.move k40) ?_
       obtain ⟨r99, hr100, hp⟩ := bnd hp
       refine FL.call rfl rfl rfl (E.call Tryz.call88 (A2 rfl rfl)) (hrec_impl_formula_value S35.sl v25 y21.a (h27.mono i36) a1 hr100) ?_
       rintro e w101 ⟨rfl, r102⟩
       refine ⟨_, rfl, ?_⟩
       have S103 := S35.call r102
       refine FL.v (E.not rfl) ?_
       refine FL.v (E.move (v := Value.bool (!r99)) rfl) ?_
       obtain ⟨t109, hqt109, hp⟩ := bnd hp
       refine FL.cut 7 (fun f w => ∃ H : GH, St Ha wa H w [] ∧ Inc H34 H ∧ f 74 = Value.bool t109) ?_ ?_
       ·
        clear hp; have hp := hqt109; clear hqt109
        rcases ifB hp with ⟨c115, hp⟩ | ⟨c115, hp⟩
        ·
         refine FL.skip (wF_no rfl rfl rfl c115) rfl ?_
         refine FL.skip (wF_no rfl rfl rfl c115) rfl ?_
         refine FL.skip (wF_no rfl rfl rfl c115) rfl ?_
         refine FL.skip (wF_no rfl rfl rfl c115) rfl ?_
         refine FL.skip (wF_no rfl rfl rfl c115) rfl ?_
         refine FL.skip (wF_no rfl rfl rfl c115) rfl ?_
         obtain rfl := Option.some.inj hp
         refine FL.v (E.pickT rfl c115 rfl) ?_
         exact FL.nil ⟨rfl, _, S103, (Inc.rfl _), rfl⟩
        ·
         refine FL.val (wF_yes rfl rfl rfl c115) rfl rfl (E.move k39) ?_
         refine FL.val (wF_yes rfl rfl rfl c115) rfl rfl (E.nilCheck rfl) ?_
         refine FL.val (wF_yes rfl rfl rfl c115) rfl rfl (E.fieldAddr tf109_2 rfl) ?_
         refine FL.val (wF_yes rfl rfl rfl c115) rfl rfl (E.load rfl (run_load1 Tryz.isAgg101 ((at24.mono i36).now S103.sl) rfl)) ?_
         refine FL.val (wF_yes rfl rfl rfl c115) rfl rfl (E.move k40) ?_
         obtain ⟨r116, hr117, hp⟩ := bnd hp
         refine FL.call (wF_yes rfl rfl rfl c115) rfl rfl (E.call Tryz.call88 (A2 rfl rfl)) (hrec_impl_formula_value S103.sl v26 y21.b (h28.mono i36) a1 hr117) ?_
         rintro e w118 ⟨rfl, r119⟩
         refine ⟨_, rfl, ?_⟩
         have S120 := S103.call r119
         obtain rfl := Option.some.inj hp
         refine FL.v (E.pickF rfl c115 rfl) ?_
         exact FL.nil ⟨rfl, _, S120, (Inc.rfl _), rfl⟩
       rintro f114 w113 ⟨H110, S111, i112, k121⟩
       refine FL.v (E.assign k121) ?_
       refine FL.nil ?_
       refine FW.ret ?_
       obtain rfl := Option.some.inj hp
       exact ⟨.inr rfl, res1 rfl rfl ⟨rfl, S111.back⟩⟩
      ·
       refine FW.condF rfl c98 ?_
       refine FW.skip (FW.seq (FW.region ?_))
       refine FL.v (E.move k40) ?_
       refine FL.v (E.move k39) ?_
       refine FL.v (E.nilCheck rfl) ?_
       refine FL.v (E.fieldAddr tf109_0 rfl) ?_
       refine FL.v (E.load rfl (run_load1 Tryz.isAgg5 ((at24.mono i36).now S35.sl) rfl)) ?_
       refine FL.v (E.subK rfl rfl) ?_
       obtain ⟨u123, z122, hp⟩ := bnd hp
       refine FL.v (E.shr rfl rfl (nn_ge z122)) ?_
       refine FL.v (E.and rfl rfl) ?_
       refine FL.v (E.eql rfl rfl) ?_
       refine FL.v (E.assign (v := Value.bool ((andK true 64 (shrK 64 a1 (wrk false 8 (y21.op - 97))) 1) == 1)) rfl) ?_
       refine FL.nil ?_
       refine FW.ret ?_
       obtain rfl := Option.some.inj hp
       exact ⟨.inr rfl, res1 rfl rfl ⟨rfl, S35.back⟩⟩
 ·
  intro x32; exact x32.elim
theorem w_impl_formula_value_F (n : Nat) : ∀ {Ha : GH} {wa : World} (hs : Sl Ha wa) (v0 : Value) (a0 : Fo) (p0 : FAt Ha v0 a0) (a1 : Int) {r : Bool} (hp : PF.impl_formula_value_F n a0 a1 = some r), Calls Tryz.prog 88 #[v0, Value.int .i64 a1] wa (Sc Ha wa (Value.bool r)) := by
 induction n with
 | zero => intros; rename_i hp; exact nomatch hp
 | succ n ih => exact w_impl_formula_value_B (rec_impl_formula_value := PF.impl_formula_value_F n) ih
theorem w_impl_formula_value {Ha : GH} {wa : World} (hs : Sl Ha wa) (v0 : Value) (a0 : Fo) (p0 : FAt Ha v0 a0) (a1 : Int) {r : Bool} (hp : PF.impl_formula_value a0 a1 = some r) :
  Calls Tryz.prog 88 #[v0, Value.int .i64 a1] wa (Sc Ha wa (Value.bool r)) := w_impl_formula_value_F deep hs v0 a0 p0 a1 hp

set_option maxHeartbeats 4000000 in
theorem w_impl_CountModels {Ha : GH} {wa : World} (hs : Sl Ha wa) (a0 : ByteArray) {r : (Int × Bool)} (hp : (PF.impl_CountModels a0) = some r) :
  Calls Tryz.prog 37 #[Value.string a0] wa (Sc Ha wa (Value.tuple #[Value.int .i64 r.1, Value.bool r.2])) := by
 unfold PF.impl_CountModels at hp
 have S0 := St.init hs
 refine calls_go (N := 25) (args := [Value.string a0]) Tryz.func37 rfl rfl rfl ?_
 refine FW.seq (FW.region ?_)
 refine FL.v (E.assign (v := Value.int .i64 0) rfl) ?_
 refine FL.v (E.assign (v := Value.bool false) rfl) ?_
 refine FL.nil (FW.seq (FW.region ?_))
 refine FL.v (E.move (v := Value.string a0) rfl) ?_
 obtain ⟨r21, hr22, hp⟩ := bnd hp
 refine FL.call rfl rfl rfl (E.call Tryz.call78 (A1 rfl)) (w_impl_parse S0.sl a0 hr22) ?_
 rintro e w24 ⟨H23, v27, rfl, r26, h28⟩
 refine ⟨_, rfl, ?_⟩
 have S25 := S0.call r26
 refine FL.v (E.move (v := Value.tuple #[v27, Value.bool r21.2]) rfl) ?_
 refine FL.v (E.extract (i := 0) rfl rfl) ?_
 refine FL.v (E.extract (i := 1) rfl rfl) ?_
 refine FL.v (E.assign (v := v27) rfl) ?_
 refine FL.v (E.assign (v := Value.bool r21.2) rfl) ?_
 refine FL.nil (FW.seq (FW.seq (FW.region ?_)))
 refine FL.v (E.move (v := Value.bool r21.2) rfl) ?_
 refine FL.v (E.not rfl) ?_
 refine FL.nil ?_
 rcases ifB hp with ⟨c29, hp⟩ | ⟨c29, hp⟩
 ·
  refine FW.condT rfl c29 ?_
  refine FW.seq (FW.region ?_)
  refine FL.v (E.assign (v := Value.int .i64 0) rfl) ?_
  refine FL.v (E.assign (v := Value.bool false) rfl) ?_
  refine FL.nil ?_
  refine FW.ret ?_
  obtain rfl := Option.some.inj hp
  exact ⟨.inr rfl, res2 rfl rfl rfl ⟨rfl, S25.back⟩⟩
 ·
  refine FW.condF rfl c29 ?_
  refine FW.skip (FW.seq (FW.region ?_))
  refine FL.v (E.assign (v := Value.int .i64 0) rfl) ?_
  refine FL.nil (FW.seq (FW.seq (FW.region ?_)))
  refine FL.v (E.move (v := Value.int .i64 0) rfl) ?_
  refine FL.nil ?_
  obtain ⟨q30, hq, hp⟩ := bndR hp
  refine FW.block ?_
  refine FW.mono (FW.forR (S := Int) (X := Empty) (fun (i30 : Nat) (s30 : Int) f w => ∃ H : GH, St Ha wa H w [] ∧ Inc H23 H ∧ f 15 = Value.int .i64 ((i30 : Nat) : Int) ∧ f 4 = v27 ∧ f 6 = Value.int .i64 s30) (fun (q : Rs Int Empty) e f w => match q with | .go s30 => e = Exit.exit 0 ∧ (∃ H : GH, St Ha wa H w [] ∧ Inc H23 H ∧ f 6 = Value.int .i64 s30) | .rt x => x.elim) hq ⟨_, S25, (Inc.rfl _), rfl, rfl, rfl⟩ ?_ ?_) ?_
  ·
   clear hp hq
   rintro i30 s30 f49 w48 ⟨H45, S46, i47, k50, k51, k52⟩ hi30 hj30 o59 hp
   refine FW.seq (FW.region ?_)
   refine FL.v (E.lssT k50 rfl (lss_nat hj30)) ?_
   refine FL.nil (FW.seq ?_)
   refine FW.condT rfl rfl ?_
   refine FW.skip (FW.seq (FW.block (FW.seq (FW.region ?_))))
   refine FL.v (E.move k50) ?_
   refine FL.v (E.assign (v := Value.int .i64 ((i30 : Nat) : Int)) rfl) ?_
   refine FL.nil (FW.seq (FW.region ?_))
   refine FL.v (E.move k51) ?_
   refine FL.v (E.move (v := Value.int .i64 ((i30 : Nat) : Int)) rfl) ?_
   obtain ⟨r53, hr54, hp⟩ := bnd hp
   refine FL.call rfl rfl rfl (E.call Tryz.call88 (A2 rfl rfl)) (w_impl_formula_value S46.sl v27 r21.1 (h28.mono i47) ((i30 : Nat) : Int) hr54) ?_
   rintro e w55 ⟨rfl, r56⟩
   refine ⟨_, rfl, ?_⟩
   have S57 := S46.call r56
   refine FL.nil ?_
   rcases ifB hp with ⟨c58, hp⟩ | ⟨c58, hp⟩
   ·
    refine FW.condT rfl c58 ?_
    refine FW.region ?_
    refine FL.v (E.move k52) ?_
    refine FL.v (E.add rfl rfl) ?_
    refine FL.v (E.assign (v := Value.int .i64 (wr (s30 + 1))) rfl) ?_
    refine FL.nil (FW.region ?_)
    refine FL.v (E.add k50 rfl) ?_
    refine FL.v (E.move (v := Value.int .i64 (wr (((i30 : Nat) : Int) + 1))) rfl) ?_
    refine FL.nil ?_
    obtain rfl := Option.some.inj hp
    exact ⟨rfl, ⟨_, S57, i47, (nat_succ rfl hj30 (by simp [maxLen])), k51, rfl⟩⟩
   ·
    refine FW.condF rfl c58 ?_
    refine FW.skip (FW.region ?_)
    refine FL.v (E.add k50 rfl) ?_
    refine FL.v (E.move (v := Value.int .i64 (wr (((i30 : Nat) : Int) + 1))) rfl) ?_
    refine FL.nil ?_
    obtain rfl := Option.some.inj hp
    exact ⟨rfl, ⟨_, S57, i47, (nat_succ rfl hj30 (by simp [maxLen])), k51, k52⟩⟩
  ·
   clear hp hq
   rintro s30 f70 w69 ⟨H66, S67, i68, k71, k72, k73⟩
   refine FW.seq (FW.region ?_)
   refine FL.v (E.lss k71 rfl) ?_
   refine FL.nil (FW.seq ?_)
   refine FW.condF rfl dlt_maxnat ?_
   refine FW.exit ?_
   exact ⟨nofun, rfl, ⟨_, S67, i68, k73⟩⟩
  ·
   clear hq
   intro e f64 w63 hD
   rcases q30 with s30 | x30
   ·
    obtain ⟨rfl, hD⟩ := hD
    obtain ⟨H60, S61, i62, k65⟩ := hD
    replace hp := el_go hp
    refine FW.seq (FW.region ?_)
    refine FL.v (E.move k65) ?_
    refine FL.v (E.assign (v := Value.int .i64 s30) rfl) ?_
    refine FL.v (E.assign (v := Value.bool true) rfl) ?_
    refine FL.nil ?_
    refine FW.ret ?_
    obtain rfl := Option.some.inj hp
    exact ⟨.inr rfl, res2 rfl rfl rfl ⟨rfl, S61.back⟩⟩
   ·
    exact x30.elim

theorem w_impl_within {Ha : GH} {wa : World} (hs : Sl Ha wa) (a0 : Int) (a1 : Int) (a2 : Int) :
  Calls Tryz.prog 91 #[Value.int .i64 a0, Value.int .i64 a1, Value.int .i64 a2] wa (Sc Ha wa (Value.bool (PF.impl_within a0 a1 a2))) := by
 obtain ⟨r, hp⟩ : ∃ r, (PF.impl_within a0 a1 a2) = r := ⟨_, rfl⟩
 rw [hp]
 unfold PF.impl_within at hp
 have S0 := St.init hs
 refine calls_go (N := 15) (args := [Value.int .i64 a0, Value.int .i64 a1, Value.int .i64 a2]) Tryz.func91 rfl rfl rfl ?_
 refine FW.seq (FW.region ?_)
 refine FL.v (E.assign (v := Value.bool false) rfl) ?_
 refine FL.nil (FW.seq (FW.region ?_))
 refine FL.v (E.move (v := Value.int .i64 a0) rfl) ?_
 refine FL.v (E.move (v := Value.int .i64 a1) rfl) ?_
 refine FL.v (E.geq rfl rfl) ?_
 refine FL.v (E.move (v := Value.bool (decide (a1 ≤ a0))) rfl) ?_
 refine FL.cut 4 (fun f w => ∃ H : GH, St Ha wa H w [] ∧ Inc Ha H ∧ f 14 = Value.bool (bif (decide (a1 ≤ a0)) then (decide (a0 ≤ a2)) else false)) ?_ ?_
 ·
  rcases bcase (decide (a1 ≤ a0)) with c27 | c27
  ·
   refine FL.val (wF_yes rfl rfl rfl c27) rfl rfl (E.move (v := Value.int .i64 a0) rfl) ?_
   refine FL.val (wF_yes rfl rfl rfl c27) rfl rfl (E.move (v := Value.int .i64 a2) rfl) ?_
   refine FL.val (wF_yes rfl rfl rfl c27) rfl rfl (E.leq rfl rfl) ?_
   refine FL.v (E.pickT rfl c27 rfl) ?_
   exact FL.nil ⟨rfl, _, S0, (Inc.rfl _), (congrArg Value.bool (bifT c27).symm)⟩
  ·
   refine FL.skip (wF_no rfl rfl rfl c27) rfl ?_
   refine FL.skip (wF_no rfl rfl rfl c27) rfl ?_
   refine FL.skip (wF_no rfl rfl rfl c27) rfl ?_
   refine FL.v (E.pickF rfl c27 rfl) ?_
   exact FL.nil ⟨rfl, _, S0, (Inc.rfl _), (congrArg Value.bool (bifF c27).symm)⟩
 rintro f26 w25 ⟨H22, S23, i24, k28⟩
 refine FL.v (E.assign k28) ?_
 refine FL.nil ?_
 refine FW.ret ?_
 obtain rfl := hp
 exact ⟨.inr rfl, res1 rfl rfl ⟨rfl, S23.back⟩⟩

theorem w_impl_isVar {Ha : GH} {wa : World} (hs : Sl Ha wa) (a0 : Int) (a1 : Int) :
  Calls Tryz.prog 182 #[Value.int .i64 a0, Value.int .i64 a1] wa (Sc Ha wa (Value.bool (PF.impl_isVar a0 a1))) := by
 obtain ⟨r, hp⟩ : ∃ r, (PF.impl_isVar a0 a1) = r := ⟨_, rfl⟩
 rw [hp]
 unfold PF.impl_isVar at hp
 have S0 := St.init hs
 refine calls_go (N := 8) (args := [Value.int .i64 a0, Value.int .i64 a1]) Tryz.func182 rfl rfl rfl ?_
 refine FW.seq (FW.region ?_)
 refine FL.v (E.assign (v := Value.bool false) rfl) ?_
 refine FL.nil (FW.seq (FW.region ?_))
 refine FL.v (E.move (v := Value.int .i64 a1) rfl) ?_
 refine FL.v (E.move (v := Value.int .i64 a0) rfl) ?_
 refine FL.call rfl rfl rfl (E.call Tryz.call91 (A3 rfl rfl rfl)) (w_impl_within S0.sl a1 1 a0) ?_
 rintro e w21 ⟨rfl, r22⟩
 refine ⟨_, rfl, ?_⟩
 have S23 := S0.call r22
 refine FL.v (E.assign (v := Value.bool (PF.impl_within a1 1 a0)) rfl) ?_
 refine FL.nil ?_
 refine FW.ret ?_
 obtain rfl := hp
 exact ⟨.inr rfl, res1 rfl rfl ⟨rfl, S23.back⟩⟩

set_option maxHeartbeats 4000000 in
theorem w_impl_gateOk {Ha : GH} {wa : World} (hs : Sl Ha wa) (a0 : Int) (a1 : Int) (a2 : Gate) {r : Bool} (hp : (PF.impl_gateOk a0 a1 a2) = some r) :
  Calls Tryz.prog 139 #[Value.int .i64 a0, Value.int .i64 a1, Value.agg #[Value.int .i64 a2.kind, Value.int .i64 a2.a, Value.int .i64 a2.b]] wa (Sc Ha wa (Value.bool r)) := by
 unfold PF.impl_gateOk at hp
 have S0 := St.init hs
 refine calls_go (N := 58) (args := [Value.int .i64 a0, Value.int .i64 a1, Value.agg #[Value.int .i64 a2.kind, Value.int .i64 a2.a, Value.int .i64 a2.b]]) Tryz.func139 rfl rfl rfl ?_
 refine FW.seq (FW.region ?_)
 obtain ⟨b21, w22, run23, S24⟩ := S0.box (P := Tryz.prog) 118 [Value.int .i64 a2.kind, Value.int .i64 a2.a, Value.int .i64 a2.b] (v := Value.agg #[Value.int .i64 a2.kind, Value.int .i64 a2.a, Value.int .i64 a2.b]) rfl (ones_cons rfl (ones_cons rfl (ones_cons rfl ones_nil)))
 refine FL.v (E.box rfl run23) ?_
 obtain ⟨H25, S26, i27, at28⟩ := S24.sealBox (i := 0) (l' := []) rfl rfl
 refine FL.v (E.assign (v := Value.bool false) rfl) ?_
 refine FL.nil (FW.seq (FW.seq (FW.region ?_)))
 refine FL.v (E.fieldAddr tf118_0 rfl) ?_
 refine FL.v (E.load rfl (run_load1 Tryz.isAgg3 (at28.now S26.sl) rfl)) ?_
 refine FL.nil (FW.block (FW.seq (FW.region ?_)))
 refine FL.v (E.eql rfl rfl) ?_
 refine FL.v (E.assign (v := Value.bool (a2.kind == 1)) rfl) ?_
 refine FL.nil ?_
 rcases ifB hp with ⟨c29, hp⟩ | ⟨c29, hp⟩
 ·
  refine FW.condT rfl c29 ?_
  refine FW.seq (FW.region ?_)
  refine FL.v (E.move (v := Value.int .i64 a0) rfl) ?_
  refine FL.v (E.fieldAddr tf118_1 rfl) ?_
  refine FL.v (E.load rfl (run_load1 Tryz.isAgg3 (at28.now S26.sl) rfl)) ?_
  refine FL.call rfl rfl rfl (E.call Tryz.call182 (A2 rfl rfl)) (w_impl_isVar S26.sl a0 a2.a) ?_
  rintro e w30 ⟨rfl, r31⟩
  refine ⟨_, rfl, ?_⟩
  have S32 := S26.call r31
  refine FL.v (E.move (v := Value.bool (PF.impl_isVar a0 a2.a)) rfl) ?_
  refine FL.cut 4 (fun f w => ∃ H : GH, St Ha wa H w [] ∧ Inc H25 H ∧ f 19 = Value.bool (bif (PF.impl_isVar a0 a2.a) then (a2.b == 0) else false)) ?_ ?_
  ·
   rcases bcase (PF.impl_isVar a0 a2.a) with c39 | c39
   ·
    refine FL.val (wF_yes rfl rfl rfl c39) rfl rfl (E.fieldAddr tf118_2 rfl) ?_
    refine FL.val (wF_yes rfl rfl rfl c39) rfl rfl (E.load rfl (run_load1 Tryz.isAgg3 (at28.now S32.sl) rfl)) ?_
    refine FL.val (wF_yes rfl rfl rfl c39) rfl rfl (E.eql rfl rfl) ?_
    refine FL.v (E.pickT rfl c39 rfl) ?_
    exact FL.nil ⟨rfl, _, S32, (Inc.rfl _), (congrArg Value.bool (bifT c39).symm)⟩
   ·
    refine FL.skip (wF_no rfl rfl rfl c39) rfl ?_
    refine FL.skip (wF_no rfl rfl rfl c39) rfl ?_
    refine FL.skip (wF_no rfl rfl rfl c39) rfl ?_
    refine FL.v (E.pickF rfl c39 rfl) ?_
    exact FL.nil ⟨rfl, _, S32, (Inc.rfl _), (congrArg Value.bool (bifF c39).symm)⟩
  rintro f38 w37 ⟨H34, S35, i36, k40⟩
  refine FL.v (E.assign k40) ?_
  refine FL.nil ?_
  refine FW.ret ?_
  obtain rfl := Option.some.inj hp
  exact ⟨.inr rfl, res1 rfl rfl ⟨rfl, S35.back⟩⟩
 ·
  refine FW.condF rfl c29 ?_
  refine FW.seq (FW.seq (FW.region ?_))
  refine FL.v (E.eql rfl rfl) ?_
  refine FL.v (E.assign (v := Value.bool (a2.kind == 2)) rfl) ?_
  refine FL.nil ?_
  obtain ⟨q43, hq, hp⟩ := bndR hp
  refine FW.joinE (S := Bool) (X := Empty) (q := q43) (fun s42 f w => ∃ H : GH, St Ha wa H w [] ∧ Inc H25 H ∧ f 1 = Value.int .i64 a1 ∧ f 5 = Value.pointer (some ⟨b21, 0, none⟩) ∧ f 8 = Value.int .i64 a2.kind ∧ f 20 = Value.bool s42) (fun (_ : Empty) _ _ _ => False) ?_ ?_ ?_
  ·
   clear hp; have hp := hq; clear hq
   rcases ifB hp with ⟨c45, hp⟩ | ⟨c45, hp⟩
   ·
    refine FW.condT rfl c45 ?_
    refine FW.skip ?_
    obtain rfl := Option.some.inj hp
    exact ⟨rfl, ⟨_, S26, (Inc.rfl _), rfl, rfl, rfl, rfl⟩⟩
   ·
    refine FW.condF rfl c45 ?_
    refine FW.region ?_
    refine FL.v (E.eql rfl rfl) ?_
    refine FL.v (E.assign (v := Value.bool (a2.kind == 3)) rfl) ?_
    refine FL.nil ?_
    obtain rfl := Option.some.inj hp
    exact ⟨rfl, ⟨_, S26, (Inc.rfl _), rfl, rfl, rfl, rfl⟩⟩
  ·
   rintro s42 rfl f50 w49 ⟨H46, S47, i48, k51, k52, k53, k54⟩
   replace hp := el_go hp
   rcases ifB hp with ⟨c55, hp⟩ | ⟨c55, hp⟩
   ·
    refine FW.condT k54 c55 ?_
    refine FW.seq (FW.region ?_)
    refine FL.v (E.fieldAddr tf118_1 k52) ?_
    refine FL.v (E.load rfl (run_load1 Tryz.isAgg3 ((at28.mono i48).now S47.sl) rfl)) ?_
    refine FL.v (E.eql rfl rfl) ?_
    refine FL.v (E.move (v := Value.bool (a2.a == 0)) rfl) ?_
    refine FL.cut 4 (fun f w => ∃ H : GH, St Ha wa H w [] ∧ Inc H46 H ∧ f 30 = Value.bool (bif (a2.a == 0) then (a2.b == 0) else false)) ?_ ?_
    ·
     rcases bcase (a2.a == 0) with c62 | c62
     ·
      refine FL.val (wF_yes rfl rfl rfl c62) rfl rfl (E.fieldAddr tf118_2 k52) ?_
      refine FL.val (wF_yes rfl rfl rfl c62) rfl rfl (E.load rfl (run_load1 Tryz.isAgg3 ((at28.mono i48).now S47.sl) rfl)) ?_
      refine FL.val (wF_yes rfl rfl rfl c62) rfl rfl (E.eql rfl rfl) ?_
      refine FL.v (E.pickT rfl c62 rfl) ?_
      exact FL.nil ⟨rfl, _, S47, (Inc.rfl _), (congrArg Value.bool (bifT c62).symm)⟩
     ·
      refine FL.skip (wF_no rfl rfl rfl c62) rfl ?_
      refine FL.skip (wF_no rfl rfl rfl c62) rfl ?_
      refine FL.skip (wF_no rfl rfl rfl c62) rfl ?_
      refine FL.v (E.pickF rfl c62 rfl) ?_
      exact FL.nil ⟨rfl, _, S47, (Inc.rfl _), (congrArg Value.bool (bifF c62).symm)⟩
    rintro f61 w60 ⟨H57, S58, i59, k63⟩
    refine FL.v (E.assign k63) ?_
    refine FL.nil ?_
    refine FW.ret ?_
    obtain rfl := Option.some.inj hp
    exact ⟨.inr rfl, res1 rfl rfl ⟨rfl, S58.back⟩⟩
   ·
    refine FW.condF k54 c55 ?_
    refine FW.seq (FW.region ?_)
    refine FL.v (E.eql k53 rfl) ?_
    refine FL.v (E.assign (v := Value.bool (a2.kind == 4)) rfl) ?_
    refine FL.nil ?_
    rcases ifB hp with ⟨c64, hp⟩ | ⟨c64, hp⟩
    ·
     refine FW.condT rfl c64 ?_
     refine FW.seq (FW.region ?_)
     refine FL.v (E.fieldAddr tf118_1 k52) ?_
     refine FL.v (E.load rfl (run_load1 Tryz.isAgg3 ((at28.mono i48).now S47.sl) rfl)) ?_
     refine FL.v (E.move k51) ?_
     refine FL.v (E.sub rfl rfl) ?_
     refine FL.call rfl rfl rfl (E.call Tryz.call91 (A3 rfl rfl rfl)) (w_impl_within S47.sl a2.a 0 (wr (a1 - 1))) ?_
     rintro e w65 ⟨rfl, r66⟩
     refine ⟨_, rfl, ?_⟩
     have S67 := S47.call r66
     refine FL.v (E.move (v := Value.bool (PF.impl_within a2.a 0 (wr (a1 - 1)))) rfl) ?_
     refine FL.cut 4 (fun f w => ∃ H : GH, St Ha wa H w [] ∧ Inc H46 H ∧ f 42 = Value.bool (bif (PF.impl_within a2.a 0 (wr (a1 - 1))) then (a2.b == 0) else false)) ?_ ?_
     ·
      rcases bcase (PF.impl_within a2.a 0 (wr (a1 - 1))) with c74 | c74
      ·
       refine FL.val (wF_yes rfl rfl rfl c74) rfl rfl (E.fieldAddr tf118_2 k52) ?_
       refine FL.val (wF_yes rfl rfl rfl c74) rfl rfl (E.load rfl (run_load1 Tryz.isAgg3 ((at28.mono i48).now S67.sl) rfl)) ?_
       refine FL.val (wF_yes rfl rfl rfl c74) rfl rfl (E.eql rfl rfl) ?_
       refine FL.v (E.pickT rfl c74 rfl) ?_
       exact FL.nil ⟨rfl, _, S67, (Inc.rfl _), (congrArg Value.bool (bifT c74).symm)⟩
      ·
       refine FL.skip (wF_no rfl rfl rfl c74) rfl ?_
       refine FL.skip (wF_no rfl rfl rfl c74) rfl ?_
       refine FL.skip (wF_no rfl rfl rfl c74) rfl ?_
       refine FL.v (E.pickF rfl c74 rfl) ?_
       exact FL.nil ⟨rfl, _, S67, (Inc.rfl _), (congrArg Value.bool (bifF c74).symm)⟩
     rintro f73 w72 ⟨H69, S70, i71, k75⟩
     refine FL.v (E.assign k75) ?_
     refine FL.nil ?_
     refine FW.ret ?_
     obtain rfl := Option.some.inj hp
     exact ⟨.inr rfl, res1 rfl rfl ⟨rfl, S70.back⟩⟩
    ·
     refine FW.condF rfl c64 ?_
     refine FW.seq (FW.seq (FW.region ?_))
     refine FL.v (E.eql k53 rfl) ?_
     refine FL.v (E.assign (v := Value.bool (a2.kind == 5)) rfl) ?_
     refine FL.nil ?_
     obtain ⟨q78, hq, hp⟩ := bndR hp
     refine FW.joinE (S := Bool) (X := Empty) (q := q78) (fun s77 f w => ∃ H : GH, St Ha wa H w [] ∧ Inc H46 H ∧ f 1 = Value.int .i64 a1 ∧ f 5 = Value.pointer (some ⟨b21, 0, none⟩) ∧ f 43 = Value.bool s77) (fun (_ : Empty) _ _ _ => False) ?_ ?_ ?_
     ·
      clear hp; have hp := hq; clear hq
      rcases ifB hp with ⟨c80, hp⟩ | ⟨c80, hp⟩
      ·
       refine FW.condT rfl c80 ?_
       refine FW.skip ?_
       obtain rfl := Option.some.inj hp
       exact ⟨rfl, ⟨_, S47, (Inc.rfl _), k51, k52, rfl⟩⟩
      ·
       refine FW.condF rfl c80 ?_
       refine FW.region ?_
       refine FL.v (E.eql k53 rfl) ?_
       refine FL.v (E.assign (v := Value.bool (a2.kind == 6)) rfl) ?_
       refine FL.nil ?_
       obtain rfl := Option.some.inj hp
       exact ⟨rfl, ⟨_, S47, (Inc.rfl _), k51, k52, rfl⟩⟩
     ·
      rintro s77 rfl f85 w84 ⟨H81, S82, i83, k86, k87, k88⟩
      replace hp := el_go hp
      rcases ifB hp with ⟨c89, hp⟩ | ⟨c89, hp⟩
      ·
       refine FW.condT k88 c89 ?_
       refine FW.seq (FW.region ?_)
       refine FL.v (E.fieldAddr tf118_1 k87) ?_
       refine FL.v (E.load rfl (run_load1 Tryz.isAgg3 ((at28.mono (i48.tr i83)).now S82.sl) rfl)) ?_
       refine FL.v (E.move k86) ?_
       refine FL.v (E.sub rfl rfl) ?_
       refine FL.call rfl rfl rfl (E.call Tryz.call91 (A3 rfl rfl rfl)) (w_impl_within S82.sl a2.a 0 (wr (a1 - 1))) ?_
       rintro e w90 ⟨rfl, r91⟩
       refine ⟨_, rfl, ?_⟩
       have S92 := S82.call r91
       refine FL.v (E.move (v := Value.bool (PF.impl_within a2.a 0 (wr (a1 - 1)))) rfl) ?_
       refine FL.cut 6 (fun f w => ∃ H : GH, St Ha wa H w [] ∧ Inc H81 H ∧ f 57 = Value.bool (bif (PF.impl_within a2.a 0 (wr (a1 - 1))) then (PF.impl_within a2.b 0 (wr (a1 - 1))) else false)) ?_ ?_
       ·
        rcases bcase (PF.impl_within a2.a 0 (wr (a1 - 1))) with c102 | c102
        ·
         refine FL.val (wF_yes rfl rfl rfl c102) rfl rfl (E.fieldAddr tf118_2 k87) ?_
         refine FL.val (wF_yes rfl rfl rfl c102) rfl rfl (E.load rfl (run_load1 Tryz.isAgg3 ((at28.mono (i48.tr i83)).now S92.sl) rfl)) ?_
         refine FL.val (wF_yes rfl rfl rfl c102) rfl rfl (E.move k86) ?_
         refine FL.val (wF_yes rfl rfl rfl c102) rfl rfl (E.sub rfl rfl) ?_
         refine FL.call (wF_yes rfl rfl rfl c102) rfl rfl (E.call Tryz.call91 (A3 rfl rfl rfl)) (w_impl_within S92.sl a2.b 0 (wr (a1 - 1))) ?_
         rintro e w103 ⟨rfl, r104⟩
         refine ⟨_, rfl, ?_⟩
         have S105 := S92.call r104
         refine FL.v (E.pickT rfl c102 rfl) ?_
         exact FL.nil ⟨rfl, _, S105, (Inc.rfl _), (congrArg Value.bool (bifT c102).symm)⟩
        ·
         refine FL.skip (wF_no rfl rfl rfl c102) rfl ?_
         refine FL.skip (wF_no rfl rfl rfl c102) rfl ?_
         refine FL.skip (wF_no rfl rfl rfl c102) rfl ?_
         refine FL.skip (wF_no rfl rfl rfl c102) rfl ?_
         refine FL.skip (wF_no rfl rfl rfl c102) rfl ?_
         refine FL.v (E.pickF rfl c102 rfl) ?_
         exact FL.nil ⟨rfl, _, S92, (Inc.rfl _), (congrArg Value.bool (bifF c102).symm)⟩
       rintro f101 w100 ⟨H97, S98, i99, k106⟩
       refine FL.v (E.assign k106) ?_
       refine FL.nil ?_
       refine FW.ret ?_
       obtain rfl := Option.some.inj hp
       exact ⟨.inr rfl, res1 rfl rfl ⟨rfl, S98.back⟩⟩
      ·
       refine FW.condF k88 c89 ?_
       refine FW.skip (FW.seq (FW.region ?_))
       refine FL.v (E.assign (v := Value.bool false) rfl) ?_
       refine FL.nil ?_
       refine FW.ret ?_
       obtain rfl := Option.some.inj hp
       exact ⟨.inr rfl, res1 rfl rfl ⟨rfl, S82.back⟩⟩
     ·
      intro x79; exact x79.elim
  ·
   intro x44; exact x44.elim

theorem w_impl_varsOk {Ha : GH} {wa : World} (hs : Sl Ha wa) (a0 : Int) :
  Calls Tryz.prog 140 #[Value.int .i64 a0] wa (Sc Ha wa (Value.bool (PF.impl_varsOk a0))) := by
 obtain ⟨r, hp⟩ : ∃ r, (PF.impl_varsOk a0) = r := ⟨_, rfl⟩
 rw [hp]
 unfold PF.impl_varsOk at hp
 have S0 := St.init hs
 refine calls_go (N := 5) (args := [Value.int .i64 a0]) Tryz.func140 rfl rfl rfl ?_
 refine FW.seq (FW.region ?_)
 refine FL.v (E.assign (v := Value.bool false) rfl) ?_
 refine FL.nil (FW.seq (FW.region ?_))
 refine FL.v (E.move (v := Value.int .i64 a0) rfl) ?_
 refine FL.call rfl rfl rfl (E.call Tryz.call91 (A3 rfl rfl rfl)) (w_impl_within S0.sl a0 0 12) ?_
 rintro e w21 ⟨rfl, r22⟩
 refine ⟨_, rfl, ?_⟩
 have S23 := S0.call r22
 refine FL.v (E.assign (v := Value.bool (PF.impl_within a0 0 12)) rfl) ?_
 refine FL.nil ?_
 refine FW.ret ?_
 obtain rfl := hp
 exact ⟨.inr rfl, res1 rfl rfl ⟨rfl, S23.back⟩⟩

set_option maxHeartbeats 4000000 in
theorem w_impl_IsCircuit {Ha : GH} {wa : World} (hs : Sl Ha wa) (a0 : Int) (v1 : Value) (a1 : List Gate) (p1 : RSl Ha eGate 3 v1 a1) {r : Bool} (hp : (PF.impl_IsCircuit a0 a1) = some r) :
  Calls Tryz.prog 89 #[Value.int .i64 a0, v1] wa (Sc Ha wa (Value.bool r)) := by
 unfold PF.impl_IsCircuit at hp
 have S0 := St.init hs
 refine calls_go (N := 27) (args := [Value.int .i64 a0, v1]) Tryz.func89 rfl rfl rfl ?_
 refine FW.seq (FW.region ?_)
 refine FL.v (E.assign (v := Value.bool false) rfl) ?_
 refine FL.nil (FW.seq (FW.seq (FW.region ?_)))
 refine FL.v (E.move (v := v1) rfl) ?_
 refine FL.v (E.lenP te50 rfl p1) ?_
 refine FL.v (E.move (v := Value.int .i64 0) rfl) ?_
 refine FL.nil ?_
 obtain ⟨q22, hq, hp⟩ := bndR hp
 refine FW.block ?_
 refine FW.mono (FW.forL (S := Unit) (X := Bool) (fun (i22 : Nat) (s22 : Unit) f w => ∃ H : GH, St Ha wa H w [] ∧ Inc Ha H ∧ f 9 = Value.int .i64 ((i22 : Nat) : Int) ∧ f 0 = Value.int .i64 a0 ∧ f 1 = v1 ∧ f 7 = v1 ∧ f 8 = Value.int .i64 (len a1)) (fun q e f w => match q with | .go s22 => e = Exit.exit 0 ∧ (∃ H : GH, St Ha wa H w [] ∧ Inc Ha H ∧ f 0 = Value.int .i64 a0 ∧ f 1 = v1) | .rt x => ((e = Exit.ret) ∧ (fun e f w => (e = Exit.normal ∨ e = Exit.ret) ∧ ∀ a, Fr (δ := []) 27 a f → ∃ v, (results Tryz.f89 a.tmps).run Tryz.prog w = .ok v w ∧ (Sc Ha wa (Value.bool x)) (.returned v) w) e f w)) hq ⟨_, S0, (Inc.rfl _), rfl, rfl, rfl, rfl, rfl⟩ ?_ ?_) ?_
 ·
  clear hp hq
  rintro i22 y21 s22 f60 w59 ⟨H56, S57, i58, k61, k62, k63, k64, k65⟩ hx22 o89 hp
  refine FW.seq (FW.region ?_)
  refine FL.v (E.lssT k61 k65 (lss_len hx22)) ?_
  refine FL.nil (FW.seq ?_)
  refine FW.condT rfl rfl ?_
  refine FW.skip (FW.seq (FW.block (FW.seq (FW.region ?_))))
  refine FL.v (E.move k61) ?_
  obtain ⟨p66, cs67, pt68, l69, at70, rel71⟩ := p1.at (ix_nat hx22)
  obtain rfl := eGate_open rel71
  refine FL.v (E.indexAddr te50 k64 k61 pt68) ?_
  refine FL.v (E.load rfl (run_loadA Tryz.isAgg118 Tryz.sizeOf118 ((at70.mono i58).now S57.sl) rfl)) ?_
  obtain ⟨b72, w73, run74, S75⟩ := S57.alloc (P := Tryz.prog) 118 [Value.int .i64 0, Value.int .i64 0, Value.int .i64 0] Tryz.zeroValue118 rfl (ones_cons rfl (ones_cons rfl (ones_cons rfl ones_nil)))
  refine FL.v (E.alloc run74) ?_
  refine FL.v (E.assign (v := Value.int .i64 ((i22 : Nat) : Int)) rfl) ?_
  obtain ⟨w76, run77, S78⟩ := S75.store0 (P := Tryz.prog) (t := 118) (i := 0) (cs' := [Value.int .i64 y21.kind, Value.int .i64 y21.a, Value.int .i64 y21.b]) (l' := [.box b72 118 [Value.int .i64 y21.kind, Value.int .i64 y21.a, Value.int .i64 y21.b]]) (v := Value.agg #[Value.int .i64 y21.kind, Value.int .i64 y21.a, Value.int .i64 y21.b]) (c := [Value.int .i64 y21.kind, Value.int .i64 y21.a, Value.int .i64 y21.b]) rfl Tryz.sizeOf118 rfl rfl (ones_cons rfl (ones_cons rfl (ones_cons rfl ones_nil))) (Nat.le_of_ble_eq_true rfl) rfl rfl
  refine FL.act rfl rfl (E.store rfl rfl run77) ?_
  obtain ⟨H79, S80, i81, at82⟩ := S78.sealBox (i := 0) (l' := []) rfl rfl
  refine FL.nil (FW.seq (FW.region ?_))
  refine FL.v (E.move k62) ?_
  refine FL.v (E.move (v := Value.int .i64 ((i22 : Nat) : Int)) rfl) ?_
  refine FL.v (E.load rfl (run_loadA Tryz.isAgg118 Tryz.sizeOf118 (at82.now S80.sl) rfl)) ?_
  obtain ⟨r83, hr84, hp⟩ := bnd hp
  refine FL.call rfl rfl rfl (E.call Tryz.call139 (A3 rfl rfl rfl)) (w_impl_gateOk S80.sl a0 ((i22 : Nat) : Int) y21 hr84) ?_
  rintro e w85 ⟨rfl, r86⟩
  refine ⟨_, rfl, ?_⟩
  have S87 := S80.call r86
  refine FL.v (E.not rfl) ?_
  refine FL.nil ?_
  rcases ifB hp with ⟨c88, hp⟩ | ⟨c88, hp⟩
  ·
   refine FW.condT rfl c88 ?_
   refine FW.seq (FW.region ?_)
   refine FL.v (E.assign (v := Value.bool false) rfl) ?_
   refine FL.nil ?_
   refine FW.ret ?_
   obtain rfl := Option.some.inj hp
   exact ⟨nofun, rfl, ⟨.inr rfl, res1 rfl rfl ⟨rfl, S87.back⟩⟩⟩
  ·
   refine FW.condF rfl c88 ?_
   refine FW.skip (FW.region ?_)
   refine FL.v (E.add k61 rfl) ?_
   refine FL.v (E.move (v := Value.int .i64 (wr (((i22 : Nat) : Int) + 1))) rfl) ?_
   refine FL.nil ?_
   obtain rfl := Option.some.inj hp
   exact ⟨rfl, ⟨_, S87, (i58.tr i81), (nat_succ rfl (lt_of_get hx22) (p1.mono (i58.tr i81)).le), k62, k63, k64, k65⟩⟩
 ·
  clear hp hq
  rintro s22 f118 w117 ⟨H114, S115, i116, k119, k120, k121, k122, k123⟩
  refine FW.seq (FW.region ?_)
  refine FL.v (E.lss k119 k123) ?_
  refine FL.nil (FW.seq ?_)
  refine FW.condF rfl dlt_len ?_
  refine FW.exit ?_
  exact ⟨nofun, rfl, ⟨_, S115, i116, k120, k121⟩⟩
 ·
  clear hq
  intro e f94 w93 hD
  rcases q22 with s22 | x22
  ·
   obtain ⟨rfl, hD⟩ := hD
   obtain ⟨H90, S91, i92, k95, k96⟩ := hD
   replace hp := el_go hp
   refine FW.seq (FW.region ?_)
   refine FL.v (E.move k95) ?_
   refine FL.call rfl rfl rfl (E.call Tryz.call140 (A1 rfl)) (w_impl_varsOk S91.sl a0) ?_
   rintro e w97 ⟨rfl, r98⟩
   refine ⟨_, rfl, ?_⟩
   have S99 := S91.call r98
   refine FL.v (E.move (v := Value.bool (PF.impl_varsOk a0)) rfl) ?_
   refine FL.cut 4 (fun f w => ∃ H : GH, St Ha wa H w [] ∧ Inc H90 H ∧ f 26 = Value.bool (bif (PF.impl_varsOk a0) then (PF.impl_within (len a1) 1 200) else false)) ?_ ?_
   ·
    rcases bcase (PF.impl_varsOk a0) with c109 | c109
    ·
     refine FL.val (wF_yes rfl rfl rfl c109) rfl rfl (E.move k96) ?_
     refine FL.val (wF_yes rfl rfl rfl c109) rfl rfl (E.lenP te50 rfl p1) ?_
     refine FL.call (wF_yes rfl rfl rfl c109) rfl rfl (E.call Tryz.call91 (A3 rfl rfl rfl)) (w_impl_within S99.sl (len a1) 1 200) ?_
     rintro e w110 ⟨rfl, r111⟩
     refine ⟨_, rfl, ?_⟩
     have S112 := S99.call r111
     refine FL.v (E.pickT rfl c109 rfl) ?_
     exact FL.nil ⟨rfl, _, S112, (Inc.rfl _), (congrArg Value.bool (bifT c109).symm)⟩
    ·
     refine FL.skip (wF_no rfl rfl rfl c109) rfl ?_
     refine FL.skip (wF_no rfl rfl rfl c109) rfl ?_
     refine FL.skip (wF_no rfl rfl rfl c109) rfl ?_
     refine FL.v (E.pickF rfl c109 rfl) ?_
     exact FL.nil ⟨rfl, _, S99, (Inc.rfl _), (congrArg Value.bool (bifF c109).symm)⟩
   rintro f108 w107 ⟨H104, S105, i106, k113⟩
   refine FL.v (E.assign k113) ?_
   refine FL.nil ?_
   refine FW.ret ?_
   obtain rfl := Option.some.inj hp
   exact ⟨.inr rfl, res1 rfl rfl ⟨rfl, S105.back⟩⟩
  ·
   obtain ⟨he, hL⟩ := hD
   replace hp := el_rt hp
   obtain rfl := Option.some.inj hp
   subst he
   exact hL

end Go.Proofs
