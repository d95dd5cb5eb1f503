/- Part of the walks and plain laws behind the claim: it proves helpers, under no condition beyond their own. -/
import Derived.Test.YtdkfkiifbagnnaaSsWk1
set_option linter.unusedVariables false
set_option maxRecDepth 100000
namespace Go.Proofs
open Go.Mr Go.Pu Go.PF Go.RowKit

@[reducible] def p_impl_leaf (Ha : GH) (wa : World) (r : Fo) : Ending → World → Prop :=
 fun e w' => ∃ H' : GH, ∃ v0 : Value, e = .returned (v0) ∧ Run wa.heap.size Ha wa H' w' ∧ FAt H' v0 r
theorem w_impl_leaf {Ha : GH} {wa : World} (hs : Sl Ha wa) (a0 : Int) {r : Fo} (hp : (PF.impl_leaf a0) = some r) :
  Calls Try.prog 71 #[Value.int .u8 a0] wa (p_impl_leaf Ha wa r) := by
 unfold PF.impl_leaf at hp
 have S0 := St.init hs
 refine calls_go (N := 8) (args := [Value.int .u8 a0]) Try.func71 rfl rfl rfl ?_
 refine FW.seq (FW.region ?_)
 refine FL.v (E.assign (v := Value.pointer none) rfl) ?_
 refine FL.nil (FW.seq (FW.region ?_))
 refine FL.v (E.move (v := Value.int .u8 a0) rfl) ?_
 refine FL.v (E.move (v := Value.int .u8 a0) rfl) ?_
 obtain ⟨z21, h22, hp⟩ := bnd hp
 refine FL.v (E.chr Try.runUnderlying5 Try.runUnderlying9 rfl h22) ?_
 refine FL.v (E.build (B2 rfl rfl) (run_build _ 68 #[(0, Value.int .u8 a0), (3, Value.string z21)] #[Value.int .u8 a0, Value.pointer none, Value.pointer none, Value.string z21] (by rfl))) ?_
 obtain ⟨b23, w24, run25, S26⟩ := S0.box (P := Try.prog) 68 [Value.int .u8 a0, Value.pointer none, Value.pointer none, Value.string z21] (v := Value.agg #[Value.int .u8 a0, Value.pointer none, Value.pointer none, Value.string z21]) rfl (ones_cons rfl (ones_cons rfl (ones_cons rfl (ones_cons rfl ones_nil))))
 refine FL.v (E.box rfl run25) ?_
 obtain ⟨H27, S28, i29, at30⟩ := S26.sealBox (i := 0) (l' := []) rfl rfl
 refine FL.v (E.assign (v := Value.pointer (some ⟨b23, 0, none⟩)) rfl) ?_
 refine FL.nil ?_
 refine FW.ret ?_
 obtain rfl := Option.some.inj hp
 exact ⟨.inr rfl, res1 rfl rfl ⟨_, _, rfl, S28.run, (FAt.mk at30 FAt.nil FAt.nil)⟩⟩

@[reducible] def p_impl_not (Ha : GH) (wa : World) (r : Fo) : Ending → World → Prop :=
 fun e w' => ∃ H' : GH, ∃ v0 : Value, e = .returned (v0) ∧ Run wa.heap.size Ha wa H' w' ∧ FAt H' v0 r
theorem w_impl_not {Ha : GH} {wa : World} (hs : Sl Ha wa) (v0 : Value) (a0 : Fo) (p0 : FAt Ha v0 a0) {r : Fo} (hp : (PF.impl_not a0) = some r) :
  Calls Try.prog 72 #[v0] wa (p_impl_not Ha wa r) := by
 unfold PF.impl_not at hp
 have S0 := St.init hs
 refine calls_go (N := 11) (args := [v0]) Try.func72 rfl rfl rfl ?_
 refine FW.seq (FW.region ?_)
 refine FL.v (E.assign (v := Value.pointer none) rfl) ?_
 refine FL.nil (FW.seq (FW.region ?_))
 refine FL.v (E.move (v := v0) rfl) ?_
 refine FL.v (E.move (v := v0) rfl) ?_
 obtain ⟨y21, hy22, hp⟩ := bnd hp
 obtain ⟨q23, v25, v26, rfl, at24, h27, h28⟩ := FAt.open p0 hy22
 refine FL.v (E.nilCheck rfl) ?_
 refine FL.v (E.fieldAddr tf68_3 rfl) ?_
 refine FL.v (E.load rfl (run_load1 Try.isAgg9 (at24.now S0.sl) rfl)) ?_
 obtain ⟨z29, h30, hp⟩ := bnd hp
 refine FL.v (E.addT rfl rfl h30) ?_
 refine FL.v (E.build (B3 rfl rfl rfl) (run_build _ 68 #[(0, Value.int .u8 126), (1, Value.pointer (some q23)), (3, Value.string z29)] #[Value.int .u8 126, Value.pointer (some q23), Value.pointer none, Value.string z29] (by rfl))) ?_
 obtain ⟨b31, w32, run33, S34⟩ := S0.box (P := Try.prog) 68 [Value.int .u8 126, Value.pointer (some q23), Value.pointer none, Value.string z29] (v := Value.agg #[Value.int .u8 126, Value.pointer (some q23), Value.pointer none, Value.string z29]) rfl (ones_cons rfl (ones_cons rfl (ones_cons rfl (ones_cons rfl ones_nil))))
 refine FL.v (E.box rfl run33) ?_
 obtain ⟨H35, S36, i37, at38⟩ := S34.sealBox (i := 0) (l' := []) rfl rfl
 refine FL.v (E.assign (v := Value.pointer (some ⟨b31, 0, none⟩)) rfl) ?_
 refine FL.nil ?_
 refine FW.ret ?_
 obtain rfl := Option.some.inj hp
 exact ⟨.inr rfl, res1 rfl rfl ⟨_, _, rfl, S36.run, (FAt.mk at38 (p0.mono i37) FAt.nil)⟩⟩

theorem w_strings_Contains {Ha : GH} {wa : World} (hs : Sl Ha wa) (a0 a1 : ByteArray) {r : Bool} (hp : (PF.strings_Contains a0 a1) = some r) : Calls Try.prog 73 #[Value.string a0, Value.string a1] wa (Sc Ha wa (Value.bool r)) := by
 unfold PF.strings_Contains at hp
 obtain ⟨c, rfl, rfl⟩ := hasS_some hp
 refine (Go.Proofs.Any.strings_Contains_one Try.cont73 a0 c wa).mono ?_
 rintro e w' ⟨rfl, rfl⟩
 exact ⟨rfl, Run.refl _ hs⟩

@[reducible] def p_impl_join (Ha : GH) (wa : World) (r : Fo) : Ending → World → Prop :=
 fun e w' => ∃ H' : GH, ∃ v0 : Value, e = .returned (v0) ∧ Run wa.heap.size Ha wa H' w' ∧ FAt H' v0 r
theorem w_impl_join {Ha : GH} {wa : World} (hs : Sl Ha wa) (a0 : Int) (v1 : Value) (a1 : Fo) (p1 : FAt Ha v1 a1) (v2 : Value) (a2 : Fo) (p2 : FAt Ha v2 a2) {r : Fo} (hp : (PF.impl_join a0 a1 a2) = some r) :
  Calls Try.prog 74 #[Value.int .u8 a0, v1, v2] wa (p_impl_join Ha wa r) := by
 unfold PF.impl_join at hp
 have S0 := St.init hs
 refine calls_go (N := 26) (args := [Value.int .u8 a0, v1, v2]) Try.func74 rfl rfl rfl ?_
 refine FW.seq (FW.region ?_)
 refine FL.v (E.assign (v := Value.pointer none) rfl) ?_
 refine FL.nil (FW.seq ?_)
 obtain ⟨y24, hy25, hp⟩ := bnd hp
 obtain ⟨z32, h33, hp⟩ := bnd hp
 obtain ⟨z34, h35, hp⟩ := bnd hp
 obtain ⟨z36, h37, hp⟩ := bnd hp
 obtain ⟨y38, hy39, hp⟩ := bnd hp
 obtain ⟨z46, h47, hp⟩ := bnd hp
 obtain ⟨z48, h49, hp⟩ := bnd hp
 refine FW.drawB (Sl Ha) (fun f w => ∃ H : GH, ∃ v58 : Value, St Ha wa H w [] ∧ Inc Ha H ∧ FAt H v58 (Fo.node a0 a1 a2 z48) ∧ f 6 = v58) (by kernel_rfl) S0.sl ?_ ?_
 ·
  intro w21 r22
  have S23 := S0.call r22
  refine FB.t (i := 0) (bs 20 1) rfl (SP.nil S23.sl) rfl (fun w' hw' => (E.move (v := Value.int .u8 a0) rfl)) ?_
  refine FB.t (i := 1) (bs 20 3) rfl (SP.nil S23.sl) rfl (fun w' hw' => (E.move (v := v1) rfl)) ?_
  refine FB.t (i := 2) (bs 20 7) rfl (SP.nil S23.sl) rfl (fun w' hw' => (E.move (v := v2) rfl)) ?_
  refine FB.t (i := 3) (bs 20 15) rfl (SP.nil S23.sl) rfl (fun w' hw' => (E.move (v := v1) rfl)) ?_
  obtain ⟨q26, v28, v29, rfl, at27, h30, h31⟩ := FAt.open p1 hy25
  refine FB.t (i := 4) (bs 20 31) rfl (SP.nil S23.sl) rfl (fun w' hw' => (E.nilCheck rfl)) ?_
  refine FB.t (i := 5) (bs 20 63) rfl (SP.nil S23.sl) rfl (fun w' hw' => (E.fieldAddr tf68_3 rfl)) ?_
  refine FB.t (i := 6) (bs 20 127) rfl (SP.nil S23.sl) rfl (fun w' hw' => (E.load rfl (run_load1 Try.isAgg9 (at27.now hw') rfl))) ?_
  refine FB.t (i := 7) (bs 20 255) rfl (SP.nil S23.sl) rfl (fun w' hw' => (E.addT rfl rfl h33)) ?_
  refine FB.t (i := 8) (bs 20 511) rfl (SP.nil S23.sl) rfl (fun w' hw' => (E.move (v := Value.int .u8 a0) rfl)) ?_
  refine FB.t (i := 9) (bs 20 1023) rfl (SP.nil S23.sl) rfl (fun w' hw' => (E.chr Try.runUnderlying5 Try.runUnderlying9 rfl h35)) ?_
  refine FB.t (i := 10) (bs 20 2047) rfl (SP.nil S23.sl) rfl (fun w' hw' => (E.addT rfl rfl h37)) ?_
  refine FB.t (i := 11) (bs 20 4095) rfl (SP.nil S23.sl) rfl (fun w' hw' => (E.move (v := v2) rfl)) ?_
  obtain ⟨q40, v42, v43, rfl, at41, h44, h45⟩ := FAt.open p2 hy39
  refine FB.t (i := 12) (bs 20 8191) rfl (SP.nil S23.sl) rfl (fun w' hw' => (E.nilCheck rfl)) ?_
  refine FB.t (i := 13) (bs 20 16383) rfl (SP.nil S23.sl) rfl (fun w' hw' => (E.fieldAddr tf68_3 rfl)) ?_
  refine FB.t (i := 14) (bs 20 32767) rfl (SP.nil S23.sl) rfl (fun w' hw' => (E.load rfl (run_load1 Try.isAgg9 (at41.now hw') rfl))) ?_
  refine FB.t (i := 15) (bs 20 65535) rfl (SP.nil S23.sl) rfl (fun w' hw' => (E.addT rfl rfl h47)) ?_
  refine FB.t (i := 16) (bs 20 131071) rfl (SP.nil S23.sl) rfl (fun w' hw' => (E.addT rfl rfl h49)) ?_
  refine FB.t (i := 17) (bs 20 262143) rfl (SP.nil S23.sl) rfl (fun w' hw' => (E.build (B4 rfl rfl rfl rfl) (run_build _ 68 #[(0, Value.int .u8 a0), (1, Value.pointer (some q26)), (2, Value.pointer (some q40)), (3, Value.string z48)] #[Value.int .u8 a0, Value.pointer (some q26), Value.pointer (some q40), Value.string z48] (by rfl)))) ?_
  refine FB.all1 (i := 18) (by kernel_rfl) ?_
  ·
   obtain ⟨b50, w51, run52, S53⟩ := S23.box (P := Try.prog) 68 [Value.int .u8 a0, Value.pointer (some q26), Value.pointer (some q40), Value.string z48] (v := Value.agg #[Value.int .u8 a0, Value.pointer (some q26), Value.pointer (some q40), Value.string z48]) rfl (ones_cons rfl (ones_cons rfl (ones_cons rfl (ones_cons rfl ones_nil))))
   refine FC.val (l' := (bs 20 524287)) rfl (by kernel_rfl) rfl rfl rfl (E.box rfl run52) ?_
   obtain ⟨H54, S55, i56, at57⟩ := S53.sealBox (i := 0) (l' := []) rfl rfl
   refine ⟨(SP.nil (Sl.of_inc i56 S55.sl)), ?_⟩
   refine FB.t (i := 19) (bs 20 1048575) rfl (SP.nil (Sl.of_inc i56 S55.sl)) rfl (fun w' hw' => (E.assign (v := Value.pointer (some ⟨b50, 0, none⟩)) rfl)) ?_
   exact FB.done (by kernel_rfl) ⟨_, _, S55, i56, (FAt.mk at57 (p1.mono i56) (p2.mono i56)), rfl⟩
 ·
  rintro f64 w63 ⟨H60, v58, S61, i62, h59, k65⟩
  refine FW.ret ?_
  obtain rfl := Option.some.inj hp
  exact ⟨.inr rfl, res1 rfl k65 ⟨_, _, rfl, S61.run, h59⟩⟩

@[reducible] def p_impl_parseFrom (Ha : GH) (wa : World) (r : (Fo × ByteArray × Bool)) : Ending → World → Prop :=
 fun e w' => ∃ H' : GH, ∃ v0 : Value, e = .returned (Value.tuple #[v0, Value.string r.2.1, Value.bool r.2.2]) ∧ Run wa.heap.size Ha wa H' w' ∧ FAt H' v0 r.1
set_option maxHeartbeats 4000000 in
theorem w_impl_parseFrom_B {rec_impl_parseFrom : ByteArray → Option (Fo × ByteArray × Bool)} (hrec_impl_parseFrom : ∀ {Ha : GH} {wa : World} (hs : Sl Ha wa) (a0 : ByteArray) {r : (Fo × ByteArray × Bool)} (hp : rec_impl_parseFrom a0 = some r), Calls Try.prog 62 #[Value.string a0] wa (p_impl_parseFrom Ha wa r)) {Ha : GH} {wa : World} (hs : Sl Ha wa) (a0 : ByteArray) {r : (Fo × ByteArray × Bool)} (hp : PF.impl_parseFrom_B rec_impl_parseFrom a0 = some r) :
  Calls Try.prog 62 #[Value.string a0] wa (p_impl_parseFrom Ha wa r) := by
 unfold PF.impl_parseFrom_B at hp
 have S0 := St.init hs
 refine calls_go (N := 95) (args := [Value.string a0]) Try.func62 rfl rfl rfl ?_
 refine FW.seq (FW.region ?_)
 refine FL.v (E.assign (v := Value.pointer none) rfl) ?_
 refine FL.v (E.assign (v := Value.string (ByteArray.mk #[])) rfl) ?_
 refine FL.v (E.assign (v := Value.bool false) rfl) ?_
 refine FL.nil (FW.seq (FW.seq (FW.region ?_)))
 refine FL.v (E.move (v := Value.string a0) rfl) ?_
 refine FL.v (E.eqlS rfl rfl) ?_
 refine FL.nil ?_
 rcases ifB hp with ⟨c21, hp⟩ | ⟨c21, hp⟩
 ·
  refine FW.condT rfl c21 ?_
  refine FW.seq (FW.region ?_)
  refine FL.v (E.assign (v := Value.pointer none) rfl) ?_
  refine FL.v (E.assign (v := Value.string (ByteArray.mk #[])) rfl) ?_
  refine FL.v (E.assign (v := Value.bool false) rfl) ?_
  refine FL.nil ?_
  refine FW.ret ?_
  obtain rfl := Option.some.inj hp
  exact ⟨.inr rfl, res3 rfl rfl rfl rfl ⟨_, _, rfl, S0.run, FAt.nil⟩⟩
 ·
  refine FW.condF rfl c21 ?_
  refine FW.skip (FW.seq ?_)
  refine FW.draw (fun w' => Run wa.heap.size Ha wa Ha w') (by kernel_rfl) (by kernel_rfl) (run_drew S0.sl) ?_
  refine FD.val rfl rfl rfl (fun w' hw' => (E.move (v := Value.string a0) rfl)) ?_
  obtain ⟨z23, h24, hp⟩ := bnd hp
  refine FD.val rfl rfl rfl (fun w' hw' => (E.ixS Try.runUnderlying9 rfl rfl h24)) ?_
  refine FD.val rfl rfl rfl (fun w' hw' => (E.move (v := Value.string a0) rfl)) ?_
  obtain ⟨z25, h26, hp⟩ := bnd hp
  refine FD.val rfl rfl rfl (fun w' hw' => (E.cutS (kl := .i64) (kh := .i64) Try.underlying9 rfl (.inr ⟨_, rfl, rfl⟩) (.inl ⟨rfl, rfl⟩) h26)) ?_
  refine FD.val rfl rfl rfl (fun w' hw' => (E.assign (v := Value.int .u8 z23) rfl)) ?_
  refine FD.val rfl rfl rfl (fun w' hw' => (E.assign (v := Value.string z25) rfl)) ?_
  refine FD.nil ?_
  intro w27 r29
  have S28 := S0.call r29
  refine FW.seq (FW.block (FW.seq (FW.region ?_)))
  refine FL.v (E.move (v := Value.int .u8 z23) rfl) ?_
  refine FL.call rfl rfl rfl (E.call Try.call21 (A1 rfl)) (w_impl_isLetter S28.sl z23) ?_
  rintro e w30 ⟨rfl, r31⟩
  refine ⟨_, rfl, ?_⟩
  have S32 := S28.call r31
  refine FL.v (E.move (v := Value.bool (PF.impl_isLetter z23)) rfl) ?_
  refine FL.cut 3 (fun f w => ∃ H : GH, St Ha wa H w [] ∧ Inc Ha H ∧ f 5 = Value.int .u8 z23 ∧ f 6 = Value.string z25 ∧ f 26 = Value.bool (bif (PF.impl_isLetter z23) then true else (z23 == 48))) ?_ ?_
  ·
   rcases bcase (PF.impl_isLetter z23) with c39 | c39
   ·
    refine FL.skip (wF_no rfl rfl rfl c39) rfl ?_
    refine FL.skip (wF_no rfl rfl rfl c39) rfl ?_
    refine FL.v (E.pickT rfl c39 rfl) ?_
    exact FL.nil ⟨rfl, _, S32, (Inc.rfl _), rfl, rfl, (congrArg Value.bool (bifT c39).symm)⟩
   ·
    refine FL.val (wF_yes rfl rfl rfl c39) rfl rfl (E.move (v := Value.int .u8 z23) rfl) ?_
    refine FL.val (wF_yes rfl rfl rfl c39) rfl rfl (E.eql rfl rfl) ?_
    refine FL.v (E.pickF rfl c39 rfl) ?_
    exact FL.nil ⟨rfl, _, S32, (Inc.rfl _), rfl, rfl, (congrArg Value.bool (bifF c39).symm)⟩
  rintro f38 w37 ⟨H34, S35, i36, k40, k41, k42⟩
  refine FL.v (E.move k42) ?_
  refine FL.cut 3 (fun f w => ∃ H : GH, St Ha wa H w [] ∧ Inc H34 H ∧ f 5 = Value.int .u8 z23 ∧ f 6 = Value.string z25 ∧ f 30 = Value.bool (bif (bif (PF.impl_isLetter z23) then true else (z23 == 48)) then true else (z23 == 49))) ?_ ?_
  ·
   rcases bcase (bif (PF.impl_isLetter z23) then true else (z23 == 48)) with c49 | c49
   ·
    refine FL.skip (wF_no rfl rfl rfl c49) rfl ?_
    refine FL.skip (wF_no rfl rfl rfl c49) rfl ?_
    refine FL.v (E.pickT rfl c49 rfl) ?_
    exact FL.nil ⟨rfl, _, S35, (Inc.rfl _), k40, k41, (congrArg Value.bool (bifT c49).symm)⟩
   ·
    refine FL.val (wF_yes rfl rfl rfl c49) rfl rfl (E.move k40) ?_
    refine FL.val (wF_yes rfl rfl rfl c49) rfl rfl (E.eql rfl rfl) ?_
    refine FL.v (E.pickF rfl c49 rfl) ?_
    exact FL.nil ⟨rfl, _, S35, (Inc.rfl _), k40, k41, (congrArg Value.bool (bifF c49).symm)⟩
  rintro f48 w47 ⟨H44, S45, i46, k50, k51, k52⟩
  refine FL.v (E.assign k52) ?_
  refine FL.nil ?_
  rcases ifB hp with ⟨c53, hp⟩ | ⟨c53, hp⟩
  ·
   refine FW.condT rfl c53 ?_
   refine FW.seq (FW.region ?_)
   refine FL.v (E.move k50) ?_
   obtain ⟨r54, hr55, hp⟩ := bnd hp
   refine FL.call rfl rfl rfl (E.call Try.call71 (A1 rfl)) (w_impl_leaf S45.sl z23 hr55) ?_
   rintro e w57 ⟨H56, v60, rfl, r59, h61⟩
   refine ⟨_, rfl, ?_⟩
   have S58 := S45.call r59
   refine FL.v (E.move k51) ?_
   refine FL.v (E.assign (v := v60) rfl) ?_
   refine FL.v (E.assign (v := Value.string z25) rfl) ?_
   refine FL.v (E.assign (v := Value.bool true) rfl) ?_
   refine FL.nil ?_
   refine FW.ret ?_
   obtain rfl := Option.some.inj hp
   exact ⟨.inr rfl, res3 rfl rfl rfl rfl ⟨_, _, rfl, S58.run, h61⟩⟩
  ·
   refine FW.condF rfl c53 ?_
   refine FW.seq (FW.region ?_)
   refine FL.v (E.move k50) ?_
   refine FL.v (E.eql rfl rfl) ?_
   refine FL.v (E.assign (v := Value.bool (z23 == 126)) rfl) ?_
   refine FL.nil ?_
   rcases ifB hp with ⟨c62, hp⟩ | ⟨c62, hp⟩
   ·
    refine FW.condT rfl c62 ?_
    refine FW.seq (FW.region ?_)
    refine FL.v (E.move k51) ?_
    obtain ⟨r63, hr64, hp⟩ := bnd hp
    refine FL.call rfl rfl rfl (E.call Try.call62 (A1 rfl)) (hrec_impl_parseFrom S45.sl z25 hr64) ?_
    rintro e w66 ⟨H65, v69, rfl, r68, h70⟩
    refine ⟨_, rfl, ?_⟩
    have S67 := S45.call r68
    refine FL.v (E.move (v := Value.tuple #[v69, Value.string r63.2.1, Value.bool r63.2.2]) rfl) ?_
    refine FL.v (E.extract (i := 0) rfl rfl) ?_
    refine FL.v (E.extract (i := 1) rfl rfl) ?_
    refine FL.v (E.extract (i := 2) rfl rfl) ?_
    refine FL.v (E.assign (v := v69) rfl) ?_
    refine FL.v (E.assign (v := Value.string r63.2.1) rfl) ?_
    refine FL.v (E.assign (v := Value.bool r63.2.2) rfl) ?_
    refine FL.nil (FW.seq (FW.seq (FW.region ?_)))
    refine FL.v (E.move (v := Value.bool r63.2.2) rfl) ?_
    refine FL.v (E.not rfl) ?_
    refine FL.nil ?_
    rcases ifB hp with ⟨c71, hp⟩ | ⟨c71, hp⟩
    ·
     refine FW.condT rfl c71 ?_
     refine FW.seq (FW.region ?_)
     refine FL.v (E.assign (v := Value.pointer none) rfl) ?_
     refine FL.v (E.assign (v := Value.string (ByteArray.mk #[])) rfl) ?_
     refine FL.v (E.assign (v := Value.bool false) rfl) ?_
     refine FL.nil ?_
     refine FW.ret ?_
     obtain rfl := Option.some.inj hp
     exact ⟨.inr rfl, res3 rfl rfl rfl rfl ⟨_, _, rfl, S67.run, FAt.nil⟩⟩
    ·
     refine FW.condF rfl c71 ?_
     refine FW.skip (FW.seq (FW.region ?_))
     refine FL.v (E.move (v := v69) rfl) ?_
     obtain ⟨r72, hr73, hp⟩ := bnd hp
     refine FL.call rfl rfl rfl (E.call Try.call72 (A1 rfl)) (w_impl_not S67.sl v69 r63.1 h70 hr73) ?_
     rintro e w75 ⟨H74, v78, rfl, r77, h79⟩
     refine ⟨_, rfl, ?_⟩
     have S76 := S67.call r77
     refine FL.v (E.move (v := Value.string r63.2.1) rfl) ?_
     refine FL.v (E.assign (v := v78) rfl) ?_
     refine FL.v (E.assign (v := Value.string r63.2.1) rfl) ?_
     refine FL.v (E.assign (v := Value.bool true) rfl) ?_
     refine FL.nil ?_
     refine FW.ret ?_
     obtain rfl := Option.some.inj hp
     exact ⟨.inr rfl, res3 rfl rfl rfl rfl ⟨_, _, rfl, S76.run, h79⟩⟩
   ·
    refine FW.condF rfl c62 ?_
    refine FW.seq (FW.region ?_)
    refine FL.v (E.move k50) ?_
    refine FL.v (E.neq rfl rfl) ?_
    refine FL.v (E.assign (v := Value.bool (!(z23 == 40))) rfl) ?_
    refine FL.nil ?_
    rcases ifB hp with ⟨c80, hp⟩ | ⟨c80, hp⟩
    ·
     refine FW.condT rfl c80 ?_
     refine FW.seq (FW.region ?_)
     refine FL.v (E.assign (v := Value.pointer none) rfl) ?_
     refine FL.v (E.assign (v := Value.string (ByteArray.mk #[])) rfl) ?_
     refine FL.v (E.assign (v := Value.bool false) rfl) ?_
     refine FL.nil ?_
     refine FW.ret ?_
     obtain rfl := Option.some.inj hp
     exact ⟨.inr rfl, res3 rfl rfl rfl rfl ⟨_, _, rfl, S45.run, FAt.nil⟩⟩
    ·
     refine FW.condF rfl c80 ?_
     refine FW.skip (FW.seq (FW.region ?_))
     refine FL.v (E.move k51) ?_
     obtain ⟨r81, hr82, hp⟩ := bnd hp
     refine FL.call rfl rfl rfl (E.call Try.call62 (A1 rfl)) (hrec_impl_parseFrom S45.sl z25 hr82) ?_
     rintro e w84 ⟨H83, v87, rfl, r86, h88⟩
     refine ⟨_, rfl, ?_⟩
     have S85 := S45.call r86
     refine FL.v (E.move (v := Value.tuple #[v87, Value.string r81.2.1, Value.bool r81.2.2]) rfl) ?_
     refine FL.v (E.extract (i := 0) rfl rfl) ?_
     refine FL.v (E.extract (i := 1) rfl rfl) ?_
     refine FL.v (E.extract (i := 2) rfl rfl) ?_
     refine FL.v (E.assign (v := v87) rfl) ?_
     refine FL.v (E.assign (v := Value.string r81.2.1) rfl) ?_
     refine FL.v (E.assign (v := Value.bool r81.2.2) rfl) ?_
     refine FL.nil (FW.seq (FW.seq (FW.region ?_)))
     refine FL.v (E.move (v := Value.bool r81.2.2) rfl) ?_
     refine FL.v (E.not rfl) ?_
     refine FL.v (E.move (v := Value.bool (!r81.2.2)) rfl) ?_
     refine FL.cut 3 (fun f w => ∃ H : GH, St Ha wa H w [] ∧ Inc H83 H ∧ f 6 = Value.string r81.2.1 ∧ f 10 = v87 ∧ f 62 = Value.bool (bif (!r81.2.2) then true else (r81.2.1.toList == (ByteArray.mk #[]).toList))) ?_ ?_
     ·
      rcases bcase (!r81.2.2) with c95 | c95
      ·
       refine FL.skip (wF_no rfl rfl rfl c95) rfl ?_
       refine FL.skip (wF_no rfl rfl rfl c95) rfl ?_
       refine FL.v (E.pickT rfl c95 rfl) ?_
       exact FL.nil ⟨rfl, _, S85, (Inc.rfl _), rfl, rfl, (congrArg Value.bool (bifT c95).symm)⟩
      ·
       refine FL.val (wF_yes rfl rfl rfl c95) rfl rfl (E.move (v := Value.string r81.2.1) rfl) ?_
       refine FL.val (wF_yes rfl rfl rfl c95) rfl rfl (E.eqlS rfl rfl) ?_
       refine FL.v (E.pickF rfl c95 rfl) ?_
       exact FL.nil ⟨rfl, _, S85, (Inc.rfl _), rfl, rfl, (congrArg Value.bool (bifF c95).symm)⟩
     rintro f94 w93 ⟨H90, S91, i92, k96, k97, k98⟩
     refine FL.v (E.move k98) ?_
     obtain ⟨t106, hqt106, hp⟩ := bnd hp
     refine FL.cut 5 (fun f w => ∃ H : GH, St Ha wa H w [] ∧ Inc H90 H ∧ f 6 = Value.string r81.2.1 ∧ f 10 = v87 ∧ f 68 = Value.bool t106) ?_ ?_
     ·
      clear hp; have hp := hqt106; clear hqt106
      rcases ifB hp with ⟨c112, hp⟩ | ⟨c112, hp⟩
      ·
       refine FL.skip (wF_no rfl rfl rfl c112) rfl ?_
       refine FL.skip (wF_no rfl rfl rfl c112) rfl ?_
       refine FL.skip (wF_no rfl rfl rfl c112) rfl ?_
       refine FL.skip (wF_no rfl rfl rfl c112) rfl ?_
       obtain rfl := Option.some.inj hp
       refine FL.v (E.pickT rfl c112 rfl) ?_
       exact FL.nil ⟨rfl, _, S91, (Inc.rfl _), k96, k97, rfl⟩
      ·
       refine FL.val (wF_yes rfl rfl rfl c112) rfl rfl (E.move k96) ?_
       obtain ⟨z113, h114, hp⟩ := bnd hp
       refine FL.val (wF_yes rfl rfl rfl c112) rfl rfl (E.cutS (kl := .i64) (kh := .i64) Try.underlying9 rfl (.inl ⟨rfl, rfl⟩) (.inr ⟨_, rfl, rfl⟩) h114) ?_
       obtain ⟨r115, hr116, hp⟩ := bnd hp
       refine FL.call (wF_yes rfl rfl rfl c112) rfl rfl (E.call Try.call73 (A2 rfl rfl)) (w_strings_Contains S91.sl (ByteArray.mk #[38, 124, 62]) z113 hr116) ?_
       rintro e w117 ⟨rfl, r118⟩
       refine ⟨_, rfl, ?_⟩
       have S119 := S91.call r118
       refine FL.val (wF_yes rfl rfl rfl c112) rfl rfl (E.not rfl) ?_
       obtain rfl := Option.some.inj hp
       refine FL.v (E.pickF rfl c112 rfl) ?_
       exact FL.nil ⟨rfl, _, S119, (Inc.rfl _), k96, k97, rfl⟩
     rintro f111 w110 ⟨H107, S108, i109, k120, k121, k122⟩
     refine FL.nil ?_
     rcases ifB hp with ⟨c123, hp⟩ | ⟨c123, hp⟩
     ·
      refine FW.condT k122 c123 ?_
      refine FW.seq (FW.region ?_)
      refine FL.v (E.assign (v := Value.pointer none) rfl) ?_
      refine FL.v (E.assign (v := Value.string (ByteArray.mk #[])) rfl) ?_
      refine FL.v (E.assign (v := Value.bool false) rfl) ?_
      refine FL.nil ?_
      refine FW.ret ?_
      obtain rfl := Option.some.inj hp
      exact ⟨.inr rfl, res3 rfl rfl rfl rfl ⟨_, _, rfl, S108.run, FAt.nil⟩⟩
     ·
      refine FW.condF k122 c123 ?_
      refine FW.skip (FW.seq (FW.region ?_))
      refine FL.v (E.move k120) ?_
      obtain ⟨z124, h125, hp⟩ := bnd hp
      refine FL.v (E.ixS Try.runUnderlying9 rfl rfl h125) ?_
      refine FL.v (E.assign (v := Value.int .u8 z124) rfl) ?_
      refine FL.nil (FW.seq (FW.region ?_))
      refine FL.v (E.move k120) ?_
      obtain ⟨z126, h127, hp⟩ := bnd hp
      refine FL.v (E.cutS (kl := .i64) (kh := .i64) Try.underlying9 rfl (.inr ⟨_, rfl, rfl⟩) (.inl ⟨rfl, rfl⟩) h127) ?_
      obtain ⟨r128, hr129, hp⟩ := bnd hp
      refine FL.call rfl rfl rfl (E.call Try.call62 (A1 rfl)) (hrec_impl_parseFrom S108.sl z126 hr129) ?_
      rintro e w131 ⟨H130, v134, rfl, r133, h135⟩
      refine ⟨_, rfl, ?_⟩
      have S132 := S108.call r133
      refine FL.v (E.move (v := Value.tuple #[v134, Value.string r128.2.1, Value.bool r128.2.2]) rfl) ?_
      refine FL.v (E.extract (i := 0) rfl rfl) ?_
      refine FL.v (E.extract (i := 1) rfl rfl) ?_
      refine FL.v (E.extract (i := 2) rfl rfl) ?_
      refine FL.v (E.assign (v := v134) rfl) ?_
      refine FL.v (E.assign (v := Value.string r128.2.1) rfl) ?_
      refine FL.v (E.assign (v := Value.bool r128.2.2) rfl) ?_
      refine FL.nil (FW.seq (FW.seq (FW.region ?_)))
      refine FL.v (E.move (v := Value.bool r128.2.2) rfl) ?_
      refine FL.v (E.not rfl) ?_
      refine FL.v (E.move (v := Value.bool (!r128.2.2)) rfl) ?_
      refine FL.cut 3 (fun f w => ∃ H : GH, St Ha wa H w [] ∧ Inc H130 H ∧ f 6 = Value.string r128.2.1 ∧ f 10 = v87 ∧ f 12 = Value.int .u8 z124 ∧ f 13 = v134 ∧ f 83 = Value.bool (bif (!r128.2.2) then true else (r128.2.1.toList == (ByteArray.mk #[]).toList))) ?_ ?_
      ·
       rcases bcase (!r128.2.2) with c142 | c142
       ·
        refine FL.skip (wF_no rfl rfl rfl c142) rfl ?_
        refine FL.skip (wF_no rfl rfl rfl c142) rfl ?_
        refine FL.v (E.pickT rfl c142 rfl) ?_
        exact FL.nil ⟨rfl, _, S132, (Inc.rfl _), rfl, k121, rfl, rfl, (congrArg Value.bool (bifT c142).symm)⟩
       ·
        refine FL.val (wF_yes rfl rfl rfl c142) rfl rfl (E.move (v := Value.string r128.2.1) rfl) ?_
        refine FL.val (wF_yes rfl rfl rfl c142) rfl rfl (E.eqlS rfl rfl) ?_
        refine FL.v (E.pickF rfl c142 rfl) ?_
        exact FL.nil ⟨rfl, _, S132, (Inc.rfl _), rfl, k121, rfl, rfl, (congrArg Value.bool (bifF c142).symm)⟩
      rintro f141 w140 ⟨H137, S138, i139, k143, k144, k145, k146, k147⟩
      refine FL.v (E.move k147) ?_
      obtain ⟨t150, hqt150, hp⟩ := bnd hp
      refine FL.cut 4 (fun f w => ∃ H : GH, St Ha wa H w [] ∧ Inc H137 H ∧ f 6 = Value.string r128.2.1 ∧ f 10 = v87 ∧ f 12 = Value.int .u8 z124 ∧ f 13 = v134 ∧ f 88 = Value.bool t150) ?_ ?_
      ·
       clear hp; have hp := hqt150; clear hqt150
       rcases ifB hp with ⟨c156, hp⟩ | ⟨c156, hp⟩
       ·
        refine FL.skip (wF_no rfl rfl rfl c156) rfl ?_
        refine FL.skip (wF_no rfl rfl rfl c156) rfl ?_
        refine FL.skip (wF_no rfl rfl rfl c156) rfl ?_
        obtain rfl := Option.some.inj hp
        refine FL.v (E.pickT rfl c156 rfl) ?_
        exact FL.nil ⟨rfl, _, S138, (Inc.rfl _), k143, k144, k145, k146, rfl⟩
       ·
        refine FL.val (wF_yes rfl rfl rfl c156) rfl rfl (E.move k143) ?_
        obtain ⟨z157, h158, hp⟩ := bnd hp
        refine FL.val (wF_yes rfl rfl rfl c156) rfl rfl (E.ixS Try.runUnderlying9 rfl rfl h158) ?_
        refine FL.val (wF_yes rfl rfl rfl c156) rfl rfl (E.neq rfl rfl) ?_
        obtain rfl := Option.some.inj hp
        refine FL.v (E.pickF rfl c156 rfl) ?_
        exact FL.nil ⟨rfl, _, S138, (Inc.rfl _), k143, k144, k145, k146, rfl⟩
      rintro f155 w154 ⟨H151, S152, i153, k159, k160, k161, k162, k163⟩
      refine FL.nil ?_
      rcases ifB hp with ⟨c164, hp⟩ | ⟨c164, hp⟩
      ·
       refine FW.condT k163 c164 ?_
       refine FW.seq (FW.region ?_)
       refine FL.v (E.assign (v := Value.pointer none) rfl) ?_
       refine FL.v (E.assign (v := Value.string (ByteArray.mk #[])) rfl) ?_
       refine FL.v (E.assign (v := Value.bool false) rfl) ?_
       refine FL.nil ?_
       refine FW.ret ?_
       obtain rfl := Option.some.inj hp
       exact ⟨.inr rfl, res3 rfl rfl rfl rfl ⟨_, _, rfl, S152.run, FAt.nil⟩⟩
      ·
       refine FW.condF k163 c164 ?_
       refine FW.skip (FW.seq ?_)
       obtain ⟨r22, hr33, hp⟩ := bnd hp
       obtain ⟨z103, h104, hp⟩ := bnd hp
       refine FW.drawB (Sl H151) (fun f w => ∃ H : GH, ∃ v105 : Value, St Ha wa H w [] ∧ Inc H151 H ∧ FAt H v105 r22 ∧ f 2 = v105 ∧ f 3 = Value.string z103 ∧ f 4 = Value.bool true) (by kernel_rfl) S152.sl ?_ ?_
       ·
        intro w165 r166
        have S167 := S152.call r166
        refine FB.t (i := 0) (bs 9 1) rfl (SP.nil S167.sl) rfl (fun w' hw' => (E.move k161)) ?_
        refine FB.t (i := 1) (bs 9 3) rfl (SP.nil S167.sl) rfl (fun w' hw' => (E.move k160)) ?_
        refine FB.t (i := 2) (bs 9 7) rfl (SP.nil S167.sl) rfl (fun w' hw' => (E.move k162)) ?_
        refine FB.t (i := 4) (bs 9 23) rfl (SP.nil S167.sl) rfl (fun w' hw' => (E.move k159)) ?_
        refine FB.t (i := 5) (bs 9 55) rfl (SP.nil S167.sl) rfl (fun w' hw' => (E.cutS (kl := .i64) (kh := .i64) Try.underlying9 rfl (.inr ⟨_, rfl, rfl⟩) (.inl ⟨rfl, rfl⟩) h104)) ?_
        refine FB.all1 (i := 3) (by kernel_rfl) ?_
        ·
         refine FC.call (l' := (bs 9 63)) rfl (by kernel_rfl) rfl rfl rfl (E.call Try.call74 (A3 rfl rfl rfl)) (w_impl_join S167.sl z124 v87 r81.1 (h88.mono ((((i92.tr i109).tr r133.inc).tr i139).tr i153)) v134 r128.1 (h135.mono (i139.tr i153)) hr33) ?_
         rintro e w89 ⟨H43, v101, rfl, r100, h102⟩
         refine ⟨_, rfl, ?_⟩
         have S99 := S167.call r100
         refine ⟨(SP.nil (Sl.of_inc r100.inc S99.sl)), ?_⟩
         refine FB.t (i := 6) (bs 9 127) rfl (SP.nil (Sl.of_inc r100.inc S99.sl)) rfl (fun w' hw' => (E.assign (v := v101) rfl)) ?_
         refine FB.t (i := 7) (bs 9 255) rfl (SP.nil (Sl.of_inc r100.inc S99.sl)) rfl (fun w' hw' => (E.assign (v := Value.string z103) rfl)) ?_
         refine FB.t (i := 8) (bs 9 511) rfl (SP.nil (Sl.of_inc r100.inc S99.sl)) rfl (fun w' hw' => (E.assign (v := Value.bool true) rfl)) ?_
         exact FB.done (by kernel_rfl) ⟨_, _, S99, r100.inc, h102, rfl, rfl, rfl⟩
       ·
        rintro f170 w169 ⟨H148, v105, S149, i168, h136, k171, k172, k173⟩
        refine FW.ret ?_
        obtain rfl := Option.some.inj hp
        exact ⟨.inr rfl, res3 rfl k171 k172 k173 ⟨_, _, rfl, S149.run, h136⟩⟩
theorem w_impl_parseFrom_F (n : Nat) : ∀ {Ha : GH} {wa : World} (hs : Sl Ha wa) (a0 : ByteArray) {r : (Fo × ByteArray × Bool)} (hp : PF.impl_parseFrom_F n a0 = some r), Calls Try.prog 62 #[Value.string a0] wa (p_impl_parseFrom Ha wa r) := by
 induction n with
 | zero => intros; rename_i hp; exact nomatch hp
 | succ n ih => exact w_impl_parseFrom_B (rec_impl_parseFrom := PF.impl_parseFrom_F n) ih
theorem w_impl_parseFrom {Ha : GH} {wa : World} (hs : Sl Ha wa) (a0 : ByteArray) {r : (Fo × ByteArray × Bool)} (hp : PF.impl_parseFrom a0 = some r) :
  Calls Try.prog 62 #[Value.string a0] wa (p_impl_parseFrom Ha wa r) := w_impl_parseFrom_F deep hs a0 hp

@[reducible] def p_impl_parse (Ha : GH) (wa : World) (r : (Fo × Bool)) : Ending → World → Prop :=
 fun e w' => ∃ H' : GH, ∃ v0 : Value, e = .returned (Value.tuple #[v0, Value.bool r.2]) ∧ Run wa.heap.size Ha wa H' w' ∧ FAt H' v0 r.1
theorem w_impl_parse {Ha : GH} {wa : World} (hs : Sl Ha wa) (a0 : ByteArray) {r : (Fo × Bool)} (hp : (PF.impl_parse a0) = some r) :
  Calls Try.prog 52 #[Value.string a0] wa (p_impl_parse Ha wa r) := by
 unfold PF.impl_parse at hp
 have S0 := St.init hs
 refine calls_go (N := 23) (args := [Value.string a0]) Try.func52 rfl rfl rfl ?_
 refine FW.seq (FW.region ?_)
 refine FL.v (E.assign (v := Value.pointer none) rfl) ?_
 refine FL.v (E.assign (v := Value.bool false) rfl) ?_
 refine FL.nil (FW.seq (FW.seq (FW.region ?_)))
 refine FL.v (E.move (v := Value.string a0) rfl) ?_
 refine FL.v (E.lenS Try.runUnderlying9 rfl) ?_
 refine FL.v (E.gtr rfl rfl) ?_
 refine FL.nil ?_
 rcases ifB hp with ⟨c21, hp⟩ | ⟨c21, hp⟩
 ·
  refine FW.condT rfl c21 ?_
  refine FW.seq (FW.region ?_)
  refine FL.v (E.assign (v := Value.pointer none) rfl) ?_
  refine FL.v (E.assign (v := Value.bool false) rfl) ?_
  refine FL.nil ?_
  refine FW.ret ?_
  obtain rfl := Option.some.inj hp
  exact ⟨.inr rfl, res2 rfl rfl rfl ⟨_, _, rfl, S0.run, FAt.nil⟩⟩
 ·
  refine FW.condF rfl c21 ?_
  refine FW.skip (FW.seq (FW.region ?_))
  refine FL.v (E.move (v := Value.string a0) rfl) ?_
  obtain ⟨r22, hr23, hp⟩ := bnd hp
  refine FL.call rfl rfl rfl (E.call Try.call62 (A1 rfl)) (w_impl_parseFrom S0.sl a0 hr23) ?_
  rintro e w25 ⟨H24, v28, rfl, r27, h29⟩
  refine ⟨_, rfl, ?_⟩
  have S26 := S0.call r27
  refine FL.v (E.move (v := Value.tuple #[v28, Value.string r22.2.1, Value.bool r22.2.2]) rfl) ?_
  refine FL.v (E.extract (i := 0) rfl rfl) ?_
  refine FL.v (E.extract (i := 1) rfl rfl) ?_
  refine FL.v (E.extract (i := 2) rfl rfl) ?_
  refine FL.v (E.assign (v := v28) rfl) ?_
  refine FL.v (E.assign (v := Value.string r22.2.1) rfl) ?_
  refine FL.v (E.assign (v := Value.bool r22.2.2) rfl) ?_
  refine FL.nil (FW.seq (FW.seq (FW.region ?_)))
  refine FL.v (E.move (v := Value.bool r22.2.2) rfl) ?_
  refine FL.v (E.not rfl) ?_
  refine FL.v (E.move (v := Value.bool (!r22.2.2)) rfl) ?_
  refine FL.cut 3 (fun f w => ∃ H : GH, St Ha wa H w [] ∧ Inc H24 H ∧ f 4 = v28 ∧ f 21 = Value.bool (bif (!r22.2.2) then true else (!(r22.2.1.toList == (ByteArray.mk #[]).toList)))) ?_ ?_
  ·
   rcases bcase (!r22.2.2) with c36 | c36
   ·
    refine FL.skip (wF_no rfl rfl rfl c36) rfl ?_
    refine FL.skip (wF_no rfl rfl rfl c36) rfl ?_
    refine FL.v (E.pickT rfl c36 rfl) ?_
    exact FL.nil ⟨rfl, _, S26, (Inc.rfl _), rfl, (congrArg Value.bool (bifT c36).symm)⟩
   ·
    refine FL.val (wF_yes rfl rfl rfl c36) rfl rfl (E.move (v := Value.string r22.2.1) rfl) ?_
    refine FL.val (wF_yes rfl rfl rfl c36) rfl rfl (E.neqS rfl rfl) ?_
    refine FL.v (E.pickF rfl c36 rfl) ?_
    exact FL.nil ⟨rfl, _, S26, (Inc.rfl _), rfl, (congrArg Value.bool (bifF c36).symm)⟩
  rintro f35 w34 ⟨H31, S32, i33, k37, k38⟩
  refine FL.nil ?_
  rcases ifB hp with ⟨c39, hp⟩ | ⟨c39, hp⟩
  ·
   refine FW.condT k38 c39 ?_
   refine FW.seq (FW.region ?_)
   refine FL.v (E.assign (v := Value.pointer none) rfl) ?_
   refine FL.v (E.assign (v := Value.bool false) rfl) ?_
   refine FL.nil ?_
   refine FW.ret ?_
   obtain rfl := Option.some.inj hp
   exact ⟨.inr rfl, res2 rfl rfl rfl ⟨_, _, rfl, S32.run, FAt.nil⟩⟩
  ·
   refine FW.condF k38 c39 ?_
   refine FW.skip (FW.seq (FW.region ?_))
   refine FL.v (E.move k37) ?_
   refine FL.v (E.assign (v := v28) rfl) ?_
   refine FL.v (E.assign (v := Value.bool true) rfl) ?_
   refine FL.nil ?_
   refine FW.ret ?_
   obtain rfl := Option.some.inj hp
   exact ⟨.inr rfl, res2 rfl rfl rfl ⟨_, _, rfl, S32.run, (h29.mono i33)⟩⟩

theorem w_impl_IsFormula {Ha : GH} {wa : World} (hs : Sl Ha wa) (a0 : ByteArray) {r : Bool} (hp : (PF.impl_IsFormula a0) = some r) :
  Calls Try.prog 58 #[Value.string a0] wa (Sc Ha wa (Value.bool r)) := by
 unfold PF.impl_IsFormula at hp
 have S0 := St.init hs
 refine calls_go (N := 11) (args := [Value.string a0]) Try.func58 rfl rfl rfl ?_
 refine FW.seq (FW.region ?_)
 refine FL.v (E.assign (v := Value.bool false) rfl) ?_
 refine FL.nil (FW.seq (FW.region ?_))
 refine FL.v (E.move (v := Value.string a0) rfl) ?_
 obtain ⟨r21, hr22, hp⟩ := bnd hp
 refine FL.call rfl rfl rfl (E.call Try.call52 (A1 rfl)) (w_impl_parse S0.sl a0 hr22) ?_
 rintro e w24 ⟨H23, v27, rfl, r26, h28⟩
 refine ⟨_, rfl, ?_⟩
 have S25 := S0.call r26
 refine FL.v (E.move (v := Value.tuple #[v27, Value.bool r21.2]) rfl) ?_
 refine FL.v (E.extract (i := 0) rfl rfl) ?_
 refine FL.v (E.extract (i := 1) rfl rfl) ?_
 refine FL.v (E.assign (v := v27) rfl) ?_
 refine FL.v (E.assign (v := Value.bool r21.2) rfl) ?_
 refine FL.nil (FW.seq (FW.region ?_))
 refine FL.v (E.move (v := Value.bool r21.2) rfl) ?_
 refine FL.v (E.assign (v := Value.bool r21.2) rfl) ?_
 refine FL.nil ?_
 refine FW.ret ?_
 obtain rfl := Option.some.inj hp
 exact ⟨.inr rfl, res1 rfl rfl ⟨rfl, S25.back⟩⟩

theorem w_cmp_isNaN_int {Ha : GH} {wa : World} (hs : Sl Ha wa) (a0 : Int) :
  Calls Try.prog 78 #[Value.int .i64 a0] wa (Sc Ha wa (Value.bool (PF.cmp_isNaN_int a0))) := by
 obtain ⟨r, hp⟩ : ∃ r, (PF.cmp_isNaN_int a0) = r := ⟨_, rfl⟩
 rw [hp]
 unfold PF.cmp_isNaN_int at hp
 have S0 := St.init hs
 refine calls_go (N := 6) (args := [Value.int .i64 a0]) Try.func78 rfl rfl rfl ?_
 refine FW.seq (FW.region ?_)
 refine FL.v (E.assign (v := Value.bool false) rfl) ?_
 refine FL.nil (FW.seq (FW.region ?_))
 refine FL.v (E.move (v := Value.int .i64 a0) rfl) ?_
 refine FL.v (E.move (v := Value.int .i64 a0) rfl) ?_
 refine FL.v (E.neq rfl rfl) ?_
 refine FL.v (E.assign (v := Value.bool (!(a0 == a0))) rfl) ?_
 refine FL.nil ?_
 refine FW.ret ?_
 obtain rfl := hp
 exact ⟨.inr rfl, res1 rfl rfl ⟨rfl, S0.back⟩⟩

set_option maxHeartbeats 4000000 in
theorem w_cmp_Compare_int {Ha : GH} {wa : World} (hs : Sl Ha wa) (a0 : Int) (a1 : Int) :
  Calls Try.prog 69 #[Value.int .i64 a0, Value.int .i64 a1] wa (Sc Ha wa (Value.int .i64 (PF.cmp_Compare_int a0 a1))) := by
 obtain ⟨r, hp⟩ : ∃ r, (PF.cmp_Compare_int a0 a1) = r := ⟨_, rfl⟩
 rw [hp]
 unfold PF.cmp_Compare_int at hp
 have S0 := St.init hs
 refine calls_go (N := 20) (args := [Value.int .i64 a0, Value.int .i64 a1]) Try.func69 rfl rfl rfl ?_
 refine FW.seq (FW.region ?_)
 refine FL.v (E.assign (v := Value.int .i64 0) rfl) ?_
 refine FL.nil (FW.seq (FW.region ?_))
 refine FL.v (E.move (v := Value.int .i64 a0) rfl) ?_
 refine FL.call rfl rfl rfl (E.call Try.call78 (A1 rfl)) (w_cmp_isNaN_int S0.sl a0) ?_
 rintro e w21 ⟨rfl, r22⟩
 refine ⟨_, rfl, ?_⟩
 have S23 := S0.call r22
 refine FL.v (E.assign (v := Value.bool (PF.cmp_isNaN_int a0)) rfl) ?_
 refine FL.nil (FW.seq (FW.region ?_))
 refine FL.v (E.move (v := Value.int .i64 a1) rfl) ?_
 refine FL.call rfl rfl rfl (E.call Try.call78 (A1 rfl)) (w_cmp_isNaN_int S23.sl a1) ?_
 rintro e w24 ⟨rfl, r25⟩
 refine ⟨_, rfl, ?_⟩
 have S26 := S23.call r25
 refine FL.v (E.assign (v := Value.bool (PF.cmp_isNaN_int a1)) rfl) ?_
 refine FL.nil (FW.seq (FW.seq (FW.region ?_)))
 refine FL.v (E.move (v := Value.bool (PF.cmp_isNaN_int a0)) rfl) ?_
 refine FL.nil ?_
 rcases ifT hp with ⟨c27, hp⟩ | ⟨c27, hp⟩
 ·
  refine FW.condT rfl c27 ?_
  refine FW.seq (FW.seq (FW.region ?_))
  refine FL.v (E.move (v := Value.bool (PF.cmp_isNaN_int a1)) rfl) ?_
  refine FL.nil ?_
  rcases ifT hp with ⟨c28, hp⟩ | ⟨c28, hp⟩
  ·
   refine FW.condT rfl c28 ?_
   refine FW.seq (FW.region ?_)
   refine FL.v (E.assign (v := Value.int .i64 0) rfl) ?_
   refine FL.nil ?_
   refine FW.ret ?_
   obtain rfl := hp
   exact ⟨.inr rfl, res1 rfl rfl ⟨rfl, S26.back⟩⟩
  ·
   refine FW.condF rfl c28 ?_
   refine FW.skip (FW.seq (FW.region ?_))
   refine FL.v (E.assign (v := Value.int .i64 (-1)) rfl) ?_
   refine FL.nil ?_
   refine FW.ret ?_
   obtain rfl := hp
   exact ⟨.inr rfl, res1 rfl rfl ⟨rfl, S26.back⟩⟩
 ·
  refine FW.condF rfl c27 ?_
  refine FW.skip (FW.seq (FW.seq (FW.region ?_)))
  refine FL.v (E.move (v := Value.bool (PF.cmp_isNaN_int a1)) rfl) ?_
  refine FL.nil ?_
  rcases ifT hp with ⟨c29, hp⟩ | ⟨c29, hp⟩
  ·
   refine FW.condT rfl c29 ?_
   refine FW.seq (FW.region ?_)
   refine FL.v (E.assign (v := Value.int .i64 1) rfl) ?_
   refine FL.nil ?_
   refine FW.ret ?_
   obtain rfl := hp
   exact ⟨.inr rfl, res1 rfl rfl ⟨rfl, S26.back⟩⟩
  ·
   refine FW.condF rfl c29 ?_
   refine FW.skip (FW.seq (FW.seq (FW.region ?_)))
   refine FL.v (E.move (v := Value.int .i64 a0) rfl) ?_
   refine FL.v (E.move (v := Value.int .i64 a1) rfl) ?_
   refine FL.v (E.lss rfl rfl) ?_
   refine FL.nil ?_
   rcases ifT hp with ⟨c30, hp⟩ | ⟨c30, hp⟩
   ·
    refine FW.condT rfl c30 ?_
    refine FW.seq (FW.region ?_)
    refine FL.v (E.assign (v := Value.int .i64 (-1)) rfl) ?_
    refine FL.nil ?_
    refine FW.ret ?_
    obtain rfl := hp
    exact ⟨.inr rfl, res1 rfl rfl ⟨rfl, S26.back⟩⟩
   ·
    refine FW.condF rfl c30 ?_
    refine FW.skip (FW.seq (FW.seq (FW.region ?_)))
    refine FL.v (E.move (v := Value.int .i64 a0) rfl) ?_
    refine FL.v (E.move (v := Value.int .i64 a1) rfl) ?_
    refine FL.v (E.gtr rfl rfl) ?_
    refine FL.nil ?_
    rcases ifT hp with ⟨c31, hp⟩ | ⟨c31, hp⟩
    ·
     refine FW.condT rfl c31 ?_
     refine FW.seq (FW.region ?_)
     refine FL.v (E.assign (v := Value.int .i64 1) rfl) ?_
     refine FL.nil ?_
     refine FW.ret ?_
     obtain rfl := hp
     exact ⟨.inr rfl, res1 rfl rfl ⟨rfl, S26.back⟩⟩
    ·
     refine FW.condF rfl c31 ?_
     refine FW.skip (FW.seq (FW.region ?_))
     refine FL.v (E.assign (v := Value.int .i64 0) rfl) ?_
     refine FL.nil ?_
     refine FW.ret ?_
     obtain rfl := hp
     exact ⟨.inr rfl, res1 rfl rfl ⟨rfl, S26.back⟩⟩

theorem w_strings_Compare {Ha : GH} {wa : World} (hs : Sl Ha wa) (a0 a1 : ByteArray) : Calls Try.prog 70 #[Value.string a0, Value.string a1] wa (Sc Ha wa (Value.int .i64 (PF.strings_Compare a0 a1))) := by
 refine (Go.Proofs.Any.strings_Compare Try.comp70 a0 a1 wa).mono ?_
 rintro e w' ⟨rfl, rfl⟩
 exact ⟨rfl, Run.refl _ hs⟩

theorem w_cmp_Or_int {Ha : GH} {wa : World} (hs : Sl Ha wa) (v0 : Value) (a0 : List Int) (p0 : RSl Ha eI 1 v0 a0) {r : Int} (hp : (PF.cmp_Or_int a0) = some r) :
  Calls Try.prog 68 #[v0] wa (Sc Ha wa (Value.int .i64 r)) := by
 unfold PF.cmp_Or_int at hp
 have S0 := St.init hs
 refine calls_go (N := 18) (args := [v0]) Try.func68 rfl rfl rfl ?_
 refine FW.seq (FW.region ?_)
 refine FL.v (E.assign (v := Value.int .i64 0) rfl) ?_
 refine FL.nil (FW.seq (FW.region ?_))
 refine FL.v (E.assign (v := Value.int .i64 0) rfl) ?_
 refine FL.nil (FW.seq (FW.seq (FW.region ?_)))
 refine FL.v (E.move (v := v0) rfl) ?_
 refine FL.v (E.lenP te102 rfl p0) ?_
 refine FL.v (E.move (v := Value.int .i64 0) rfl) ?_
 refine FL.nil ?_
 obtain ⟨q22, hq, hp⟩ := bndR hp
 refine FW.block ?_
 refine FW.mono (FW.forL (S := Unit) (X := Int) (fun (i22 : Nat) (s22 : Unit) f w => ∃ H : GH, St Ha wa H w [] ∧ Inc Ha H ∧ f 8 = Value.int .i64 ((i22 : Nat) : Int) ∧ f 3 = Value.int .i64 0 ∧ f 6 = v0 ∧ f 7 = Value.int .i64 (len a0)) (fun q e f w => match q with | .go s22 => e = Exit.exit 0 ∧ (∃ H : GH, St Ha wa H w [] ∧ Inc Ha H ∧ f 3 = Value.int .i64 0) | .rt x => ((e = Exit.ret) ∧ (fun e f w => (e = Exit.normal ∨ e = Exit.ret) ∧ ∀ a, Fr (δ := []) 18 a f → ∃ v, (results Try.f68 a.tmps).run Try.prog w = .ok v w ∧ (Sc Ha wa (Value.int .i64 x)) (.returned v) w) e f w)) hq ⟨_, S0, (Inc.rfl _), rfl, rfl, rfl, rfl⟩ ?_ ?_) ?_
 ·
  clear hp hq
  rintro i22 y21 s22 f43 w42 ⟨H39, S40, i41, k44, k45, k46, k47⟩ hx22 o55 hp
  refine FW.seq (FW.region ?_)
  refine FL.v (E.lssT k44 k47 (lss_len hx22)) ?_
  refine FL.nil (FW.seq ?_)
  refine FW.condT rfl rfl ?_
  refine FW.skip (FW.seq (FW.block (FW.seq (FW.region ?_))))
  obtain ⟨p48, cs49, pt50, l51, at52, rel53⟩ := p0.at (ix_nat hx22)
  obtain rfl := eI_open rel53
  refine FL.v (E.indexAddr te102 k46 k44 pt50) ?_
  refine FL.v (E.load rfl (run_load0 Try.isAgg3 ((at52.mono i41).now S40.sl) rfl)) ?_
  refine FL.v (E.assign (v := Value.int .i64 y21) rfl) ?_
  refine FL.nil (FW.seq (FW.region ?_))
  refine FL.v (E.move (v := Value.int .i64 y21) rfl) ?_
  refine FL.v (E.move k45) ?_
  refine FL.v (E.neq rfl rfl) ?_
  refine FL.nil ?_
  rcases ifB hp with ⟨c54, hp⟩ | ⟨c54, hp⟩
  ·
   refine FW.condT rfl c54 ?_
   refine FW.seq (FW.region ?_)
   refine FL.v (E.move (v := Value.int .i64 y21) rfl) ?_
   refine FL.v (E.assign (v := Value.int .i64 y21) rfl) ?_
   refine FL.nil ?_
   refine FW.ret ?_
   obtain rfl := Option.some.inj hp
   exact ⟨nofun, rfl, ⟨.inr rfl, res1 rfl rfl ⟨rfl, S40.back⟩⟩⟩
  ·
   refine FW.condF rfl c54 ?_
   refine FW.skip (FW.region ?_)
   refine FL.v (E.add k44 rfl) ?_
   refine FL.v (E.move (v := Value.int .i64 (wr (((i22 : Nat) : Int) + 1))) rfl) ?_
   refine FL.nil ?_
   obtain rfl := Option.some.inj hp
   exact ⟨rfl, ⟨_, S40, i41, (nat_succ rfl (lt_of_get hx22) (p0.mono i41).le), k45, k46, k47⟩⟩
 ·
  clear hp hq
  rintro s22 f66 w65 ⟨H62, S63, i64, k67, k68, k69, k70⟩
  refine FW.seq (FW.region ?_)
  refine FL.v (E.lss k67 k70) ?_
  refine FL.nil (FW.seq ?_)
  refine FW.condF rfl dlt_len ?_
  refine FW.exit ?_
  exact ⟨nofun, rfl, ⟨_, S63, i64, k68⟩⟩
 ·
  clear hq
  intro e f60 w59 hD
  rcases q22 with s22 | x22
  ·
   obtain ⟨rfl, hD⟩ := hD
   obtain ⟨H56, S57, i58, k61⟩ := hD
   replace hp := el_go hp
   refine FW.seq (FW.region ?_)
   refine FL.v (E.move k61) ?_
   refine FL.v (E.assign (v := Value.int .i64 0) rfl) ?_
   refine FL.nil ?_
   refine FW.ret ?_
   obtain rfl := Option.some.inj hp
   exact ⟨.inr rfl, res1 rfl rfl ⟨rfl, S57.back⟩⟩
  ·
   obtain ⟨he, hL⟩ := hD
   replace hp := el_rt hp
   obtain rfl := Option.some.inj hp
   subst he
   exact hL

theorem w_impl_compareFormulas {Ha : GH} {wa : World} (hs : Sl Ha wa) (a0 : ByteArray) (a1 : ByteArray) {r : Int} (hp : (PF.impl_compareFormulas a0 a1) = some r) :
  Calls Try.prog 59 #[Value.string a0, Value.string a1] wa (Sc Ha wa (Value.int .i64 r)) := by
 unfold PF.impl_compareFormulas at hp
 have S0 := St.init hs
 refine calls_go (N := 15) (args := [Value.string a0, Value.string a1]) Try.func59 rfl rfl rfl ?_
 refine FW.seq (FW.region ?_)
 refine FL.v (E.assign (v := Value.int .i64 0) rfl) ?_
 refine FL.nil (FW.seq (FW.region ?_))
 refine FL.v (E.move (v := Value.string a0) rfl) ?_
 refine FL.v (E.lenS Try.runUnderlying9 rfl) ?_
 refine FL.v (E.move (v := Value.string a1) rfl) ?_
 refine FL.v (E.lenS Try.runUnderlying9 rfl) ?_
 refine FL.call rfl rfl rfl (E.call Try.call69 (A2 rfl rfl)) (w_cmp_Compare_int S0.sl (a0.size : Int) (a1.size : Int)) ?_
 rintro e w21 ⟨rfl, r22⟩
 refine ⟨_, rfl, ?_⟩
 have S23 := S0.call r22
 refine FL.v (E.move (v := Value.string a0) rfl) ?_
 refine FL.v (E.move (v := Value.string a1) rfl) ?_
 refine FL.call rfl rfl rfl (E.call Try.call70 (A2 rfl rfl)) (w_strings_Compare S23.sl a0 a1) ?_
 rintro e w24 ⟨rfl, r25⟩
 refine ⟨_, rfl, ?_⟩
 have S26 := S23.call r25
 obtain ⟨v27, w28, run29, S30, els31⟩ := S26.ints (P := Try.prog) te102 (up wa.heap.size Ha) 2 [(PF.cmp_Compare_int (a0.size : Int) (a1.size : Int)), (PF.strings_Compare a0 a1)]
 refine FL.v (E.buildSlice (B2 rfl rfl) run29) ?_
 obtain ⟨H32, S33, i34, h35, nv36⟩ := S30.sealRowU (i := 0) (l' := []) rfl els31 (by decide) rfl
 obtain ⟨r37, hr38, hp⟩ := bnd hp
 refine FL.call rfl rfl rfl (E.call Try.call68 (A1 rfl)) (w_cmp_Or_int S33.sl v27 [(PF.cmp_Compare_int (a0.size : Int) (a1.size : Int)), (PF.strings_Compare a0 a1)] (h35.mono upI) hr38) ?_
 rintro e w39 ⟨rfl, r40⟩
 refine ⟨_, rfl, ?_⟩
 have r40 := Run.lend i34 S30.sl r40
 have S41 := S30.call r40
 refine FL.v (E.assign (v := Value.int .i64 r37) rfl) ?_
 refine FL.nil ?_
 refine FW.ret ?_
 obtain rfl := Option.some.inj hp
 exact ⟨.inr rfl, res1 rfl rfl ⟨rfl, S41.back⟩⟩

set_option maxHeartbeats 4000000 in
theorem w_impl_sideOk {Ha : GH} {wa : World} (hs : Sl Ha wa) (v0 : Value) (a0 : List ByteArray) (p0 : RSl Ha eS 1 v0 a0) {r : Bool} (hp : (PF.impl_sideOk a0) = some r) :
  Calls Try.prog 47 #[v0] wa (Sc Ha wa (Value.bool r)) := by
 unfold PF.impl_sideOk at hp
 have S0 := St.init hs
 refine calls_go (N := 33) (args := [v0]) Try.func47 rfl rfl rfl ?_
 refine FW.seq (FW.region ?_)
 refine FL.v (E.assign (v := Value.bool false) rfl) ?_
 refine FL.nil (FW.seq (FW.seq (FW.region ?_)))
 refine FL.v (E.move (v := v0) rfl) ?_
 refine FL.v (E.lenP te22 rfl p0) ?_
 refine FL.v (E.move (v := Value.int .i64 0) rfl) ?_
 refine FL.nil ?_
 obtain ⟨q22, hq, hp⟩ := bndR hp
 refine FW.block ?_
 refine FW.mono (FW.forL (S := Unit) (X := Bool) (fun (i22 : Nat) (s22 : Unit) f w => ∃ H : GH, St Ha wa H w [] ∧ Inc Ha H ∧ f 7 = Value.int .i64 ((i22 : Nat) : Int) ∧ f 0 = v0 ∧ f 5 = v0 ∧ f 6 = Value.int .i64 (len a0)) (fun q e f w => match q with | .go s22 => e = Exit.exit 0 ∧ (∃ H : GH, St Ha wa H w [] ∧ Inc Ha H ∧ f 0 = v0) | .rt x => ((e = Exit.ret) ∧ (fun e f w => (e = Exit.normal ∨ e = Exit.ret) ∧ ∀ a, Fr (δ := []) 33 a f → ∃ v, (results Try.f47 a.tmps).run Try.prog w = .ok v w ∧ (Sc Ha wa (Value.bool x)) (.returned v) w) e f w)) hq ⟨_, S0, (Inc.rfl _), rfl, rfl, rfl, rfl⟩ ?_ ?_) ?_
 ·
  clear hp hq
  rintro i22 y21 s22 f138 w137 ⟨H134, S135, i136, k139, k140, k141, k142⟩ hx22 o245 hp
  refine FW.seq (FW.region ?_)
  refine FL.v (E.lssT k139 k142 (lss_len hx22)) ?_
  refine FL.nil (FW.seq ?_)
  refine FW.condT rfl rfl ?_
  refine FW.skip (FW.seq (FW.block (FW.seq (FW.region ?_))))
  refine FL.v (E.move k139) ?_
  obtain ⟨p143, cs144, pt145, l146, at147, rel148⟩ := p0.at (ix_nat hx22)
  obtain rfl := eS_open rel148
  refine FL.v (E.indexAddr te22 k141 k139 pt145) ?_
  refine FL.v (E.load rfl (run_load0 Try.isAgg9 ((at147.mono i136).now S135.sl) rfl)) ?_
  refine FL.v (E.assign (v := Value.int .i64 ((i22 : Nat) : Int)) rfl) ?_
  refine FL.v (E.assign (v := Value.string y21) rfl) ?_
  refine FL.nil (FW.seq (FW.region ?_))
  refine FL.v (E.move (v := Value.string y21) rfl) ?_
  obtain ⟨r149, hr150, hp⟩ := bnd hp
  refine FL.call rfl rfl rfl (E.call Try.call58 (A1 rfl)) (w_impl_IsFormula S135.sl y21 hr150) ?_
  rintro e w151 ⟨rfl, r152⟩
  refine ⟨_, rfl, ?_⟩
  have S153 := S135.call r152
  refine FL.v (E.not rfl) ?_
  refine FL.v (E.move (v := Value.bool (!r149)) rfl) ?_
  obtain ⟨t193, hqt193, hp⟩ := bnd hp
  refine FL.cut 13 (fun f w => ∃ H : GH, St Ha wa H w [] ∧ Inc H134 H ∧ f 0 = v0 ∧ f 5 = v0 ∧ f 6 = Value.int .i64 (len a0) ∧ f 7 = Value.int .i64 ((i22 : Nat) : Int) ∧ f 28 = Value.bool t193) ?_ ?_
  ·
   clear hp; have hp := hqt193; clear hqt193
   rcases ifB hp with ⟨c199, hp⟩ | ⟨c199, hp⟩
   ·
    refine FL.skip (wF_no rfl rfl rfl c199) rfl ?_
    refine FL.skip (wF_no rfl rfl rfl c199) rfl ?_
    refine FL.skip (wF_no rfl rfl rfl c199) rfl ?_
    refine FL.skip (wF_undef rfl rfl rfl) rfl ?_
    refine FL.skip (wF_undef rfl rfl rfl) rfl ?_
    refine FL.skip (wF_undef rfl rfl rfl) rfl ?_
    refine FL.skip (wF_undef rfl rfl rfl) rfl ?_
    refine FL.skip (wF_undef rfl rfl rfl) rfl ?_
    refine FL.skip (wF_undef rfl rfl rfl) rfl ?_
    refine FL.skip (wF_undef rfl rfl rfl) rfl ?_
    refine FL.skip (wF_undef rfl rfl rfl) rfl ?_
    refine FL.skip (wF_no rfl rfl rfl c199) rfl ?_
    obtain rfl := Option.some.inj hp
    refine FL.v (E.pickT rfl c199 rfl) ?_
    exact FL.nil ⟨rfl, _, S153, (Inc.rfl _), k140, k141, k142, k139, rfl⟩
   ·
    refine FL.val (wF_yes rfl rfl rfl c199) rfl rfl (E.move (v := Value.int .i64 ((i22 : Nat) : Int)) rfl) ?_
    refine FL.val (wF_yes rfl rfl rfl c199) rfl rfl (E.gtr rfl rfl) ?_
    refine FL.val (wF_yes rfl rfl rfl c199) rfl rfl (E.move (v := Value.bool (decide (0 < ((i22 : Nat) : Int)))) rfl) ?_
    obtain ⟨t213, hqt213, hp⟩ := bnd hp
    refine FL.cut 9 (fun f w => ∃ H : GH, St Ha wa H w [] ∧ Inc H134 H ∧ f 0 = v0 ∧ f 5 = v0 ∧ f 6 = Value.int .i64 (len a0) ∧ f 7 = Value.int .i64 ((i22 : Nat) : Int) ∧ f 15 = Value.bool (!r149) ∧ f 27 = Value.bool t213) ?_ ?_
    ·
     clear hp; have hp := hqt213; clear hqt213
     rcases ifB hp with ⟨c219, hp⟩ | ⟨c219, hp⟩
     ·
      refine FL.val (wF_yes rfl rfl rfl c219) rfl rfl (E.move k140) ?_
      refine FL.val (wF_yes rfl rfl rfl c219) rfl rfl (E.move (v := Value.int .i64 ((i22 : Nat) : Int)) rfl) ?_
      refine FL.val (wF_yes rfl rfl rfl c219) rfl rfl (E.sub rfl rfl) ?_
      obtain ⟨x226, hx227, hp⟩ := bnd hp
      obtain ⟨p220, cs221, pt222, l223, at224, rel225⟩ := p0.at hx227
      obtain rfl := eS_open rel225
      refine FL.val (wF_yes rfl rfl rfl c219) rfl rfl (E.indexAddr te22 rfl rfl pt222) ?_
      refine FL.val (wF_yes rfl rfl rfl c219) rfl rfl (E.load rfl (run_load0 Try.isAgg9 ((at224.mono i136).now S153.sl) rfl)) ?_
      refine FL.val (wF_yes rfl rfl rfl c219) rfl rfl (E.move (v := Value.string y21) rfl) ?_
      obtain ⟨r228, hr229, hp⟩ := bnd hp
      refine FL.call (wF_yes rfl rfl rfl c219) rfl rfl (E.call Try.call59 (A2 rfl rfl)) (w_impl_compareFormulas S153.sl x226 y21 hr229) ?_
      rintro e w230 ⟨rfl, r231⟩
      refine ⟨_, rfl, ?_⟩
      have S232 := S153.call r231
      refine FL.val (wF_yes rfl rfl rfl c219) rfl rfl (E.geq rfl rfl) ?_
      obtain rfl := Option.some.inj hp
      refine FL.val (wF_yes rfl rfl rfl c199) rfl rfl (E.pickT rfl c219 rfl) ?_
      exact FL.nil ⟨rfl, _, S232, (Inc.rfl _), k140, k141, k142, k139, rfl, rfl⟩
     ·
      refine FL.skip (wF_no rfl rfl rfl c219) rfl ?_
      refine FL.skip (wF_no rfl rfl rfl c219) rfl ?_
      refine FL.skip (wF_no rfl rfl rfl c219) rfl ?_
      refine FL.skip (wF_no rfl rfl rfl c219) rfl ?_
      refine FL.skip (wF_no rfl rfl rfl c219) rfl ?_
      refine FL.skip (wF_no rfl rfl rfl c219) rfl ?_
      refine FL.skip (wF_no rfl rfl rfl c219) rfl ?_
      refine FL.skip (wF_no rfl rfl rfl c219) rfl ?_
      obtain rfl := Option.some.inj hp
      refine FL.val (wF_yes rfl rfl rfl c199) rfl rfl (E.pickF rfl c219 rfl) ?_
      exact FL.nil ⟨rfl, _, S153, (Inc.rfl _), k140, k141, k142, k139, rfl, rfl⟩
    rintro f218 w217 ⟨H214, S215, i216, k233, k234, k235, k236, k237, k238⟩
    obtain rfl := Option.some.inj hp
    refine FL.v (E.pickF k237 c199 k238) ?_
    exact FL.nil ⟨rfl, _, S215, i216, k233, k234, k235, k236, rfl⟩
  rintro f198 w197 ⟨H194, S195, i196, k239, k240, k241, k242, k243⟩
  refine FL.nil ?_
  rcases ifB hp with ⟨c244, hp⟩ | ⟨c244, hp⟩
  ·
   refine FW.condT k243 c244 ?_
   refine FW.seq (FW.region ?_)
   refine FL.v (E.assign (v := Value.bool false) rfl) ?_
   refine FL.nil ?_
   refine FW.ret ?_
   obtain rfl := Option.some.inj hp
   exact ⟨nofun, rfl, ⟨.inr rfl, res1 rfl rfl ⟨rfl, S195.back⟩⟩⟩
  ·
   refine FW.condF k243 c244 ?_
   refine FW.skip (FW.region ?_)
   refine FL.v (E.add k242 rfl) ?_
   refine FL.v (E.move (v := Value.int .i64 (wr (((i22 : Nat) : Int) + 1))) rfl) ?_
   refine FL.nil ?_
   obtain rfl := Option.some.inj hp
   exact ⟨rfl, ⟨_, S195, (i136.tr i196), (nat_succ rfl (lt_of_get hx22) (p0.mono (i136.tr i196)).le), k239, k240, k241⟩⟩
 ·
  clear hp hq
  rintro s22 f256 w255 ⟨H252, S253, i254, k257, k258, k259, k260⟩
  refine FW.seq (FW.region ?_)
  refine FL.v (E.lss k257 k260) ?_
  refine FL.nil (FW.seq ?_)
  refine FW.condF rfl dlt_len ?_
  refine FW.exit ?_
  exact ⟨nofun, rfl, ⟨_, S253, i254, k258⟩⟩
 ·
  clear hq
  intro e f250 w249 hD
  rcases q22 with s22 | x22
  ·
   obtain ⟨rfl, hD⟩ := hD
   obtain ⟨H246, S247, i248, k251⟩ := hD
   replace hp := el_go hp
   refine FW.seq (FW.region ?_)
   refine FL.v (E.move k251) ?_
   refine FL.v (E.lenP te22 rfl p0) ?_
   refine FL.v (E.leq rfl rfl) ?_
   refine FL.v (E.assign (v := Value.bool (decide ((len a0) ≤ 12))) rfl) ?_
   refine FL.nil ?_
   refine FW.ret ?_
   obtain rfl := Option.some.inj hp
   exact ⟨.inr rfl, res1 rfl rfl ⟨rfl, S247.back⟩⟩
  ·
   obtain ⟨he, hL⟩ := hD
   replace hp := el_rt hp
   obtain rfl := Option.some.inj hp
   subst he
   exact hL

theorem w_impl_IsSequent {Ha : GH} {wa : World} (hs : Sl Ha wa) (a0 : Sequent) (v0_0 : Value) (p0_0 : RSl Ha eS 1 v0_0 a0.left) (v0_1 : Value) (p0_1 : RSl Ha eS 1 v0_1 a0.right) {r : Bool} (hp : (PF.impl_IsSequent a0) = some r) :
  Calls Try.prog 35 #[Value.agg #[v0_0, v0_1]] wa (Sc Ha wa (Value.bool r)) := by
 unfold PF.impl_IsSequent at hp
 have S0 := St.init hs
 refine calls_go (N := 11) (args := [Value.agg #[v0_0, v0_1]]) Try.func35 rfl rfl rfl ?_
 refine FW.seq (FW.region ?_)
 obtain ⟨b21, w22, run23, S24⟩ := S0.box (P := Try.prog) 28 [v0_0, v0_1] (v := Value.agg #[v0_0, v0_1]) rfl (ones_cons p0_0.one (ones_cons p0_1.one ones_nil))
 refine FL.v (E.box rfl run23) ?_
 obtain ⟨H25, S26, i27, at28⟩ := S24.sealBox (i := 0) (l' := []) rfl rfl
 refine FL.v (E.assign (v := Value.bool false) rfl) ?_
 refine FL.nil (FW.seq (FW.region ?_))
 refine FL.v (E.fieldAddr tf28_0 rfl) ?_
 refine FL.v (E.load rfl (run_load1 Try.isAgg22 (at28.now S26.sl) rfl)) ?_
 obtain ⟨r29, hr30, hp⟩ := bnd hp
 refine FL.call rfl rfl rfl (E.call Try.call47 (A1 rfl)) (w_impl_sideOk S26.sl v0_0 a0.left (p0_0.mono i27) hr30) ?_
 rintro e w31 ⟨rfl, r32⟩
 refine ⟨_, rfl, ?_⟩
 have S33 := S26.call r32
 refine FL.v (E.move (v := Value.bool r29) rfl) ?_
 obtain ⟨t39, hqt39, hp⟩ := bnd hp
 refine FL.cut 4 (fun f w => ∃ H : GH, St Ha wa H w [] ∧ Inc H25 H ∧ f 10 = Value.bool t39) ?_ ?_
 ·
  clear hp; have hp := hqt39; clear hqt39
  rcases ifB hp with ⟨c45, hp⟩ | ⟨c45, hp⟩
  ·
   refine FL.val (wF_yes rfl rfl rfl c45) rfl rfl (E.fieldAddr tf28_1 rfl) ?_
   refine FL.val (wF_yes rfl rfl rfl c45) rfl rfl (E.load rfl (run_load1 Try.isAgg22 (at28.now S33.sl) rfl)) ?_
   obtain ⟨r46, hr47, hp⟩ := bnd hp
   refine FL.call (wF_yes rfl rfl rfl c45) rfl rfl (E.call Try.call47 (A1 rfl)) (w_impl_sideOk S33.sl v0_1 a0.right (p0_1.mono i27) hr47) ?_
   rintro e w48 ⟨rfl, r49⟩
   refine ⟨_, rfl, ?_⟩
   have S50 := S33.call r49
   obtain rfl := Option.some.inj hp
   refine FL.v (E.pickT rfl c45 rfl) ?_
   exact FL.nil ⟨rfl, _, S50, (Inc.rfl _), rfl⟩
  ·
   refine FL.skip (wF_no rfl rfl rfl c45) rfl ?_
   refine FL.skip (wF_no rfl rfl rfl c45) rfl ?_
   refine FL.skip (wF_no rfl rfl rfl c45) rfl ?_
   obtain rfl := Option.some.inj hp
   refine FL.v (E.pickF rfl c45 rfl) ?_
   exact FL.nil ⟨rfl, _, S33, (Inc.rfl _), rfl⟩
 rintro f44 w43 ⟨H40, S41, i42, k51⟩
 refine FL.v (E.assign k51) ?_
 refine FL.nil ?_
 refine FW.ret ?_
 obtain rfl := Option.some.inj hp
 exact ⟨.inr rfl, res1 rfl rfl ⟨rfl, S41.back⟩⟩

@[reducible] def p_slices_Clone_string_string (Ha : GH) (wa : World) (r : (List ByteArray)) : Ending → World → Prop :=
 fun e w' => ∃ H' : GH, ∃ v0 : Value, ∃ n0 : Nat, ∃ c0 : List Value, e = .returned (v0) ∧ St Ha wa H' w' [.row 9 1 v0 n0 c0] ∧ Els (up wa.heap.size H') eS 1 c0 r
theorem w_slices_Clone_string_string {Ha : GH} {wa : World} (hs : Sl Ha wa) (v0 : Value) (a0 : List ByteArray) (p0 : RSl Ha eS 1 v0 a0) {r : (List ByteArray)} (hp : (PF.slices_Clone_string_string a0) = some r) :
  Calls Try.prog 48 #[v0] wa (p_slices_Clone_string_string Ha wa r) := by
 unfold PF.slices_Clone_string_string at hp
 have S0 := St.init hs
 refine calls_go (N := 8) (args := [v0]) Try.func48 rfl rfl rfl ?_
 refine FW.seq (FW.region ?_)
 refine FL.v (E.assign (v := Value.slice none 0 0) rfl) ?_
 refine FL.nil (FW.seq (FW.seq (FW.region ?_)))
 refine FL.v (E.move (v := v0) rfl) ?_
 obtain ⟨nb21, run22, hn23⟩ := RSl.nilTest te22 p0
 refine FL.v (run22 _ _ _ _ _ _ _ _ _ _ _ _ rfl rfl) ?_
 refine FL.nil ?_
 rcases bcase nb21 with c24 | c24
 ·
  refine FW.condT (b := nb21) rfl c24 ?_
  rw [hn23 c24, app_nil2] at hp
  refine FW.seq (FW.region ?_)
  refine FL.v (E.assign (v := Value.slice none 0 0) rfl) ?_
  refine FL.nil ?_
  refine FW.ret ?_
  obtain rfl := Option.some.inj hp
  exact ⟨.inr rfl, res1 rfl rfl ⟨_, _, _, _, rfl, (S0.nil 9 1), Els.nil⟩⟩
 ·
  refine FW.condF (b := nb21) rfl c24 ?_
  refine FW.skip (FW.seq (FW.region ?_))
  obtain ⟨v25, w26, run27, S28⟩ := S0.buildSlice (P := Try.prog) te22 [] (parts := #[]) (cells := []) rfl szs_nil fc_nil ones_nil (Nat.le_of_ble_eq_true rfl)
  have els29 : Els (up wa.heap.size Ha) eS 1 [] [] := Els.nil
  refine FL.v (E.buildSlice (B0) run27) ?_
  refine FL.v (E.move (v := v0) rfl) ?_
  obtain ⟨xs30, hz31, hp⟩ := bnd hp
  obtain ⟨v32, w35, n33, cs34, run36, S37, els38⟩ := S28.appendP (P := Try.prog) (Inc.rfl _) te22 (i := 0) rfl (els29.mono upI) p0 hz31
  have S37 : St Ha wa Ha w35 [.row 9 1 v32 n33 cs34] := S37
  have els38 : Els (up wa.heap.size Ha) eS 1 cs34 xs30 := els38.any (fun _ _ _ _ h => h)
  refine FL.v (E.append rfl rfl run36) ?_
  refine FL.v (E.assign (v := v32) rfl) ?_
  refine FL.nil ?_
  refine FW.ret ?_
  obtain rfl := Option.some.inj hp
  exact ⟨.inr rfl, res1 rfl rfl ⟨_, _, _, _, rfl, S37, els38⟩⟩

@[reducible] def p_impl_Sequent_clone (Ha : GH) (wa : World) (r : Sequent) : Ending → World → Prop :=
 fun e w' => ∃ H' : GH, ∃ v0_0 : Value, ∃ v0_1 : Value, e = .returned (Value.agg #[v0_0, v0_1]) ∧ Run wa.heap.size Ha wa H' w' ∧ (∃ c0 c1, Nest (up wa.heap.size H') eS 1 v0_0 r.left c0 ∧ Nest (up wa.heap.size H') eS 1 v0_1 r.right c1 ∧ Ap v0_0 c0 v0_1 c1)
theorem w_impl_Sequent_clone {Ha : GH} {wa : World} (hs : Sl Ha wa) (a0 : Sequent) (v0_0 : Value) (p0_0 : RSl Ha eS 1 v0_0 a0.left) (v0_1 : Value) (p0_1 : RSl Ha eS 1 v0_1 a0.right) {r : Sequent} (hp : (PF.impl_Sequent_clone a0) = some r) :
  Calls Try.prog 36 #[Value.agg #[v0_0, v0_1]] wa (p_impl_Sequent_clone Ha wa r) := by
 unfold PF.impl_Sequent_clone at hp
 have S0 := St.init hs
 refine calls_go (N := 10) (args := [Value.agg #[v0_0, v0_1]]) Try.func36 rfl rfl rfl ?_
 refine FW.seq (FW.region ?_)
 obtain ⟨b21, w22, run23, S24⟩ := S0.box (P := Try.prog) 28 [v0_0, v0_1] (v := Value.agg #[v0_0, v0_1]) rfl (ones_cons p0_0.one (ones_cons p0_1.one ones_nil))
 refine FL.v (E.box rfl run23) ?_
 obtain ⟨H25, S26, i27, at28⟩ := S24.sealBox (i := 0) (l' := []) rfl rfl
 obtain ⟨b29, w30, run31, S32⟩ := S26.alloc (P := Try.prog) 28 [Value.slice none 0 0, Value.slice none 0 0] Try.zeroValue28 rfl (ones_cons rfl (ones_cons rfl ones_nil))
 refine FL.v (E.alloc run31) ?_
 refine FL.nil (FW.seq ?_)
 obtain ⟨r36, hr37, hp⟩ := bnd hp
 obtain ⟨r46, hr47, hp⟩ := bnd hp
 refine FW.drawB (Sl H25) (fun f w => ∃ H : GH, ∃ v69 : Value, ∃ v72 : Value, St Ha wa H w [.box b29 28 [v69, v72]] ∧ Inc H25 H ∧ RSl (up wa.heap.size H) eS 1 v69 r36 ∧ RSl (up wa.heap.size H) eS 1 v72 r46 ∧ New H25 [v69] ∧ New H25 [v72] ∧ (∀ b ∈ bl [v69], b ∉ bl [v72]) ∧ f 2 = Value.pointer (some (⟨b29, 0, none⟩ : Addr))) (by kernel_rfl) S32.sl ?_ ?_
 ·
  intro w33 r34
  have S35 := S32.call r34
  refine FB.t (i := 0) (bs 8 1) rfl (SP.nil S35.sl) rfl (fun w' hw' => (E.fieldAddr tf28_0 rfl)) ?_
  refine FB.t (i := 1) (bs 8 3) rfl (SP.nil S35.sl) rfl (fun w' hw' => (E.load rfl (run_load1 Try.isAgg22 (at28.now hw') rfl))) ?_
  refine FB.t (i := 3) (bs 8 11) rfl (SP.nil S35.sl) rfl (fun w' hw' => (E.fieldAddr tf28_1 rfl)) ?_
  refine FB.t (i := 4) (bs 8 27) rfl (SP.nil S35.sl) rfl (fun w' hw' => (E.load rfl (run_load1 Try.isAgg22 (at28.now hw') rfl))) ?_
  refine FB.all1 (i := 2) (by kernel_rfl) ?_
  ·
   refine FC.call (l' := (bs 8 31)) rfl (by kernel_rfl) rfl rfl rfl (E.call Try.call48 (A1 rfl)) (w_slices_Clone_string_string S35.sl v0_0 a0.left (p0_0.mono i27) hr37) ?_
   rintro e w39 ⟨H38, v42, n43, cs44, rfl, r41, els45⟩
   refine ⟨_, rfl, ?_⟩
   have els45 := els45.mono (up_le S35.size)
   have S40 := S35.join (l' := [.row 9 1 v42 n43 cs44, .box b29 28 [Value.slice none 0 0, Value.slice none 0 0]]) r41 rfl
   refine ⟨(SP.nil (Sl.of_inc r41.run.inc S40.sl)), ?_⟩
   refine FB.all1 (i := 5) (by kernel_rfl) ?_
   ·
    refine FC.call (l' := (bs 8 63)) rfl (by kernel_rfl) rfl rfl rfl (E.call Try.call48 (A1 rfl)) (w_slices_Clone_string_string S40.sl v0_1 a0.right (p0_1.mono (i27.tr r41.run.inc)) hr47) ?_
    rintro e w49 ⟨H48, v52, n53, cs54, rfl, r51, els55⟩
    refine ⟨_, rfl, ?_⟩
    have els55 := els55.mono (up_le S40.size)
    have S50 := S40.join (l' := [.row 9 1 v52 n53 cs54, .row 9 1 v42 n43 cs44, .box b29 28 [Value.slice none 0 0, Value.slice none 0 0]]) r51 rfl
    refine ⟨(SP.nil (Sl.of_inc (r41.run.inc.tr r51.run.inc) S50.sl)), ?_⟩
    obtain ⟨H56, S57, i58, h59, nv60⟩ := S50.sealRowU (i := 1) (l' := [.row 9 1 v52 n53 cs54, .box b29 28 [Value.slice none 0 0, Value.slice none 0 0]]) rfl (els45.mono (up_mono r51.run.inc)) (by decide) rfl
    obtain ⟨H61, S62, i63, h64, nv65⟩ := S57.sealRowU (i := 0) (l' := [.box b29 28 [Value.slice none 0 0, Value.slice none 0 0]]) rfl (els55.mono (up_mono i58)) (by decide) rfl
    refine FB.t (i := 6) (bs 8 127) rfl (SP.nil (Sl.of_inc (r41.run.inc.tr r51.run.inc) S50.sl)) rfl (fun w' hw' => (E.build (B2 rfl rfl) (run_build _ 28 #[(0, v42), (1, v52)] #[v42, v52] (by obtain ⟨_, _, rfl⟩ := RSl.ln (h59.mono (upI.tr i63)); obtain ⟨_, _, rfl⟩ := RSl.ln (h64.mono upI); rfl)))) ?_
    refine FB.all1 (i := 7) (by kernel_rfl) ?_
    ·
     obtain ⟨w66, run67, S68⟩ := S62.store0 (P := Try.prog) (t := 28) (i := 0) (cs' := [v42, v52]) (l' := [.box b29 28 [v42, v52]]) (v := Value.agg #[v42, v52]) (c := [v42, v52]) rfl Try.sizeOf28 rfl rfl (ones_cons h59.one (ones_cons h64.one ones_nil)) (Nat.le_of_ble_eq_true rfl) rfl rfl
     refine FC.act (l' := (bs 8 255)) rfl (by kernel_rfl) rfl rfl (E.store rfl rfl run67) ?_
     refine ⟨(SP.nil (Sl.of_inc (((r41.run.inc.tr r51.run.inc).tr i58).tr i63) S68.sl)), ?_⟩
     exact FB.done (by kernel_rfl) ⟨_, _, _, S68, (((r41.run.inc.tr r51.run.inc).tr i58).tr i63), (h59.mono (up_mono i63)), h64, (nv60.anti (r41.run.inc.tr r51.run.inc)), (nv65.anti ((r41.run.inc.tr r51.run.inc).tr i58)), (New.apart (h59.mono (up_mono (Inc.rfl _))) nv65), rfl⟩
 ·
  rintro f80 w79 ⟨H76, v69, v72, S77, i78, h70, h73, nv71, nv74, hd75, k81⟩
  refine FW.ret ?_
  obtain rfl := Option.some.inj hp
  exact ⟨.inr rfl, resC rfl k81 (loadVar_A Try.isAgg28 Try.sizeOf28 (S77.box_now (i := 0) rfl) rfl) ⟨_, _, _, rfl, S77.run, (Ap.flat2 h70 eS_flat (by decide) h73 eS_flat (by decide) hd75)⟩⟩

theorem w_slices_Index_string_string {Ha : GH} {wa : World} (hs : Sl Ha wa) (v0 : Value) (a0 : List ByteArray) (p0 : RSl Ha eS 1 v0 a0) (a1 : ByteArray) {r : Int} (hp : (PF.slices_Index_string_string a0 a1) = some r) :
  Calls Try.prog 60 #[v0, Value.string a1] wa (Sc Ha wa (Value.int .i64 r)) := by
 unfold PF.slices_Index_string_string at hp
 have S0 := St.init hs
 refine calls_go (N := 19) (args := [v0, Value.string a1]) Try.func60 rfl rfl rfl ?_
 refine FW.seq (FW.region ?_)
 refine FL.v (E.assign (v := Value.int .i64 0) rfl) ?_
 refine FL.nil (FW.seq (FW.seq (FW.region ?_)))
 refine FL.v (E.move (v := v0) rfl) ?_
 refine FL.v (E.lenP te22 rfl p0) ?_
 refine FL.v (E.move (v := Value.int .i64 0) rfl) ?_
 refine FL.nil ?_
 obtain ⟨q22, hq, hp⟩ := bndR hp
 refine FW.block ?_
 refine FW.mono (FW.forL (S := Unit) (X := Int) (fun (i22 : Nat) (s22 : Unit) f w => ∃ H : GH, St Ha wa H w [] ∧ Inc Ha H ∧ f 8 = Value.int .i64 ((i22 : Nat) : Int) ∧ f 0 = v0 ∧ f 1 = Value.string a1 ∧ f 7 = Value.int .i64 (len a0)) (fun q e f w => match q with | .go s22 => e = Exit.exit 0 ∧ (∃ H : GH, St Ha wa H w [] ∧ Inc Ha H) | .rt x => ((e = Exit.ret) ∧ (fun e f w => (e = Exit.normal ∨ e = Exit.ret) ∧ ∀ a, Fr (δ := []) 19 a f → ∃ v, (results Try.f60 a.tmps).run Try.prog w = .ok v w ∧ (Sc Ha wa (Value.int .i64 x)) (.returned v) w) e f w)) hq ⟨_, S0, (Inc.rfl _), rfl, rfl, rfl, rfl⟩ ?_ ?_) ?_
 ·
  clear hp hq
  rintro i22 y21 s22 f43 w42 ⟨H39, S40, i41, k44, k45, k46, k47⟩ hx22 o55 hp
  refine FW.seq (FW.region ?_)
  refine FL.v (E.lssT k44 k47 (lss_len hx22)) ?_
  refine FL.nil (FW.seq ?_)
  refine FW.condT rfl rfl ?_
  refine FW.skip (FW.seq (FW.block (FW.seq (FW.region ?_))))
  refine FL.v (E.move k44) ?_
  refine FL.v (E.assign (v := Value.int .i64 ((i22 : Nat) : Int)) rfl) ?_
  refine FL.nil (FW.seq (FW.region ?_))
  refine FL.v (E.move k46) ?_
  refine FL.v (E.move k45) ?_
  refine FL.v (E.move (v := Value.int .i64 ((i22 : Nat) : Int)) rfl) ?_
  obtain ⟨p48, cs49, pt50, l51, at52, rel53⟩ := p0.at (ix_nat hx22)
  obtain rfl := eS_open rel53
  refine FL.v (E.indexAddr te22 rfl rfl pt50) ?_
  refine FL.v (E.load rfl (run_load0 Try.isAgg9 ((at52.mono i41).now S40.sl) rfl)) ?_
  refine FL.v (E.eqlS rfl rfl) ?_
  refine FL.nil ?_
  rcases ifB hp with ⟨c54, hp⟩ | ⟨c54, hp⟩
  ·
   refine FW.condT rfl c54 ?_
   refine FW.seq (FW.region ?_)
   refine FL.v (E.move (v := Value.int .i64 ((i22 : Nat) : Int)) rfl) ?_
   refine FL.v (E.assign (v := Value.int .i64 ((i22 : Nat) : Int)) rfl) ?_
   refine FL.nil ?_
   refine FW.ret ?_
   obtain rfl := Option.some.inj hp
   exact ⟨nofun, rfl, ⟨.inr rfl, res1 rfl rfl ⟨rfl, S40.back⟩⟩⟩
  ·
   refine FW.condF rfl c54 ?_
   refine FW.skip (FW.region ?_)
   refine FL.v (E.add k44 rfl) ?_
   refine FL.v (E.move (v := Value.int .i64 (wr (((i22 : Nat) : Int) + 1))) rfl) ?_
   refine FL.nil ?_
   obtain rfl := Option.some.inj hp
   exact ⟨rfl, ⟨_, S40, i41, (nat_succ rfl (lt_of_get hx22) (p0.mono i41).le), k45, k46, k47⟩⟩
 ·
  clear hp hq
  rintro s22 f65 w64 ⟨H61, S62, i63, k66, k67, k68, k69⟩
  refine FW.seq (FW.region ?_)
  refine FL.v (E.lss k66 k69) ?_
  refine FL.nil (FW.seq ?_)
  refine FW.condF rfl dlt_len ?_
  refine FW.exit ?_
  exact ⟨nofun, rfl, ⟨_, S62, i63⟩⟩
 ·
  clear hq
  intro e f60 w59 hD
  rcases q22 with s22 | x22
  ·
   obtain ⟨rfl, hD⟩ := hD
   obtain ⟨H56, S57, i58⟩ := hD
   replace hp := el_go hp
   refine FW.seq (FW.region ?_)
   refine FL.v (E.assign (v := Value.int .i64 (-1)) rfl) ?_
   refine FL.nil ?_
   refine FW.ret ?_
   obtain rfl := Option.some.inj hp
   exact ⟨.inr rfl, res1 rfl rfl ⟨rfl, S57.back⟩⟩
  ·
   obtain ⟨he, hL⟩ := hD
   replace hp := el_rt hp
   obtain rfl := Option.some.inj hp
   subst he
   exact hL

theorem w_slices_Contains_string_string {Ha : GH} {wa : World} (hs : Sl Ha wa) (v0 : Value) (a0 : List ByteArray) (p0 : RSl Ha eS 1 v0 a0) (a1 : ByteArray) {r : Bool} (hp : (PF.slices_Contains_string_string a0 a1) = some r) :
  Calls Try.prog 49 #[v0, Value.string a1] wa (Sc Ha wa (Value.bool r)) := by
 unfold PF.slices_Contains_string_string at hp
 have S0 := St.init hs
 refine calls_go (N := 9) (args := [v0, Value.string a1]) Try.func49 rfl rfl rfl ?_
 refine FW.seq (FW.region ?_)
 refine FL.v (E.assign (v := Value.bool false) rfl) ?_
 refine FL.nil (FW.seq (FW.region ?_))
 refine FL.v (E.move (v := v0) rfl) ?_
 refine FL.v (E.move (v := Value.string a1) rfl) ?_
 obtain ⟨r21, hr22, hp⟩ := bnd hp
 refine FL.call rfl rfl rfl (E.call Try.call60 (A2 rfl rfl)) (w_slices_Index_string_string S0.sl v0 a0 p0 a1 hr22) ?_
 rintro e w23 ⟨rfl, r24⟩
 refine ⟨_, rfl, ?_⟩
 have S25 := S0.call r24
 refine FL.v (E.geq rfl rfl) ?_
 refine FL.v (E.assign (v := Value.bool (decide (0 ≤ r21))) rfl) ?_
 refine FL.nil ?_
 refine FW.ret ?_
 obtain rfl := Option.some.inj hp
 exact ⟨.inr rfl, res1 rfl rfl ⟨rfl, S25.back⟩⟩

theorem w_slices_IndexFunc_string_string {Ha : GH} {wa : World} (hs : Sl Ha wa) (v0 : Value) (a0 : List ByteArray) (p0 : RSl Ha eS 1 v0 a0) (v1 : Value) (a1 : ByteArray → Option Bool) (p1 : Fn_S_to_B Try.prog Ha v1 a1) {r : Int} (hp : (PF.slices_IndexFunc_string_string a0 a1) = some r) :
  Calls Try.prog 61 #[v0, v1] wa (Sc Ha wa (Value.int .i64 r)) := by
 unfold PF.slices_IndexFunc_string_string at hp
 have S0 := St.init hs
 refine calls_go (N := 19) (args := [v0, v1]) Try.func61 rfl rfl rfl ?_
 refine FW.seq (FW.region ?_)
 refine FL.v (E.assign (v := Value.int .i64 0) rfl) ?_
 refine FL.nil (FW.seq (FW.seq (FW.region ?_)))
 refine FL.v (E.move (v := v0) rfl) ?_
 refine FL.v (E.lenP te22 rfl p0) ?_
 refine FL.v (E.move (v := Value.int .i64 0) rfl) ?_
 refine FL.nil ?_
 obtain ⟨q22, hq, hp⟩ := bndR hp
 refine FW.block ?_
 refine FW.mono (FW.forL (S := Unit) (X := Int) (fun (i22 : Nat) (s22 : Unit) f w => ∃ H : GH, St Ha wa H w [] ∧ Inc Ha H ∧ f 8 = Value.int .i64 ((i22 : Nat) : Int) ∧ f 0 = v0 ∧ f 1 = v1 ∧ f 7 = Value.int .i64 (len a0)) (fun q e f w => match q with | .go s22 => e = Exit.exit 0 ∧ (∃ H : GH, St Ha wa H w [] ∧ Inc Ha H) | .rt x => ((e = Exit.ret) ∧ (fun e f w => (e = Exit.normal ∨ e = Exit.ret) ∧ ∀ a, Fr (δ := []) 19 a f → ∃ v, (results Try.f61 a.tmps).run Try.prog w = .ok v w ∧ (Sc Ha wa (Value.int .i64 x)) (.returned v) w) e f w)) hq ⟨_, S0, (Inc.rfl _), rfl, rfl, rfl, rfl⟩ ?_ ?_) ?_
 ·
  clear hp hq
  rintro i22 y21 s22 f53 w52 ⟨H49, S50, i51, k54, k55, k56, k57⟩ hx22 o75 hp
  refine FW.seq (FW.region ?_)
  refine FL.v (E.lssT k54 k57 (lss_len hx22)) ?_
  refine FL.nil (FW.seq ?_)
  refine FW.condT rfl rfl ?_
  refine FW.skip (FW.seq (FW.block (FW.seq (FW.region ?_))))
  refine FL.v (E.move k54) ?_
  refine FL.v (E.assign (v := Value.int .i64 ((i22 : Nat) : Int)) rfl) ?_
  refine FL.nil (FW.seq (FW.region ?_))
  refine FL.v (E.move k56) ?_
  refine FL.v (E.move k55) ?_
  refine FL.v (E.move (v := Value.int .i64 ((i22 : Nat) : Int)) rfl) ?_
  obtain ⟨p58, cs59, pt60, l61, at62, rel63⟩ := p0.at (ix_nat hx22)
  obtain rfl := eS_open rel63
  refine FL.v (E.indexAddr te22 rfl rfl pt60) ?_
  refine FL.v (E.load rfl (run_load0 Try.isAgg9 ((at62.mono i51).now S50.sl) rfl)) ?_
  obtain ⟨r64, hr65, hp⟩ := bnd hp
  obtain ⟨fi69, cs70, hv71, he72, hc73⟩ := (p1.mono i51) H49 w52 (Inc.rfl _) S50.sl y21 r64 hr65
  refine FL.call rfl rfl rfl (E.callV he72 (Eq.trans rfl hv71) (appA (A1 rfl) cs70)) hc73 ?_
  rintro e w66 ⟨rfl, r67⟩
  refine ⟨_, rfl, ?_⟩
  have S68 := S50.call r67
  refine FL.nil ?_
  rcases ifB hp with ⟨c74, hp⟩ | ⟨c74, hp⟩
  ·
   refine FW.condT rfl c74 ?_
   refine FW.seq (FW.region ?_)
   refine FL.v (E.move (v := Value.int .i64 ((i22 : Nat) : Int)) rfl) ?_
   refine FL.v (E.assign (v := Value.int .i64 ((i22 : Nat) : Int)) rfl) ?_
   refine FL.nil ?_
   refine FW.ret ?_
   obtain rfl := Option.some.inj hp
   exact ⟨nofun, rfl, ⟨.inr rfl, res1 rfl rfl ⟨rfl, S68.back⟩⟩⟩
  ·
   refine FW.condF rfl c74 ?_
   refine FW.skip (FW.region ?_)
   refine FL.v (E.add k54 rfl) ?_
   refine FL.v (E.move (v := Value.int .i64 (wr (((i22 : Nat) : Int) + 1))) rfl) ?_
   refine FL.nil ?_
   obtain rfl := Option.some.inj hp
   exact ⟨rfl, ⟨_, S68, i51, (nat_succ rfl (lt_of_get hx22) (p0.mono i51).le), k55, k56, k57⟩⟩
 ·
  clear hp hq
  rintro s22 f85 w84 ⟨H81, S82, i83, k86, k87, k88, k89⟩
  refine FW.seq (FW.region ?_)
  refine FL.v (E.lss k86 k89) ?_
  refine FL.nil (FW.seq ?_)
  refine FW.condF rfl dlt_len ?_
  refine FW.exit ?_
  exact ⟨nofun, rfl, ⟨_, S82, i83⟩⟩
 ·
  clear hq
  intro e f80 w79 hD
  rcases q22 with s22 | x22
  ·
   obtain ⟨rfl, hD⟩ := hD
   obtain ⟨H76, S77, i78⟩ := hD
   replace hp := el_go hp
   refine FW.seq (FW.region ?_)
   refine FL.v (E.assign (v := Value.int .i64 (-1)) rfl) ?_
   refine FL.nil ?_
   refine FW.ret ?_
   obtain rfl := Option.some.inj hp
   exact ⟨.inr rfl, res1 rfl rfl ⟨rfl, S77.back⟩⟩
  ·
   obtain ⟨he, hL⟩ := hD
   replace hp := el_rt hp
   obtain rfl := Option.some.inj hp
   subst he
   exact hL

theorem w_slices_ContainsFunc_string_string {Ha : GH} {wa : World} (hs : Sl Ha wa) (v0 : Value) (a0 : List ByteArray) (p0 : RSl Ha eS 1 v0 a0) (v1 : Value) (a1 : ByteArray → Option Bool) (p1 : Fn_S_to_B Try.prog Ha v1 a1) {r : Bool} (hp : (PF.slices_ContainsFunc_string_string a0 a1) = some r) :
  Calls Try.prog 50 #[v0, v1] wa (Sc Ha wa (Value.bool r)) := by
 unfold PF.slices_ContainsFunc_string_string at hp
 have S0 := St.init hs
 refine calls_go (N := 9) (args := [v0, v1]) Try.func50 rfl rfl rfl ?_
 refine FW.seq (FW.region ?_)
 refine FL.v (E.assign (v := Value.bool false) rfl) ?_
 refine FL.nil (FW.seq (FW.region ?_))
 refine FL.v (E.move (v := v0) rfl) ?_
 refine FL.v (E.move (v := v1) rfl) ?_
 obtain ⟨r21, hr22, hp⟩ := bnd hp
 refine FL.call rfl rfl rfl (E.call Try.call61 (A2 rfl rfl)) (w_slices_IndexFunc_string_string S0.sl v0 a0 p0 v1 a1 p1 hr22) ?_
 rintro e w23 ⟨rfl, r24⟩
 refine ⟨_, rfl, ?_⟩
 have S25 := S0.call r24
 refine FL.v (E.geq rfl rfl) ?_
 refine FL.v (E.assign (v := Value.bool (decide (0 ≤ r21))) rfl) ?_
 refine FL.nil ?_
 refine FW.ret ?_
 obtain rfl := Option.some.inj hp
 exact ⟨.inr rfl, res1 rfl rfl ⟨rfl, S25.back⟩⟩

theorem w_impl_isSeqAxiom_1 {Ha : GH} {wa : World} (hs : Sl Ha wa) (a0 : ByteArray) (q0 : Addr) (b0 : Sequent) (u0_0 : Value) (g0_0 : RSl Ha eS 1 u0_0 b0.left) (u0_1 : Value) (g0_1 : RSl Ha eS 1 u0_1 b0.right) (c0 : CAt Ha q0 [u0_0, u0_1]) {r : Bool} (hp : (PF.impl_isSeqAxiom_1 a0 b0) = some r) :
  Calls Try.prog 51 #[Value.string a0, Value.pointer (some q0)] wa (Sc Ha wa (Value.bool r)) := by
 unfold PF.impl_isSeqAxiom_1 at hp
 have S0 := St.init hs
 refine calls_go (N := 8) (args := [Value.string a0, Value.pointer (some q0)]) Try.func51 rfl rfl rfl ?_
 refine FW.seq (FW.region ?_)
 refine FL.v (E.assign (v := Value.bool false) rfl) ?_
 refine FL.nil (FW.seq (FW.region ?_))
 refine FL.v (E.fieldAddr tf28_1 rfl) ?_
 refine FL.v (E.load rfl (run_load1 Try.isAgg22 (c0.now S0.sl) rfl)) ?_
 refine FL.v (E.move (v := Value.string a0) rfl) ?_
 obtain ⟨r21, hr22, hp⟩ := bnd hp
 refine FL.call rfl rfl rfl (E.call Try.call49 (A2 rfl rfl)) (w_slices_Contains_string_string S0.sl u0_1 b0.right g0_1 a0 hr22) ?_
 rintro e w23 ⟨rfl, r24⟩
 refine ⟨_, rfl, ?_⟩
 have S25 := S0.call r24
 refine FL.v (E.assign (v := Value.bool r21) rfl) ?_
 refine FL.nil ?_
 refine FW.ret ?_
 obtain rfl := Option.some.inj hp
 exact ⟨.inr rfl, res1 rfl rfl ⟨rfl, S25.back⟩⟩

theorem w_impl_isSeqAxiom {Ha : GH} {wa : World} (hs : Sl Ha wa) (a0 : Sequent) (v0_0 : Value) (p0_0 : RSl Ha eS 1 v0_0 a0.left) (v0_1 : Value) (p0_1 : RSl Ha eS 1 v0_1 a0.right) {r : Bool} (hp : (PF.impl_isSeqAxiom a0) = some r) :
  Calls Try.prog 37 #[Value.agg #[v0_0, v0_1]] wa (Sc Ha wa (Value.bool r)) := by
 unfold PF.impl_isSeqAxiom at hp
 have S0 := St.init hs
 refine calls_go (N := 17) (args := [Value.agg #[v0_0, v0_1]]) Try.func37 rfl rfl rfl ?_
 refine FW.seq (FW.region ?_)
 obtain ⟨b21, w22, run23, S24⟩ := S0.box (P := Try.prog) 28 [v0_0, v0_1] (v := Value.agg #[v0_0, v0_1]) rfl (ones_cons p0_0.one (ones_cons p0_1.one ones_nil))
 refine FL.v (E.box rfl run23) ?_
 obtain ⟨H25, S26, i27, at28⟩ := S24.sealBox (i := 0) (l' := []) rfl rfl
 refine FL.v (E.assign (v := Value.bool false) rfl) ?_
 refine FL.nil (FW.seq (FW.region ?_))
 refine FL.v (E.fieldAddr tf28_0 rfl) ?_
 refine FL.v (E.load rfl (run_load1 Try.isAgg22 (at28.now S26.sl) rfl)) ?_
 obtain ⟨r29, hr30, hp⟩ := bnd hp
 refine FL.call rfl rfl rfl (E.call Try.call49 (A2 rfl rfl)) (w_slices_Contains_string_string S26.sl v0_0 a0.left (p0_0.mono i27) (ByteArray.mk #[48]) hr30) ?_
 rintro e w31 ⟨rfl, r32⟩
 refine ⟨_, rfl, ?_⟩
 have S33 := S26.call r32
 refine FL.v (E.move (v := Value.bool r29) rfl) ?_
 obtain ⟨t39, hqt39, hp⟩ := bnd hp
 refine FL.cut 4 (fun f w => ∃ H : GH, St Ha wa H w [] ∧ Inc H25 H ∧ f 1 = Value.pointer (some ⟨b21, 0, none⟩) ∧ f 10 = Value.bool t39) ?_ ?_
 ·
  clear hp; have hp := hqt39; clear hqt39
  rcases ifB hp with ⟨c45, hp⟩ | ⟨c45, hp⟩
  ·
   refine FL.skip (wF_no rfl rfl rfl c45) rfl ?_
   refine FL.skip (wF_no rfl rfl rfl c45) rfl ?_
   refine FL.skip (wF_no rfl rfl rfl c45) rfl ?_
   obtain rfl := Option.some.inj hp
   refine FL.v (E.pickT rfl c45 rfl) ?_
   exact FL.nil ⟨rfl, _, S33, (Inc.rfl _), rfl, rfl⟩
  ·
   refine FL.val (wF_yes rfl rfl rfl c45) rfl rfl (E.fieldAddr tf28_1 rfl) ?_
   refine FL.val (wF_yes rfl rfl rfl c45) rfl rfl (E.load rfl (run_load1 Try.isAgg22 (at28.now S33.sl) rfl)) ?_
   obtain ⟨r46, hr47, hp⟩ := bnd hp
   refine FL.call (wF_yes rfl rfl rfl c45) rfl rfl (E.call Try.call49 (A2 rfl rfl)) (w_slices_Contains_string_string S33.sl v0_1 a0.right (p0_1.mono i27) (ByteArray.mk #[49]) hr47) ?_
   rintro e w48 ⟨rfl, r49⟩
   refine ⟨_, rfl, ?_⟩
   have S50 := S33.call r49
   obtain rfl := Option.some.inj hp
   refine FL.v (E.pickF rfl c45 rfl) ?_
   exact FL.nil ⟨rfl, _, S50, (Inc.rfl _), rfl, rfl⟩
 rintro f44 w43 ⟨H40, S41, i42, k51, k52⟩
 refine FL.v (E.move k52) ?_
 obtain ⟨t58, hqt58, hp⟩ := bnd hp
 refine FL.cut 5 (fun f w => ∃ H : GH, St Ha wa H w [] ∧ Inc H40 H ∧ f 16 = Value.bool t58) ?_ ?_
 ·
  clear hp; have hp := hqt58; clear hqt58
  rcases ifB hp with ⟨c64, hp⟩ | ⟨c64, hp⟩
  ·
   refine FL.skip (wF_no rfl rfl rfl c64) rfl ?_
   refine FL.skip (wF_no rfl rfl rfl c64) rfl ?_
   refine FL.skip (wF_no rfl rfl rfl c64) rfl ?_
   refine FL.skip (wF_no rfl rfl rfl c64) rfl ?_
   obtain rfl := Option.some.inj hp
   refine FL.v (E.pickT rfl c64 rfl) ?_
   exact FL.nil ⟨rfl, _, S41, (Inc.rfl _), rfl⟩
  ·
   refine FL.val (wF_yes rfl rfl rfl c64) rfl rfl (E.fieldAddr tf28_0 k51) ?_
   refine FL.val (wF_yes rfl rfl rfl c64) rfl rfl (E.load rfl (run_load1 Try.isAgg22 ((at28.mono i42).now S41.sl) rfl)) ?_
   refine FL.val (wF_yes rfl rfl rfl c64) rfl rfl (E.makeFunc A0 (A1 k51)) ?_
   obtain ⟨r65, hr66, hp⟩ := bnd hp
   refine FL.call (wF_yes rfl rfl rfl c64) rfl rfl (E.call Try.call50 (A2 rfl rfl)) (w_slices_ContainsFunc_string_string S41.sl v0_0 a0.left (p0_0.mono (i27.tr i42)) (Value.func (.func 51) #[] #[Value.pointer (some ⟨b21, 0, none⟩)]) (fun x0 => PF.impl_isSeqAxiom_1 x0 a0) (fun H2 w2 hi2 hs2 x0 r hr => ⟨51, #[Value.pointer (some ⟨b21, 0, none⟩)], rfl, Try.call51, w_impl_isSeqAxiom_1 hs2 x0 ⟨b21, 0, none⟩ a0 v0_0 ((p0_0.mono (i27.tr i42)).mono hi2) v0_1 ((p0_1.mono (i27.tr i42)).mono hi2) ((at28.mono i42).mono hi2) hr⟩) hr66) ?_
   rintro e w67 ⟨rfl, r68⟩
   refine ⟨_, rfl, ?_⟩
   have S69 := S41.call r68
   obtain rfl := Option.some.inj hp
   refine FL.v (E.pickF rfl c64 rfl) ?_
   exact FL.nil ⟨rfl, _, S69, (Inc.rfl _), rfl⟩
 rintro f63 w62 ⟨H59, S60, i61, k70⟩
 refine FL.v (E.assign k70) ?_
 refine FL.nil ?_
 refine FW.ret ?_
 obtain rfl := Option.some.inj hp
 exact ⟨.inr rfl, res1 rfl rfl ⟨rfl, S60.back⟩⟩

theorem w_impl_ruleFor {Ha : GH} {wa : World} (hs : Sl Ha wa) (a0 : Int) (a1 : Bool) :
  Calls Try.prog 53 #[Value.int .u8 a0, Value.bool a1] wa (Sc Ha wa (Value.int .i64 (PF.impl_ruleFor a0 a1))) := by
 obtain ⟨r, hp⟩ : ∃ r, (PF.impl_ruleFor a0 a1) = r := ⟨_, rfl⟩
 rw [hp]
 unfold PF.impl_ruleFor at hp
 have S0 := St.init hs
 refine calls_go (N := 24) (args := [Value.int .u8 a0, Value.bool a1]) Try.func53 rfl rfl rfl ?_
 refine FW.seq (FW.region ?_)
 refine FL.v (E.assign (v := Value.int .i64 0) rfl) ?_
 refine FL.nil (FW.seq (FW.region ?_))
 obtain ⟨b21, o22, w23, run24, S25, hm26⟩ := S0.makeMap (P := Try.prog) (K := Int) (V := Int) 89 (Value.int .u8) (Value.int .i64)
 refine FL.v (E.makeMap run24) ?_
 obtain ⟨o27, w28, run29, S30, hm31⟩ := S25.mapPut (P := Try.prog) (i := 0) rfl hm26 Try.runUnderlying89 (KeyNow.intk Try.runUnderlying5) 126 2
 have S30 : St Ha wa Ha w28 [.raw b21 o27] := S30
 refine FL.act rfl rfl (E.insert rfl rfl rfl run29) ?_
 obtain ⟨o32, w33, run34, S35, hm36⟩ := S30.mapPut (P := Try.prog) (i := 0) rfl hm31 Try.runUnderlying89 (KeyNow.intk Try.runUnderlying5) 38 4
 have S35 : St Ha wa Ha w33 [.raw b21 o32] := S35
 refine FL.act rfl rfl (E.insert rfl rfl rfl run34) ?_
 obtain ⟨o37, w38, run39, S40, hm41⟩ := S35.mapPut (P := Try.prog) (i := 0) rfl hm36 Try.runUnderlying89 (KeyNow.intk Try.runUnderlying5) 124 6
 have S40 : St Ha wa Ha w38 [.raw b21 o37] := S40
 refine FL.act rfl rfl (E.insert rfl rfl rfl run39) ?_
 obtain ⟨o42, w43, run44, S45, hm46⟩ := S40.mapPut (P := Try.prog) (i := 0) rfl hm41 Try.runUnderlying89 (KeyNow.intk Try.runUnderlying5) 62 8
 have S45 : St Ha wa Ha w43 [.raw b21 o42] := S45
 refine FL.act rfl rfl (E.insert rfl rfl rfl run44) ?_
 refine FL.v (E.move (v := Value.map (some b21)) rfl) ?_
 refine FL.v (E.assign (v := Value.map (some b21)) rfl) ?_
 refine FL.nil (FW.seq (FW.region ?_))
 refine FL.v (E.move (v := Value.map (some b21)) rfl) ?_
 refine FL.v (E.move (v := Value.int .u8 a0) rfl) ?_
 refine FL.v (E.lookup rfl rfl (S45.mapGetOk (P := Try.prog) (i := 0) rfl hm46 Try.runUnderlying89 (KeyNow.intk Try.runUnderlying5) (z := 0) Try.zeroValue3 a0)) ?_
 refine FL.v (E.move (v := Value.tuple #[Value.int .i64 ((mget (mput (mput (mput (mput ([] : List (Int × Int)) 126 2) 38 4) 124 6) 62 8) a0).getD 0), Value.bool ((mget (mput (mput (mput (mput ([] : List (Int × Int)) 126 2) 38 4) 124 6) 62 8) a0).isSome)]) rfl) ?_
 refine FL.v (E.extract (i := 0) rfl rfl) ?_
 refine FL.v (E.extract (i := 1) rfl rfl) ?_
 refine FL.v (E.assign (v := Value.int .i64 ((mget (mput (mput (mput (mput ([] : List (Int × Int)) 126 2) 38 4) 124 6) 62 8) a0).getD 0)) rfl) ?_
 refine FL.v (E.assign (v := Value.bool ((mget (mput (mput (mput (mput ([] : List (Int × Int)) 126 2) 38 4) 124 6) 62 8) a0).isSome)) rfl) ?_
 refine FL.nil (FW.seq (FW.seq (FW.region ?_)))
 refine FL.v (E.move (v := Value.bool ((mget (mput (mput (mput (mput ([] : List (Int × Int)) 126 2) 38 4) 124 6) 62 8) a0).isSome)) rfl) ?_
 refine FL.v (E.move (v := Value.bool ((mget (mput (mput (mput (mput ([] : List (Int × Int)) 126 2) 38 4) 124 6) 62 8) a0).isSome)) rfl) ?_
 refine FL.cut 3 (fun f w => ∃ H : GH, St Ha wa H w [.raw b21 o42] ∧ Inc Ha H ∧ f 6 = Value.int .i64 ((mget (mput (mput (mput (mput ([] : List (Int × Int)) 126 2) 38 4) 124 6) 62 8) a0).getD 0) ∧ f 20 = Value.bool (bif (mget (mput (mput (mput (mput ([] : List (Int × Int)) 126 2) 38 4) 124 6) 62 8) a0).isSome then (!a1) else false)) ?_ ?_
 ·
  rcases bcase ((mget (mput (mput (mput (mput ([] : List (Int × Int)) 126 2) 38 4) 124 6) 62 8) a0).isSome) with c53 | c53
  ·
   refine FL.val (wF_yes rfl rfl rfl c53) rfl rfl (E.move (v := Value.bool a1) rfl) ?_
   refine FL.val (wF_yes rfl rfl rfl c53) rfl rfl (E.not rfl) ?_
   refine FL.v (E.pickT rfl c53 rfl) ?_
   exact FL.nil ⟨rfl, _, S45, (Inc.rfl _), rfl, (congrArg Value.bool (bifT c53).symm)⟩
  ·
   refine FL.skip (wF_no rfl rfl rfl c53) rfl ?_
   refine FL.skip (wF_no rfl rfl rfl c53) rfl ?_
   refine FL.v (E.pickF rfl c53 rfl) ?_
   exact FL.nil ⟨rfl, _, S45, (Inc.rfl _), rfl, (congrArg Value.bool (bifF c53).symm)⟩
 rintro f52 w51 ⟨H48, S49, i50, k54, k55⟩
 refine FL.nil ?_
 rcases ifT hp with ⟨c56, hp⟩ | ⟨c56, hp⟩
 ·
  refine FW.condT k55 c56 ?_
  refine FW.region ?_
  refine FL.v (E.move k54) ?_
  refine FL.v (E.add rfl rfl) ?_
  refine FL.v (E.assign (v := Value.int .i64 (wr (((mget (mput (mput (mput (mput ([] : List (Int × Int)) 126 2) 38 4) 124 6) 62 8) a0).getD 0) + 1))) rfl) ?_
  refine FL.nil (FW.seq (FW.region ?_))
  refine FL.v (E.move (v := Value.int .i64 (wr (((mget (mput (mput (mput (mput ([] : List (Int × Int)) 126 2) 38 4) 124 6) 62 8) a0).getD 0) + 1))) rfl) ?_
  refine FL.v (E.assign (v := Value.int .i64 (wr (((mget (mput (mput (mput (mput ([] : List (Int × Int)) 126 2) 38 4) 124 6) 62 8) a0).getD 0) + 1))) rfl) ?_
  refine FL.nil ?_
  refine FW.ret ?_
  obtain rfl := hp
  exact ⟨.inr rfl, res1 rfl rfl ⟨rfl, S49.back⟩⟩
 ·
  refine FW.condF k55 c56 ?_
  refine FW.skip (FW.seq (FW.region ?_))
  refine FL.v (E.move k54) ?_
  refine FL.v (E.assign (v := Value.int .i64 ((mget (mput (mput (mput (mput ([] : List (Int × Int)) 126 2) 38 4) 124 6) 62 8) a0).getD 0)) rfl) ?_
  refine FL.nil ?_
  refine FW.ret ?_
  obtain rfl := hp
  exact ⟨.inr rfl, res1 rfl rfl ⟨rfl, S49.back⟩⟩

@[reducible] def p_impl_mainOf (Ha : GH) (wa : World) (r : (Fo × Int)) : Ending → World → Prop :=
 fun e w' => ∃ H' : GH, ∃ v0 : Value, e = .returned (Value.tuple #[v0, Value.int .i64 r.2]) ∧ Run wa.heap.size Ha wa H' w' ∧ FAt H' v0 r.1
set_option maxHeartbeats 4000000 in
theorem w_impl_mainOf {Ha : GH} {wa : World} (hs : Sl Ha wa) (a0 : Sequent) (v0_0 : Value) (p0_0 : RSl Ha eS 1 v0_0 a0.left) (v0_1 : Value) (p0_1 : RSl Ha eS 1 v0_1 a0.right) {r : (Fo × Int)} (hp : (PF.impl_mainOf a0) = some r) :
  Calls Try.prog 38 #[Value.agg #[v0_0, v0_1]] wa (p_impl_mainOf Ha wa r) := by
 unfold PF.impl_mainOf at hp
 have S0 := St.init hs
 refine calls_go (N := 46) (args := [Value.agg #[v0_0, v0_1]]) Try.func38 rfl rfl rfl ?_
 refine FW.seq (FW.region ?_)
 obtain ⟨b21, w22, run23, S24⟩ := S0.box (P := Try.prog) 28 [v0_0, v0_1] (v := Value.agg #[v0_0, v0_1]) rfl (ones_cons p0_0.one (ones_cons p0_1.one ones_nil))
 refine FL.v (E.box rfl run23) ?_
 obtain ⟨H25, S26, i27, at28⟩ := S24.sealBox (i := 0) (l' := []) rfl rfl
 refine FL.v (E.assign (v := Value.pointer none) rfl) ?_
 refine FL.v (E.assign (v := Value.int .i64 0) rfl) ?_
 refine FL.nil (FW.seq (FW.seq (FW.region ?_)))
 refine FL.v (E.fieldAddr tf28_0 rfl) ?_
 refine FL.v (E.load rfl (run_load1 Try.isAgg22 (at28.now S26.sl) rfl)) ?_
 refine FL.v (E.fieldAddr tf28_1 rfl) ?_
 refine FL.v (E.load rfl (run_load1 Try.isAgg22 (at28.now S26.sl) rfl)) ?_
 obtain ⟨v29, w30, run31, S32⟩ := S26.buildSlice (P := Try.prog) te78 [v0_0, v0_1] (parts := #[(0, v0_0), (1, v0_1)]) (cells := [v0_0, v0_1]) rfl (szs_cons (cells_size p0_0.cells) (szs_cons (cells_size p0_1.cells) szs_nil)) (fc_cons p0_0.cells (fc_cons p0_1.cells fc_nil)) (ones_cons p0_0.one (ones_cons p0_1.one ones_nil)) (Nat.le_of_ble_eq_true rfl)
 have els33 : Els H25 (eL eS 1) 1 [v0_0, v0_1] [a0.left, a0.right] := (Els.snoc (H := H25) (E := (eL eS 1)) (k := 1) (c := [v0_1]) (x := a0.right) (Els.snoc (H := H25) (E := (eL eS 1)) (k := 1) (c := [v0_0]) (x := a0.left) Els.nil rfl ⟨_, rfl, (p0_0.mono i27)⟩) rfl ⟨_, rfl, (p0_1.mono i27)⟩)
 refine FL.v (E.buildSlice (B2 rfl rfl) run31) ?_
 refine FL.v (E.lenO te78 rfl S32 (i := 0) rfl els33 (by decide)) ?_
 refine FL.v (E.move (v := Value.int .i64 0) rfl) ?_
 refine FL.nil ?_
 obtain ⟨m34, hchk35, hp⟩ := bnd hp
 obtain ⟨q35, hq, hp⟩ := bndR hp
 refine FW.block ?_
 refine FW.mono (FW.forR (S := Unit) (X := (Fo × Int)) (fun (i35 : Nat) (s35 : Unit) f w => ∃ H : GH, St Ha wa H w [.row 22 1 v29 2 [v0_0, v0_1]] ∧ Inc H25 H ∧ f 17 = Value.int .i64 ((i35 : Nat) : Int) ∧ f 15 = v29 ∧ f 16 = Value.int .i64 (len [a0.left, a0.right])) (fun q e f w => match q with | .go s35 => e = Exit.exit 0 ∧ (∃ H : GH, St Ha wa H w [.row 22 1 v29 2 [v0_0, v0_1]] ∧ Inc H25 H) | .rt x => ((e = Exit.ret) ∧ (fun e f w => (e = Exit.normal ∨ e = Exit.ret) ∧ ∀ a, Fr (δ := []) 46 a f → ∃ v, (results Try.f38 a.tmps).run Try.prog w = .ok v w ∧ (p_impl_mainOf Ha wa x) (.returned v) w) e f w)) hq ⟨_, S32, (Inc.rfl _), rfl, rfl, rfl⟩ ?_ ?_) ?_
 ·
  clear hp hq
  rintro i35 s35 f118 w117 ⟨H114, S115, i116, k119, k120, k121⟩ hi35 hj35 o231 hp
  refine FW.seq (FW.region ?_)
  refine FL.v (E.lssT k119 k121 (lss_chk hj35 hchk35)) ?_
  refine FL.nil (FW.seq ?_)
  refine FW.condT rfl rfl ?_
  refine FW.skip (FW.seq (FW.block (FW.seq (FW.region ?_))))
  refine FL.v (E.move k119) ?_
  obtain ⟨x128, hx129, hp⟩ := bnd hp
  obtain ⟨p122, cs123, pt124, l125, at126, rel127⟩ := S115.row_at (i := 0) rfl els33 (by decide) hx129
  obtain ⟨v130, rfl, h131⟩ := eL_open rel127
  refine FL.v (E.indexAddr te78 k120 k119 pt124) ?_
  refine FL.v (E.load rfl (run_load0 Try.isAgg22 at126 rfl)) ?_
  refine FL.v (E.assign (v := Value.int .i64 ((i35 : Nat) : Int)) rfl) ?_
  refine FL.v (E.assign (v := v130) rfl) ?_
  refine FL.nil (FW.seq (FW.region ?_))
  refine FL.v (E.move (v := v130) rfl) ?_
  refine FL.v (E.lenP te22 rfl h131) ?_
  refine FL.v (E.move (v := Value.int .i64 0) rfl) ?_
  refine FL.nil ?_
  obtain ⟨q133, hq, hp⟩ := bndR hp
  refine FW.block ?_
  refine FW.mono (FW.forL (S := Unit) (X := (Lp Unit (Fo × Int))) (fun (i133 : Nat) (s133 : Unit) f w => ∃ H : GH, St Ha wa H w [.row 22 1 v29 2 [v0_0, v0_1]] ∧ Inc H114 H ∧ f 24 = Value.int .i64 ((i133 : Nat) : Int) ∧ f 4 = Value.int .i64 ((i35 : Nat) : Int) ∧ f 15 = v29 ∧ f 16 = Value.int .i64 (len [a0.left, a0.right]) ∧ f 17 = Value.int .i64 ((i35 : Nat) : Int) ∧ f 22 = v130 ∧ f 23 = Value.int .i64 (len x128)) (fun q e f w => match q with | .go s133 => e = Exit.exit 2 ∧ (∃ H : GH, St Ha wa H w [.row 22 1 v29 2 [v0_0, v0_1]] ∧ Inc H114 H ∧ f 15 = v29 ∧ f 16 = Value.int .i64 (len [a0.left, a0.right]) ∧ f 17 = Value.int .i64 ((i35 : Nat) : Int)) | .rt x => ((e = Exit.ret) ∧ (Rd ((fun (i35 : Nat) (s35 : Unit) f w => ∃ H : GH, St Ha wa H w [.row 22 1 v29 2 [v0_0, v0_1]] ∧ Inc H25 H ∧ f 17 = Value.int .i64 ((i35 : Nat) : Int) ∧ f 15 = v29 ∧ f 16 = Value.int .i64 (len [a0.left, a0.right])) (i35 + 1)) (fun q e f w => match q with | .go s35 => e = Exit.exit 0 ∧ (∃ H : GH, St Ha wa H w [.row 22 1 v29 2 [v0_0, v0_1]] ∧ Inc H25 H) | .rt x => ((e = Exit.ret) ∧ (fun e f w => (e = Exit.normal ∨ e = Exit.ret) ∧ ∀ a, Fr (δ := []) 46 a f → ∃ v, (results Try.f38 a.tmps).run Try.prog w = .ok v w ∧ (p_impl_mainOf Ha wa x) (.returned v) w) e f w)) x) e f w)) hq ⟨_, S115, (Inc.rfl _), rfl, rfl, k120, k121, k119, rfl, rfl⟩ ?_ ?_) ?_
  ·
   clear hp hq
   rintro i133 y132 s133 f176 w175 ⟨H172, S173, i174, k177, k178, k179, k180, k181, k182, k183⟩ hx133 o210 hp
   refine FW.seq (FW.region ?_)
   refine FL.v (E.lssT k177 k183 (lss_len hx133)) ?_
   refine FL.nil (FW.seq ?_)
   refine FW.condT rfl rfl ?_
   refine FW.skip (FW.seq (FW.block (FW.seq (FW.region ?_))))
   obtain ⟨p184, cs185, pt186, l187, at188, rel189⟩ := h131.at (ix_nat hx133)
   obtain rfl := eS_open rel189
   refine FL.v (E.indexAddr te22 k182 k177 pt186) ?_
   refine FL.v (E.load rfl (run_load0 Try.isAgg9 ((at188.mono (i116.tr i174)).now S173.sl) rfl)) ?_
   refine FL.v (E.assign (v := Value.string y132) rfl) ?_
   refine FL.nil (FW.seq (FW.region ?_))
   refine FL.v (E.move (v := Value.string y132) rfl) ?_
   obtain ⟨r190, hr191, hp⟩ := bnd hp
   refine FL.call rfl rfl rfl (E.call Try.call52 (A1 rfl)) (w_impl_parse S173.sl y132 hr191) ?_
   rintro e w193 ⟨H192, v196, rfl, r195, h197⟩
   refine ⟨_, rfl, ?_⟩
   have S194 := S173.call r195
   refine FL.v (E.move (v := Value.tuple #[v196, Value.bool r190.2]) rfl) ?_
   refine FL.v (E.extract (i := 0) rfl rfl) ?_
   refine FL.v (E.extract (i := 1) rfl rfl) ?_
   refine FL.v (E.assign (v := v196) rfl) ?_
   refine FL.v (E.assign (v := Value.bool r190.2) rfl) ?_
   refine FL.nil (FW.seq (FW.region ?_))
   refine FL.v (E.move (v := v196) rfl) ?_
   obtain ⟨y198, hy199, hp⟩ := bnd hp
   obtain ⟨q200, v202, v203, rfl, at201, h204, h205⟩ := FAt.open h197 hy199
   refine FL.v (E.nilCheck rfl) ?_
   refine FL.v (E.fieldAddr tf68_0 rfl) ?_
   refine FL.v (E.load rfl (run_load1 Try.isAgg5 (at201.now S194.sl) rfl)) ?_
   refine FL.v (E.move k178) ?_
   refine FL.v (E.eql rfl rfl) ?_
   refine FL.call rfl rfl rfl (E.call Try.call53 (A2 rfl rfl)) (w_impl_ruleFor S194.sl y198.op (((i35 : Nat) : Int) == 0)) ?_
   rintro e w206 ⟨rfl, r207⟩
   refine ⟨_, rfl, ?_⟩
   have S208 := S194.call r207
   refine FL.v (E.assign (v := Value.int .i64 (PF.impl_ruleFor y198.op (((i35 : Nat) : Int) == 0))) rfl) ?_
   refine FL.nil (FW.seq (FW.region ?_))
   refine FL.v (E.move (v := Value.int .i64 (PF.impl_ruleFor y198.op (((i35 : Nat) : Int) == 0))) rfl) ?_
   refine FL.v (E.neq rfl rfl) ?_
   refine FL.nil ?_
   rcases ifB hp with ⟨c209, hp⟩ | ⟨c209, hp⟩
   ·
    refine FW.condT rfl c209 ?_
    refine FW.seq (FW.region ?_)
    refine FL.v (E.move (v := Value.pointer (some q200)) rfl) ?_
    refine FL.v (E.move (v := Value.int .i64 (PF.impl_ruleFor y198.op (((i35 : Nat) : Int) == 0))) rfl) ?_
    refine FL.v (E.assign (v := Value.pointer (some q200)) rfl) ?_
    refine FL.v (E.assign (v := Value.int .i64 (PF.impl_ruleFor y198.op (((i35 : Nat) : Int) == 0))) rfl) ?_
    refine FL.nil ?_
    refine FW.ret ?_
    obtain rfl := Option.some.inj hp
    exact ⟨nofun, rfl, ⟨nofun, rfl, ⟨.inr rfl, res2 rfl rfl rfl ⟨_, _, rfl, S208.run, h197⟩⟩⟩⟩
   ·
    refine FW.condF rfl c209 ?_
    refine FW.skip (FW.region ?_)
    refine FL.v (E.add k177 rfl) ?_
    refine FL.v (E.move (v := Value.int .i64 (wr (((i133 : Nat) : Int) + 1))) rfl) ?_
    refine FL.nil ?_
    obtain rfl := Option.some.inj hp
    exact ⟨rfl, ⟨_, S208, (i174.tr r195.inc), (nat_succ rfl (lt_of_get hx133) (h131.mono ((i116.tr i174).tr r195.inc)).le), k178, k179, k180, k181, k182, k183⟩⟩
  ·
   clear hp hq
   rintro s133 f223 w222 ⟨H219, S220, i221, k224, k225, k226, k227, k228, k229, k230⟩
   refine FW.seq (FW.region ?_)
   refine FL.v (E.lss k224 k230) ?_
   refine FL.nil (FW.seq ?_)
   refine FW.condF rfl dlt_len ?_
   refine FW.exit ?_
   exact ⟨nofun, rfl, ⟨_, S220, i221, k226, k227, k228⟩⟩
  ·
   clear hq
   intro e f215 w214 hD
   rcases q133 with s133 | x133
   ·
    obtain ⟨rfl, hD⟩ := hD
    obtain ⟨H211, S212, i213, k216, k217, k218⟩ := hD
    replace hp := el_go hp
    refine FW.region ?_
    refine FL.v (E.add k218 rfl) ?_
    refine FL.v (E.move (v := Value.int .i64 (wr (((i35 : Nat) : Int) + 1))) rfl) ?_
    refine FL.nil ?_
    obtain rfl := Option.some.inj hp
    exact ⟨rfl, ⟨_, S212, (i116.tr i213), (nat_succ rfl hj35 (chk_le hchk35)), k216, k217⟩⟩
   ·
    obtain ⟨he, hL⟩ := hD
    replace hp := el_rt hp
    obtain rfl := Option.some.inj hp
    subst he
    exact hL
 ·
  clear hp hq
  rintro s35 f241 w240 ⟨H237, S238, i239, k242, k243, k244⟩
  refine FW.seq (FW.region ?_)
  refine FL.v (E.lss k242 k244) ?_
  refine FL.nil (FW.seq ?_)
  refine FW.condF rfl (dlt_maxchk hchk35) ?_
  refine FW.exit ?_
  exact ⟨nofun, rfl, ⟨_, S238, i239⟩⟩
 ·
  clear hq
  intro e f236 w235 hD
  rcases q35 with s35 | x35
  ·
   obtain ⟨rfl, hD⟩ := hD
   obtain ⟨H232, S233, i234⟩ := hD
   replace hp := el_go hp
   refine FW.seq (FW.region ?_)
   refine FL.v (E.assign (v := Value.pointer none) rfl) ?_
   refine FL.v (E.assign (v := Value.int .i64 0) rfl) ?_
   refine FL.nil ?_
   refine FW.ret ?_
   obtain rfl := Option.some.inj hp
   exact ⟨.inr rfl, res2 rfl rfl rfl ⟨_, _, rfl, S233.run, FAt.nil⟩⟩
  ·
   obtain ⟨he, hL⟩ := hD
   replace hp := el_rt hp
   obtain rfl := Option.some.inj hp
   subst he
   exact hL

@[reducible] def p_slices_DeleteFunc_string_string (H0 : GH) (w0 : World) (Ha : GH) (L : List MO) (r : (List ByteArray)) : Ending → World → Prop :=
 fun e w' => ∃ H' : GH, ∃ v0r : Value, ∃ n0r : Nat, ∃ c0r : List Value, e = .returned (v0r) ∧ (St H0 w0 H' w' (.row 9 1 v0r n0r c0r :: L) ∧ Inc Ha H') ∧ Els (up w0.heap.size H') eS 1 c0r r
set_option maxHeartbeats 4000000 in
theorem w_slices_DeleteFunc_string_string {H0 Ha : GH} {w0 wa : World} {L : List MO} {v0 : Value} {n0 : Nat} {k0 : List Value} (S0 : St H0 w0 Ha wa (.row 9 1 v0 n0 k0 :: L)) (a0 : List ByteArray) (p0 : Els (up w0.heap.size Ha) eS 1 k0 a0) (v1 : Value) (a1 : ByteArray → Option Bool) (p1 : Fn_S_to_B Try.prog Ha v1 a1) {r : (List ByteArray)} (hp : (PF.slices_DeleteFunc_string_string a0 a1) = some r) :
  Calls Try.prog 63 #[v0, v1] wa (p_slices_DeleteFunc_string_string H0 w0 Ha L r) := by
 unfold PF.slices_DeleteFunc_string_string at hp
 refine calls_go (N := 42) (args := [v0, v1]) Try.func63 rfl rfl rfl ?_
 refine FW.seq (FW.region ?_)
 refine FL.v (E.assign (v := Value.slice none 0 0) rfl) ?_
 refine FL.nil (FW.seq (FW.region ?_))
 refine FL.v (E.move (v := v0) rfl) ?_
 refine FL.v (E.move (v := v1) rfl) ?_
 obtain ⟨H21, S22, i23, h24, nv25⟩ := S0.sealRowU (i := 0) (l' := L) rfl p0 (by decide) rfl
 obtain ⟨r26, hr27, hp⟩ := bnd hp
 refine FL.call rfl rfl rfl (E.call Try.call61 (A2 rfl rfl)) (w_slices_IndexFunc_string_string S22.sl v0 a0 (h24.mono upI) v1 a1 (p1.mono i23) hr27) ?_
 rintro e w28 ⟨rfl, r29⟩
 refine ⟨_, rfl, ?_⟩
 have r29 := Run.lend i23 S0.sl r29
 have S30 := S0.call r29
 refine FL.v (E.assign (v := Value.int .i64 r26) rfl) ?_
 refine FL.nil (FW.seq (FW.seq (FW.region ?_)))
 refine FL.v (E.move (v := Value.int .i64 r26) rfl) ?_
 refine FL.v (E.eql rfl rfl) ?_
 refine FL.nil ?_
 rcases ifB hp with ⟨c31, hp⟩ | ⟨c31, hp⟩
 ·
  refine FW.condT rfl c31 ?_
  refine FW.seq (FW.region ?_)
  refine FL.v (E.move (v := v0) rfl) ?_
  refine FL.v (E.assign (v := v0) rfl) ?_
  refine FL.nil ?_
  refine FW.ret ?_
  obtain rfl := Option.some.inj hp
  exact ⟨.inr rfl, res1 rfl rfl ⟨_, _, _, _, rfl, ⟨S30, (Inc.rfl _)⟩, p0⟩⟩
 ·
  refine FW.condF rfl c31 ?_
  refine FW.skip (FW.seq (FW.seq (FW.region ?_)))
  refine FL.v (E.move (v := Value.int .i64 r26) rfl) ?_
  refine FL.v (E.add rfl rfl) ?_
  refine FL.v (E.assign (v := Value.int .i64 (wr (r26 + 1))) rfl) ?_
  refine FL.nil ?_
  obtain ⟨q32, hq, hp⟩ := bndR hp
  refine FW.block ?_
  refine FW.mono (FW.iter (S := ((List ByteArray) × Int × Int)) (X := Empty) (fun (s32 : ((List ByteArray) × Int × Int)) f w => ∃ H : GH, ∃ cs78 : List Value, St H0 w0 H w (.row 9 1 v0 n0 cs78 :: L) ∧ Inc Ha H ∧ Els (up w0.heap.size H) eS 1 cs78 s32.1 ∧ f 0 = v0 ∧ f 1 = v1 ∧ f 5 = Value.int .i64 s32.2.1 ∧ f 6 = Value.int .i64 s32.2.2) (fun (q : Rs ((List ByteArray) × Int × Int) Empty) e f w => match q with | .go s32 => e = Exit.exit 0 ∧ (∃ H : GH, ∃ cs78 : List Value, St H0 w0 H w (.row 9 1 v0 n0 cs78 :: L) ∧ Inc Ha H ∧ Els (up w0.heap.size H) eS 1 cs78 s32.1 ∧ f 0 = v0 ∧ f 5 = Value.int .i64 s32.2.1) | .rt x => x.elim) hq ⟨_, _, S30, (Inc.rfl _), p0, rfl, rfl, rfl, rfl⟩ ?_) ?_
  ·
   clear hp hq
   rintro s32 f129 w128 ⟨H125, cs78, S126, i127, els79, k130, k131, k132, k133⟩ o170 hp
   refine FW.seq (FW.seq (FW.region ?_))
   refine FL.v (E.move k133) ?_
   refine FL.v (E.move k130) ?_
   refine FL.v (E.lenO te22 rfl S126 (i := 0) rfl els79 (by decide)) ?_
   refine FL.v (E.lss rfl rfl) ?_
   refine FL.nil ?_
   rcases ifB hp with ⟨c134, hp⟩ | ⟨c134, hp⟩
   ·
    refine FW.condT rfl c134 ?_
    refine FW.skip (FW.seq (FW.block (FW.seq (FW.region ?_))))
    refine FL.v (E.move k130) ?_
    refine FL.v (E.move k133) ?_
    obtain ⟨x141, hx142, hp⟩ := bnd hp
    obtain ⟨p135, cs136, pt137, l138, at139, rel140⟩ := S126.row_at (i := 0) rfl els79 (by decide) hx142
    obtain rfl := eS_open rel140
    refine FL.v (E.indexAddr te22 rfl rfl pt137) ?_
    refine FL.v (E.load rfl (run_load0 Try.isAgg9 at139 rfl)) ?_
    refine FL.v (E.assign (v := Value.string x141) rfl) ?_
    refine FL.nil (FW.seq (FW.region ?_))
    refine FL.v (E.move k131) ?_
    refine FL.v (E.move (v := Value.string x141) rfl) ?_
    obtain ⟨r143, hr144, hp⟩ := bnd hp
    obtain ⟨fi148, cs149, hv150, he151, hc152⟩ := (p1.mono i127) H125 w128 (Inc.rfl _) S126.sl x141 r143 hr144
    refine FL.call rfl rfl rfl (E.callV he151 (Eq.trans rfl hv150) (appA (A1 rfl) cs149)) hc152 ?_
    rintro e w145 ⟨rfl, r146⟩
    refine ⟨_, rfl, ?_⟩
    have S147 := S126.call r146
    refine FL.v (E.not rfl) ?_
    refine FL.nil ?_
    rcases ifB hp with ⟨c153, hp⟩ | ⟨c153, hp⟩
    ·
     refine FW.condT rfl c153 ?_
     refine FW.seq (FW.region ?_)
     refine FL.v (E.move k130) ?_
     refine FL.v (E.move k132) ?_
     refine FL.v (E.move (v := Value.string x141) rfl) ?_
     obtain ⟨x160, hx161, hp⟩ := bnd hp
     obtain ⟨p154, cs155, pt156, l157, at158, rel159⟩ := S147.row_at (i := 0) rfl els79 (by decide) hx161
     obtain rfl := eS_open rel159
     refine FL.v (E.indexAddr te22 rfl rfl pt156) ?_
     obtain ⟨xs165, hput166, hp⟩ := bnd hp
     obtain ⟨w162, cs168, run163, S164, els167, ce169⟩ := S147.putEls (P := Try.prog) (t := 9) (i := 0) rfl els79 hput166 pt156 Try.sizeOf9 (u := Value.string x141) (c := [Value.string x141]) rfl rfl (ones_cons rfl ones_nil) rfl
     have S164 : St H0 w0 H125 w162 (.row 9 1 v0 n0 cs168 :: L) := S164
     refine FL.act rfl rfl (E.store rfl rfl run163) ?_
     refine FL.nil (FW.region ?_)
     refine FL.v (E.move k132) ?_
     refine FL.v (E.add rfl rfl) ?_
     refine FL.v (E.assign (v := Value.int .i64 (wr (s32.2.1 + 1))) rfl) ?_
     refine FL.nil (FW.region ?_)
     refine FL.v (E.move k133) ?_
     refine FL.v (E.add rfl rfl) ?_
     refine FL.v (E.assign (v := Value.int .i64 (wr (s32.2.2 + 1))) rfl) ?_
     refine FL.nil ?_
     obtain rfl := Option.some.inj hp
     exact ⟨rfl, ⟨_, _, S164, i127, els167, k130, k131, rfl, rfl⟩⟩
    ·
     refine FW.condF rfl c153 ?_
     refine FW.skip (FW.region ?_)
     refine FL.v (E.move k133) ?_
     refine FL.v (E.add rfl rfl) ?_
     refine FL.v (E.assign (v := Value.int .i64 (wr (s32.2.2 + 1))) rfl) ?_
     refine FL.nil ?_
     obtain rfl := Option.some.inj hp
     exact ⟨rfl, ⟨_, _, S147, i127, els79, k130, k131, k132, rfl⟩⟩
   ·
    refine FW.condF rfl c134 ?_
    refine FW.exit ?_
    obtain rfl := Option.some.inj hp
    exact ⟨nofun, rfl, ⟨_, _, S126, i127, els79, k130, k132⟩⟩
  ·
   clear hq
   intro e f175 w174 hD
   rcases q32 with s32 | x32
   ·
    obtain ⟨rfl, hD⟩ := hD
    obtain ⟨H171, cs78, S172, i173, els79, k176, k177⟩ := hD
    replace hp := el_go hp
    refine FW.seq (FW.region ?_)
    refine FL.v (E.move k176) ?_
    refine FL.v (E.move k177) ?_
    obtain ⟨xs178, hc179, hp⟩ := bnd hp
    obtain ⟨v180, run181, h182⟩ := S172.tail te22 (kk := .i64) (i := 0) rfl els79 hc179
    refine FL.v (E.slice te22 rfl (congrArg some rfl) rfl rfl (run181 _)) ?_
    obtain ⟨w183, cs184, run185, S186, els187⟩ := S172.clearTail (P := Try.prog) te22 (i := 0) rfl els79 h182 rfl (ones_cons rfl ones_nil)
    have S186 : St H0 w0 H171 w183 (.row 9 1 v0 n0 cs184 :: L) := S186
    refine FL.val0 rfl rfl (E.clear rfl run185) ?_
    refine FL.nil (FW.seq (FW.region ?_))
    refine FL.v (E.move k176) ?_
    refine FL.v (E.move k177) ?_
    obtain ⟨xs188, hc189, hp⟩ := bnd hp
    obtain ⟨v190, n191, cs192, run193, S194, els195, nd196⟩ := S186.cutRow te22 (kk := .i64) (i := 0) rfl els187 hc189
    have S194 : St H0 w0 H171 w183 (.row 9 1 v190 n191 cs192 :: L) := S194
    refine FL.v (E.slice te22 rfl rfl (congrArg some rfl) rfl (run193 _)) ?_
    refine FL.v (E.assign (v := v190) rfl) ?_
    refine FL.nil ?_
    refine FW.ret ?_
    obtain rfl := Option.some.inj hp
    exact ⟨.inr rfl, res1 rfl rfl ⟨_, _, _, _, rfl, ⟨S194, i173⟩, els195⟩⟩
   ·
    exact x32.elim

theorem w_impl_lacking_1 {Ha : GH} {wa : World} (hs : Sl Ha wa) (a0 : ByteArray) (q0 : Addr) (b0 : ByteArray) (c0 : CAt Ha q0 [Value.string b0]) :
  Calls Try.prog 64 #[Value.string a0, Value.pointer (some q0)] wa (Sc Ha wa (Value.bool (PF.impl_lacking_1 a0 b0))) := by
 obtain ⟨r, hp⟩ : ∃ r, (PF.impl_lacking_1 a0 b0) = r := ⟨_, rfl⟩
 rw [hp]
 unfold PF.impl_lacking_1 at hp
 have S0 := St.init hs
 refine calls_go (N := 7) (args := [Value.string a0, Value.pointer (some q0)]) Try.func64 rfl rfl rfl ?_
 refine FW.seq (FW.region ?_)
 refine FL.v (E.assign (v := Value.bool false) rfl) ?_
 refine FL.nil (FW.seq (FW.region ?_))
 refine FL.v (E.load rfl (run_load0 Try.isAgg9 (c0.now S0.sl) rfl)) ?_
 refine FL.v (E.move (v := Value.string a0) rfl) ?_
 refine FL.v (E.eqlS rfl rfl) ?_
 refine FL.v (E.assign (v := Value.bool (b0.toList == a0.toList)) rfl) ?_
 refine FL.nil ?_
 refine FW.ret ?_
 obtain rfl := hp
 exact ⟨.inr rfl, res1 rfl rfl ⟨rfl, S0.back⟩⟩

@[reducible] def p_impl_lacking (Ha : GH) (wa : World) (r : (List ByteArray)) : Ending → World → Prop :=
 fun e w' => ∃ H' : GH, ∃ v0 : Value, ∃ n0 : Nat, ∃ c0 : List Value, e = .returned (v0) ∧ St Ha wa H' w' [.row 9 1 v0 n0 c0] ∧ Els (up wa.heap.size H') eS 1 c0 r
theorem w_impl_lacking {Ha : GH} {wa : World} (hs : Sl Ha wa) (v0 : Value) (a0 : List ByteArray) (p0 : RSl Ha eS 1 v0 a0) (a1 : ByteArray) {r : (List ByteArray)} (hp : (PF.impl_lacking a0 a1) = some r) :
  Calls Try.prog 54 #[v0, Value.string a1] wa (p_impl_lacking Ha wa r) := by
 unfold PF.impl_lacking at hp
 have S0 := St.init hs
 refine calls_go (N := 9) (args := [v0, Value.string a1]) Try.func54 rfl rfl rfl ?_
 refine FW.seq (FW.region ?_)
 obtain ⟨b21, w22, run23, S24⟩ := S0.box (P := Try.prog) 9 [Value.string a1] (v := Value.string a1) rfl (ones_cons rfl ones_nil)
 refine FL.v (E.box rfl run23) ?_
 obtain ⟨H25, S26, i27, at28⟩ := S24.sealBox (i := 0) (l' := []) rfl rfl
 refine FL.v (E.assign (v := Value.slice none 0 0) rfl) ?_
 refine FL.nil (FW.seq (FW.region ?_))
 refine FL.v (E.move (v := v0) rfl) ?_
 obtain ⟨r29, hr30, hp⟩ := bnd hp
 refine FL.call rfl rfl rfl (E.call Try.call48 (A1 rfl)) (w_slices_Clone_string_string S26.sl v0 a0 (p0.mono i27) hr30) ?_
 rintro e w32 ⟨H31, v35, n36, cs37, rfl, r34, els38⟩
 refine ⟨_, rfl, ?_⟩
 have els38 := els38.mono (up_le S26.size)
 have S33 := S26.join (l' := [.row 9 1 v35 n36 cs37]) r34 rfl
 refine FL.v (E.makeFunc A0 (A1 rfl)) ?_
 obtain ⟨r39, hr40, hp⟩ := bnd hp
 refine FL.call rfl rfl rfl (E.call Try.call63 (A2 rfl rfl)) (w_slices_DeleteFunc_string_string (L := []) S33 r29 els38 (Value.func (.func 64) #[] #[Value.pointer (some ⟨b21, 0, none⟩)]) (fun x0 => some (PF.impl_lacking_1 x0 a1)) (fun H2 w2 hi2 hs2 x0 r hr => ⟨64, #[Value.pointer (some ⟨b21, 0, none⟩)], rfl, Try.call64, by cases hr; exact w_impl_lacking_1 hs2 x0 ⟨b21, 0, none⟩ a1 ((at28.mono r34.run.inc).mono hi2)⟩) hr40) ?_
 rintro e w42 ⟨H41, v45, n46, cs47, rfl, ⟨S43, i44⟩, els48⟩
 refine ⟨_, rfl, ?_⟩
 have S43 : St Ha wa H41 w42 [.row 9 1 v45 n46 cs47] := S43
 refine FL.v (E.assign (v := v45) rfl) ?_
 refine FL.nil ?_
 refine FW.ret ?_
 obtain rfl := Option.some.inj hp
 exact ⟨.inr rfl, res1 rfl rfl ⟨_, _, _, _, rfl, S43, els48⟩⟩

@[reducible] def p_slices_Grow_string_string (Ha : GH) (wa : World) (r : List ByteArray) : Ending → World → Prop :=
 fun e w' => ∃ H' : GH, ∃ v0 : Value, ∃ n0 : Nat, ∃ c0 : List Value, e = .returned (v0) ∧ St Ha wa H' w' [.row 9 1 v0 n0 c0] ∧ Els (up wa.heap.size H') eS 1 c0 r
theorem w_slices_Grow_string_string {Ha : GH} {wa : World} (hs : Sl Ha wa) (a1 : Int) {r : List ByteArray} (hp : PF.slices_Grow_string_string a1 = some r) :
  Calls Try.prog 75 #[.slice none 0 0, .int .i64 a1] wa (p_slices_Grow_string_string Ha wa r) := by
 unfold PF.slices_Grow_string_string at hp
 split at hp
 ·
  rename_i h
  cases hp
  refine (growNil (En := eS) te22 hs h.1 h.2 (fun w => Any8.slices_Grow_room (P := Try.prog) Try.grow75 none 0 0 0 w (Nat.le_refl _) (by decide) (by decide) (by decide))
   (fun n w h0 hl => ?_)).mono ?_
  ·
   have h := Any8.slices_Grow_grow (P := Try.prog) Try.grow75 _ _ Try.type9 rfl (by decide) none 0 0 n [] w (Nat.le_refl _) (by omega) ?_ (by unfold lim at hl; omega) (by simp) (fun _ => rfl) (by simp)
   ·
    refine h.mono ?_
    rintro _ _ ⟨rfl, rfl⟩
    refine ⟨by simp; rfl, ?_⟩
    simp
    rfl
   ·
    rw [Nat.zero_add]; refine Nat.le_trans (Nat.mul_le_mul hl (show _ ≤ 4096 by decide)) (by decide)
  ·
   rintro e w' ⟨v, n, c, rfl, h1, h2⟩
   exact ⟨_, _, _, _, rfl, h1, h2 _⟩
 ·
  cases hp

@[reducible] def p_slices_Concat_string_string (Ha : GH) (wa : World) (r : (List ByteArray)) : Ending → World → Prop :=
 fun e w' => ∃ H' : GH, ∃ v0 : Value, ∃ n0 : Nat, ∃ c0 : List Value, e = .returned (v0) ∧ St Ha wa H' w' [.row 9 1 v0 n0 c0] ∧ Els (up wa.heap.size H') eS 1 c0 r
set_option maxHeartbeats 4000000 in
theorem w_slices_Concat_string_string {Ha : GH} {wa : World} (hs : Sl Ha wa) (v0 : Value) (a0 : List (List ByteArray)) (p0 : RSl Ha (eL eS 1) 1 v0 a0) {r : (List ByteArray)} (hp : (PF.slices_Concat_string_string a0) = some r) :
  Calls Try.prog 65 #[v0] wa (p_slices_Concat_string_string Ha wa r) := by
 unfold PF.slices_Concat_string_string at hp
 have S0 := St.init hs
 refine calls_go (N := 36) (args := [v0]) Try.func65 rfl rfl rfl ?_
 refine FW.seq (FW.region ?_)
 refine FL.v (E.assign (v := Value.slice none 0 0) rfl) ?_
 refine FL.nil (FW.seq (FW.region ?_))
 refine FL.v (E.assign (v := Value.int .i64 0) rfl) ?_
 refine FL.nil (FW.seq (FW.seq (FW.region ?_)))
 refine FL.v (E.move (v := v0) rfl) ?_
 refine FL.v (E.lenP te78 rfl p0) ?_
 refine FL.v (E.move (v := Value.int .i64 0) rfl) ?_
 refine FL.nil ?_
 obtain ⟨q22, hq, hp⟩ := bndR hp
 refine FW.block ?_
 refine FW.mono (FW.forL (S := Int) (X := Empty) (fun (i22 : Nat) (s22 : Int) f w => ∃ H : GH, St Ha wa H w [] ∧ Inc Ha H ∧ f 11 = Value.int .i64 ((i22 : Nat) : Int) ∧ f 0 = v0 ∧ f 3 = Value.int .i64 s22 ∧ f 9 = v0 ∧ f 10 = Value.int .i64 (len a0)) (fun (q : Rs Int Empty) e f w => match q with | .go s22 => e = Exit.exit 0 ∧ (∃ H : GH, St Ha wa H w [] ∧ Inc Ha H ∧ f 0 = v0 ∧ f 3 = Value.int .i64 s22) | .rt x => x.elim) hq ⟨_, S0, (Inc.rfl _), rfl, rfl, rfl, rfl, rfl⟩ ?_ ?_) ?_
 ·
  clear hp hq
  rintro i22 y21 s22 f46 w45 ⟨H42, S43, i44, k47, k48, k49, k50, k51⟩ hx22 o61 hp
  refine FW.seq (FW.region ?_)
  refine FL.v (E.lssT k47 k51 (lss_len hx22)) ?_
  refine FL.nil (FW.seq ?_)
  refine FW.condT rfl rfl ?_
  refine FW.skip (FW.seq (FW.block (FW.seq (FW.region ?_))))
  obtain ⟨p52, cs53, pt54, l55, at56, rel57⟩ := p0.at (ix_nat hx22)
  obtain ⟨v58, rfl, h59⟩ := eL_open rel57
  refine FL.v (E.indexAddr te78 k50 k47 pt54) ?_
  refine FL.v (E.load rfl (run_load0 Try.isAgg22 ((at56.mono i44).now S43.sl) rfl)) ?_
  refine FL.v (E.assign (v := v58) rfl) ?_
  refine FL.nil (FW.seq (FW.region ?_))
  refine FL.v (E.move k49) ?_
  refine FL.v (E.move (v := v58) rfl) ?_
  refine FL.v (E.lenP te22 rfl h59) ?_
  refine FL.v (E.add rfl rfl) ?_
  refine FL.v (E.assign (v := Value.int .i64 (wr (s22 + (len y21)))) rfl) ?_
  refine FL.nil (FW.seq (FW.region ?_))
  refine FL.v (E.move (v := Value.int .i64 (wr (s22 + (len y21)))) rfl) ?_
  refine FL.v (E.lss rfl rfl) ?_
  refine FL.nil ?_
  rcases ifB hp with ⟨c60, hp⟩ | ⟨c60, hp⟩
  ·
   refine FW.condT rfl c60 ?_
   cases hp
  ·
   refine FW.condF rfl c60 ?_
   refine FW.skip (FW.region ?_)
   refine FL.v (E.add k47 rfl) ?_
   refine FL.v (E.move (v := Value.int .i64 (wr (((i22 : Nat) : Int) + 1))) rfl) ?_
   refine FL.nil ?_
   obtain rfl := Option.some.inj hp
   exact ⟨rfl, ⟨_, S43, i44, (nat_succ rfl (lt_of_get hx22) (p0.mono i44).le), k48, rfl, k50, k51⟩⟩
 ·
  clear hp hq
  rintro s22 f159 w158 ⟨H155, S156, i157, k160, k161, k162, k163, k164⟩
  refine FW.seq (FW.region ?_)
  refine FL.v (E.lss k160 k164) ?_
  refine FL.nil (FW.seq ?_)
  refine FW.condF rfl dlt_len ?_
  refine FW.exit ?_
  exact ⟨nofun, rfl, ⟨_, S156, i157, k161, k162⟩⟩
 ·
  clear hq
  intro e f66 w65 hD
  rcases q22 with s22 | x22
  ·
   obtain ⟨rfl, hD⟩ := hD
   obtain ⟨H62, S63, i64, k67, k68⟩ := hD
   replace hp := el_go hp
   refine FW.seq (FW.region ?_)
   refine FL.v (E.move k68) ?_
   obtain ⟨r69, hr70, hp⟩ := bnd hp
   refine FL.call rfl rfl rfl (E.call Try.call75 (A2 rfl rfl)) (w_slices_Grow_string_string S63.sl s22 hr70) ?_
   rintro e w72 ⟨H71, v75, n76, cs77, rfl, r74, els78⟩
   refine ⟨_, rfl, ?_⟩
   have els78 := els78.mono (up_le S63.size)
   have S73 := S63.join (l' := [.row 9 1 v75 n76 cs77]) r74 rfl
   refine FL.v (E.assign (v := v75) rfl) ?_
   refine FL.nil (FW.seq (FW.seq (FW.region ?_)))
   refine FL.v (E.move k67) ?_
   refine FL.v (E.lenP te78 rfl p0) ?_
   refine FL.v (E.move (v := Value.int .i64 0) rfl) ?_
   refine FL.nil ?_
   obtain ⟨q80, hq, hp⟩ := bndR hp
   refine FW.block ?_
   refine FW.mono (FW.forL (S := (List ByteArray)) (X := Empty) (fun (i80 : Nat) (s80 : (List ByteArray)) f w => ∃ H : GH, ∃ v81 : Value, ∃ n82 : Nat, ∃ cs83 : List Value, St Ha wa H w [.row 9 1 v81 n82 cs83] ∧ Inc H71 H ∧ Els (up wa.heap.size H) eS 1 cs83 s80 ∧ f 27 = Value.int .i64 ((i80 : Nat) : Int) ∧ f 6 = v81 ∧ f 25 = v0 ∧ f 26 = Value.int .i64 (len a0)) (fun (q : Rs (List ByteArray) Empty) e f w => match q with | .go s80 => e = Exit.exit 2 ∧ (∃ H : GH, ∃ v81 : Value, ∃ n82 : Nat, ∃ cs83 : List Value, St Ha wa H w [.row 9 1 v81 n82 cs83] ∧ Inc H71 H ∧ Els (up wa.heap.size H) eS 1 cs83 s80 ∧ f 6 = v81) | .rt x => x.elim) hq ⟨_, _, _, _, S73, (Inc.rfl _), els78, rfl, rfl, rfl, rfl⟩ ?_ ?_) ?_
   ·
    clear hp hq
    rintro i80 y79 s80 f116 w115 ⟨H112, v81, n82, cs83, S113, i114, els84, k117, k118, k119, k120⟩ hx80 o139 hp
    refine FW.seq (FW.region ?_)
    refine FL.v (E.lssT k117 k120 (lss_len hx80)) ?_
    refine FL.nil (FW.seq ?_)
    refine FW.condT rfl rfl ?_
    refine FW.skip (FW.seq (FW.block (FW.seq (FW.region ?_))))
    obtain ⟨p121, cs122, pt123, l124, at125, rel126⟩ := p0.at (ix_nat hx80)
    obtain ⟨v127, rfl, h128⟩ := eL_open rel126
    refine FL.v (E.indexAddr te78 k119 k117 pt123) ?_
    refine FL.v (E.load rfl (run_load0 Try.isAgg22 ((at125.mono ((i64.tr r74.run.inc).tr i114)).now S113.sl) rfl)) ?_
    refine FL.v (E.assign (v := v127) rfl) ?_
    refine FL.nil (FW.region ?_)
    refine FL.v (E.move k118) ?_
    refine FL.v (E.move (v := v127) rfl) ?_
    obtain ⟨xs129, hz130, hp⟩ := bnd hp
    obtain ⟨v131, w134, n132, cs133, run135, S136, els137⟩ := S113.appendP (P := Try.prog) (Inc.rfl _) te22 (i := 0) rfl (els84.mono upI) (h128.mono ((i64.tr r74.run.inc).tr i114)) hz130
    have S136 : St Ha wa H112 w134 [.row 9 1 v131 n132 cs133] := S136
    have els137 : Els (up wa.heap.size H112) eS 1 cs133 xs129 := els137.any (fun _ _ _ _ h => h)
    refine FL.v (E.append rfl rfl run135) ?_
    refine FL.v (E.assign (v := v131) rfl) ?_
    refine FL.nil (FW.region ?_)
    refine FL.v (E.add k117 rfl) ?_
    refine FL.v (E.move (v := Value.int .i64 (wr (((i80 : Nat) : Int) + 1))) rfl) ?_
    refine FL.nil ?_
    obtain rfl := Option.some.inj hp
    exact ⟨rfl, ⟨_, _, _, _, S136, i114, els137, (nat_succ rfl (lt_of_get hx80) (p0.mono ((i64.tr r74.run.inc).tr i114)).le), rfl, k119, k120⟩⟩
   ·
    clear hp hq
    rintro s80 f150 w149 ⟨H146, v81, n82, cs83, S147, i148, els84, k151, k152, k153, k154⟩
    refine FW.seq (FW.region ?_)
    refine FL.v (E.lss k151 k154) ?_
    refine FL.nil (FW.seq ?_)
    refine FW.condF rfl dlt_len ?_
    refine FW.exit ?_
    exact ⟨nofun, rfl, ⟨_, _, _, _, S147, i148, els84, k152⟩⟩
   ·
    clear hq
    intro e f144 w143 hD
    rcases q80 with s80 | x80
    ·
     obtain ⟨rfl, hD⟩ := hD
     obtain ⟨H140, v81, n82, cs83, S141, i142, els84, k145⟩ := hD
     replace hp := el_go hp
     refine FW.seq (FW.region ?_)
     refine FL.v (E.move k145) ?_
     refine FL.v (E.assign (v := v81) rfl) ?_
     refine FL.nil ?_
     refine FW.ret ?_
     obtain rfl := Option.some.inj hp
     exact ⟨.inr rfl, res1 rfl rfl ⟨_, _, _, _, rfl, S141, els84⟩⟩
    ·
     exact x80.elim
  ·
   exact x22.elim

@[reducible] def p_slices_SortFunc_string_string (H0 : GH) (w0 : World) (Ha : GH) (L : List MO) (v0 : Value) (n0 : Nat) (r : (List ByteArray)) : Ending → World → Prop :=
 fun e w' => ∃ H' : GH, ∃ c0k : List Value, e = .returned (Value.tuple #[]) ∧ (St H0 w0 H' w' (.row 9 1 v0 n0 c0k :: L) ∧ Inc Ha H') ∧ Els (up w0.heap.size H') eS 1 c0k r
theorem w_slices_SortFunc_string_string {H0 Ha : GH} {w0 wa : World} {L : List MO} {v0 : Value} {n0 : Nat} {k0 : List Value} (S0 : St H0 w0 Ha wa (.row 9 1 v0 n0 k0 :: L)) (a0 : List ByteArray) (p0 : Els (up w0.heap.size Ha) eS 1 k0 a0) (v1 : Value) (a1 : ByteArray → ByteArray → Option Int) (p1 : Fn_S_S_to_I Try.prog Ha v1 a1) {r : (List ByteArray)} (hp : (PF.slices_SortFunc_string_string a0 a1) = some r) :
  Calls Try.prog 66 #[v0, v1] wa (p_slices_SortFunc_string_string H0 w0 Ha L v0 n0 r) := by
 refine (St.sortF (l := .row 9 1 v0 n0 k0 :: L) (i := 0) upI S0 rfl p0 (fun H2 w2 hi hs2 c x hc d y hd r hr => by cases eS_open hc; cases eS_open hd; exact p1 H2 w2 hi hs2 x y r hr) (fun p cap fv w => AnyF.slices_SortFunc_none (P := Try.prog) (ρ := Try.sort66_ren) { Try.sort66 with } p cap fv w) (fun α _ enc h1 cf hO g cb blk off cap d w eg hc hH hb hs => Any.slices_SortFunc Try.sort66 enc h1 cf hO g cb blk off cap d w eg hc hH hb hs) hp).mono ?_
 rintro e w' ⟨rfl, c', h1, h2, hq⟩
 exact ⟨_, _, rfl, ⟨h1, Inc.rfl _⟩, h2⟩

@[reducible] def p_slices_Compact_string_string (H0 : GH) (w0 : World) (Ha : GH) (L : List MO) (r : (List ByteArray)) : Ending → World → Prop :=
 fun e w' => ∃ H' : GH, ∃ v0r : Value, ∃ n0r : Nat, ∃ c0r : List Value, e = .returned (v0r) ∧ (St H0 w0 H' w' (.row 9 1 v0r n0r c0r :: L) ∧ Inc Ha H') ∧ Els (up w0.heap.size H') eS 1 c0r r
theorem w_slices_Compact_string_string {H0 Ha : GH} {w0 wa : World} {L : List MO} {v0 : Value} {n0 : Nat} {k0 : List Value} (S0 : St H0 w0 Ha wa (.row 9 1 v0 n0 k0 :: L)) (a0 : List ByteArray) (p0 : Els (up w0.heap.size Ha) eS 1 k0 a0) {r : (List ByteArray)} (hp : (PF.slices_Compact_string_string a0) = some r) :
  Calls Try.prog 67 #[v0] wa (p_slices_Compact_string_string H0 w0 Ha L r) := by
 cases hp
 refine (St.compactF (l := .row 9 1 v0 n0 k0 :: L) (i := 0) S0 rfl p0 (enc := Value.string) (fun _ => rfl) (fun _ _ _ h => by cases eS_open h; rfl) (fun _ _ => rfl) ByteArray.empty (fun w => compact_none Try.comp67 w) (fun blk off cap d w hH hs hc => AnyE.slices_Compact Try.comp67 Value.string (fun _ => rfl) (EqlAt.stringD _ _) (NeqAt.stringD _ _) ByteArray.empty (fun w => Try.zeroValue9 w) blk off cap d w hH hs hc)).mono ?_
 rintro e w' ⟨v', n', c', rfl, h1, h2⟩
 exact ⟨_, _, _, _, rfl, ⟨h1, Inc.rfl _⟩, h2⟩

@[reducible] def p_impl_with (Ha : GH) (wa : World) (r : (List ByteArray)) : Ending → World → Prop :=
 fun e w' => ∃ H' : GH, ∃ v0 : Value, ∃ n0 : Nat, ∃ c0 : List Value, e = .returned (v0) ∧ St Ha wa H' w' [.row 9 1 v0 n0 c0] ∧ Els (up wa.heap.size H') eS 1 c0 r
theorem w_impl_with {Ha : GH} {wa : World} (hs : Sl Ha wa) (v0 : Value) (a0 : List ByteArray) (p0 : RSl Ha eS 1 v0 a0) (v1 : Value) (a1 : List ByteArray) (p1 : RSl Ha eS 1 v1 a1) {r : (List ByteArray)} (hp : (PF.impl_with a0 a1) = some r) :
  Calls Try.prog 55 #[v0, v1] wa (p_impl_with Ha wa r) := by
 unfold PF.impl_with at hp
 have S0 := St.init hs
 refine calls_go (N := 14) (args := [v0, v1]) Try.func55 rfl rfl rfl ?_
 refine FW.seq (FW.region ?_)
 refine FL.v (E.assign (v := Value.slice none 0 0) rfl) ?_
 refine FL.nil (FW.seq (FW.region ?_))
 refine FL.v (E.move (v := v0) rfl) ?_
 refine FL.v (E.move (v := v1) rfl) ?_
 obtain ⟨v21, w22, run23, S24⟩ := S0.buildSlice (P := Try.prog) te78 [v0, v1] (parts := #[(0, v0), (1, v1)]) (cells := [v0, v1]) rfl (szs_cons (cells_size p0.cells) (szs_cons (cells_size p1.cells) szs_nil)) (fc_cons p0.cells (fc_cons p1.cells fc_nil)) (ones_cons p0.one (ones_cons p1.one ones_nil)) (Nat.le_of_ble_eq_true rfl)
 have els25 : Els Ha (eL eS 1) 1 [v0, v1] [a0, a1] := (Els.snoc (H := Ha) (E := (eL eS 1)) (k := 1) (c := [v1]) (x := a1) (Els.snoc (H := Ha) (E := (eL eS 1)) (k := 1) (c := [v0]) (x := a0) Els.nil rfl ⟨_, rfl, p0⟩) rfl ⟨_, rfl, p1⟩)
 refine FL.v (E.buildSlice (B2 rfl rfl) run23) ?_
 obtain ⟨H26, S27, i28, h29⟩ := S24.sealRow (i := 0) (l' := []) rfl els25 (by decide) rfl
 obtain ⟨r31, hr32, hp⟩ := bnd hp
 refine FL.call rfl rfl rfl (E.call Try.call65 (A1 rfl)) (w_slices_Concat_string_string S27.sl v21 [a0, a1] h29 hr32) ?_
 rintro e w34 ⟨H33, v39, n40, cs41, rfl, r36, els42⟩
 refine ⟨_, rfl, ?_⟩
 obtain ⟨H37, r36, hU38⟩ := St.lendX i28 S24.sl r36
 have els42 := els42.mono (hU38.tr (up_le S24.size))
 have S35 := S24.join (l' := [.row 9 1 v39 n40 cs41, .row 22 1 v21 2 [v0, v1]]) r36 rfl
 refine FL.v (E.assign (v := v39) rfl) ?_
 refine FL.nil (FW.seq (FW.region ?_))
 refine FL.v (E.move (v := v39) rfl) ?_
 obtain ⟨r43, hr44, hp⟩ := bnd hp
 refine FL.call rfl rfl rfl (E.call Try.call66 (A2 rfl rfl)) (w_slices_SortFunc_string_string (L := [.row 22 1 v21 2 [v0, v1]]) S35 r31 els42 (Value.func (.func 59) #[] #[]) (fun x0 x1 => PF.impl_compareFormulas x0 x1) (fun H2 w2 hi2 hs2 x0 x1 r hr => ⟨59, #[], rfl, Try.call59, w_impl_compareFormulas hs2 x0 x1  hr⟩) hr44) ?_
 rintro e w46 ⟨H45, cs49, rfl, ⟨S47, i48⟩, els50⟩
 refine ⟨_, rfl, ?_⟩
 have S47 : St Ha wa H45 w46 [.row 9 1 v39 n40 cs49, .row 22 1 v21 2 [v0, v1]] := S47
 refine FL.nil (FW.seq (FW.region ?_))
 refine FL.v (E.move (v := v39) rfl) ?_
 obtain ⟨r51, hr52, hp⟩ := bnd hp
 refine FL.call rfl rfl rfl (E.call Try.call67 (A1 rfl)) (w_slices_Compact_string_string (L := [.row 22 1 v21 2 [v0, v1]]) S47 r43 els50 hr52) ?_
 rintro e w54 ⟨H53, v57, n58, cs59, rfl, ⟨S55, i56⟩, els60⟩
 refine ⟨_, rfl, ?_⟩
 have S55 : St Ha wa H53 w54 [.row 9 1 v57 n58 cs59, .row 22 1 v21 2 [v0, v1]] := S55
 refine FL.v (E.assign (v := v57) rfl) ?_
 refine FL.nil ?_
 refine FW.ret ?_
 obtain rfl := Option.some.inj hp
 exact ⟨.inr rfl, res1 rfl rfl ⟨_, _, _, _, rfl, (S55.sel [0] (by decide) rfl), els60⟩⟩

@[reducible] def p_impl_premisesOf (Ha : GH) (wa : World) (r : (List Sequent)) : Ending → World → Prop :=
 fun e w' => ∃ H' : GH, ∃ v0 : Value, ∃ n0 : Nat, ∃ c0 : List Value, e = .returned (v0) ∧ St Ha wa H' w' [.row 28 2 v0 n0 c0] ∧ Els H' eSequent 2 c0 r
set_option maxHeartbeats 4000000 in
theorem w_impl_premisesOf {Ha : GH} {wa : World} (hs : Sl Ha wa) (a0 : Sequent) (v0_0 : Value) (p0_0 : RSl Ha eS 1 v0_0 a0.left) (v0_1 : Value) (p0_1 : RSl Ha eS 1 v0_1 a0.right) (a1 : Int) (v2 : Value) (a2 : Fo) (p2 : FAt Ha v2 a2) {r : (List Sequent)} (hp : (PF.impl_premisesOf a0 a1 a2) = some r) :
  Calls Try.prog 39 #[Value.agg #[v0_0, v0_1], Value.int .i64 a1, v2] wa (p_impl_premisesOf Ha wa r) := by
 unfold PF.impl_premisesOf at hp
 have S0 := St.init hs
 refine calls_go (N := 180) (args := [Value.agg #[v0_0, v0_1], Value.int .i64 a1, v2]) Try.func39 rfl rfl rfl ?_
 refine FW.seq (FW.region ?_)
 obtain ⟨b21, w22, run23, S24⟩ := S0.box (P := Try.prog) 28 [v0_0, v0_1] (v := Value.agg #[v0_0, v0_1]) rfl (ones_cons p0_0.one (ones_cons p0_1.one ones_nil))
 refine FL.v (E.box rfl run23) ?_
 obtain ⟨H25, S26, i27, at28⟩ := S24.sealBox (i := 0) (l' := []) rfl rfl
 refine FL.v (E.assign (v := Value.slice none 0 0) rfl) ?_
 refine FL.nil (FW.seq ?_)
 obtain ⟨y32, hy33, hp⟩ := bnd hp
 obtain ⟨r40, hr41, hp⟩ := bnd hp
 obtain ⟨r50, hr51, hp⟩ := bnd hp
 refine FW.drawB (Sl H25) (fun f w => ∃ H : GH, ∃ v60 : Value, ∃ v63 : Value, ∃ n64 : Nat, ∃ cs65 : List Value, ∃ v67 : Value, ∃ n69 : Nat, ∃ cs70 : List Value, St Ha wa H w [.row 9 1 v63 n64 cs65, .row 9 1 v67 n69 cs70] ∧ Inc H25 H ∧ FAt H v60 a2 ∧ Els (up wa.heap.size H) eS 1 cs65 r40 ∧ Els (up wa.heap.size H) eS 1 cs70 r50 ∧ f 1 = Value.int .i64 a1 ∧ f 2 = v60 ∧ f 3 = Value.pointer (some ⟨b21, 0, none⟩) ∧ f 7 = v63 ∧ f 8 = v67) (by kernel_rfl) S26.sl ?_ ?_
 ·
  intro w29 r30
  have S31 := S26.call r30
  refine FB.t (i := 0) (bs 16 1) rfl (SP.nil S31.sl) rfl (fun w' hw' => (E.fieldAddr tf28_0 rfl)) ?_
  refine FB.t (i := 1) (bs 16 3) rfl (SP.nil S31.sl) rfl (fun w' hw' => (E.load rfl (run_load1 Try.isAgg22 (at28.now hw') rfl))) ?_
  refine FB.t (i := 2) (bs 16 7) rfl (SP.nil S31.sl) rfl (fun w' hw' => (E.move (v := v2) rfl)) ?_
  obtain ⟨q34, v36, v37, rfl, at35, h38, h39⟩ := FAt.open p2 hy33
  refine FB.t (i := 3) (bs 16 15) rfl (SP.nil S31.sl) rfl (fun w' hw' => (E.nilCheck rfl)) ?_
  refine FB.t (i := 4) (bs 16 31) rfl (SP.nil S31.sl) rfl (fun w' hw' => (E.fieldAddr tf68_3 rfl)) ?_
  refine FB.t (i := 5) (bs 16 63) rfl (SP.nil S31.sl) rfl (fun w' hw' => (E.load rfl (run_load1 Try.isAgg9 ((at35.mono i27).now hw') rfl))) ?_
  refine FB.t (i := 7) (bs 16 191) rfl (SP.nil S31.sl) rfl (fun w' hw' => (E.fieldAddr tf28_1 rfl)) ?_
  refine FB.t (i := 8) (bs 16 447) rfl (SP.nil S31.sl) rfl (fun w' hw' => (E.load rfl (run_load1 Try.isAgg22 (at28.now hw') rfl))) ?_
  refine FB.t (i := 9) (bs 16 959) rfl (SP.nil S31.sl) rfl (fun w' hw' => (E.move (v := Value.pointer (some q34)) rfl)) ?_
  refine FB.t (i := 10) (bs 16 1983) rfl (SP.nil S31.sl) rfl (fun w' hw' => (E.nilCheck rfl)) ?_
  refine FB.t (i := 11) (bs 16 4031) rfl (SP.nil S31.sl) rfl (fun w' hw' => (E.fieldAddr tf68_3 rfl)) ?_
  refine FB.t (i := 12) (bs 16 8127) rfl (SP.nil S31.sl) rfl (fun w' hw' => (E.load rfl (run_load1 Try.isAgg9 ((at35.mono i27).now hw') rfl))) ?_
  refine FB.all1 (i := 6) (by kernel_rfl) ?_
  ·
   refine FC.call (l' := (bs 16 8191)) rfl (by kernel_rfl) rfl rfl rfl (E.call Try.call54 (A2 rfl rfl)) (w_impl_lacking S31.sl v0_0 a0.left (p0_0.mono i27) y32.text hr41) ?_
   rintro e w43 ⟨H42, v46, n47, cs48, rfl, r45, els49⟩
   refine ⟨_, rfl, ?_⟩
   have els49 := els49.mono (up_le S31.size)
   have S44 := S31.join (l' := [.row 9 1 v46 n47 cs48]) r45 rfl
   refine ⟨(SP.nil (Sl.of_inc r45.run.inc S44.sl)), ?_⟩
   refine FB.all1 (i := 13) (by kernel_rfl) ?_
   ·
    refine FC.call (l' := (bs 16 16383)) rfl (by kernel_rfl) rfl rfl rfl (E.call Try.call54 (A2 rfl rfl)) (w_impl_lacking S44.sl v0_1 a0.right (p0_1.mono (i27.tr r45.run.inc)) y32.text hr51) ?_
    rintro e w53 ⟨H52, v56, n57, cs58, rfl, r55, els59⟩
    refine ⟨_, rfl, ?_⟩
    have els59 := els59.mono (up_le S44.size)
    have S54 := S44.join (l' := [.row 9 1 v56 n57 cs58, .row 9 1 v46 n47 cs48]) r55 rfl
    refine ⟨(SP.nil (Sl.of_inc (r45.run.inc.tr r55.run.inc) S54.sl)), ?_⟩
    refine FB.t (i := 14) (bs 16 32767) rfl (SP.nil (Sl.of_inc (r45.run.inc.tr r55.run.inc) S54.sl)) rfl (fun w' hw' => (E.assign (v := v46) rfl)) ?_
    refine FB.t (i := 15) (bs 16 65535) rfl (SP.nil (Sl.of_inc (r45.run.inc.tr r55.run.inc) S54.sl)) rfl (fun w' hw' => (E.assign (v := v56) rfl)) ?_
    exact FB.done (by kernel_rfl) ⟨_, _, _, _, _, _, _, _, (S54.sel [1, 0] (by decide) rfl), (r45.run.inc.tr r55.run.inc), (p2.mono ((i27.tr r45.run.inc).tr r55.run.inc)), (els49.mono (up_mono r55.run.inc)), els59, rfl, rfl, rfl, rfl, rfl⟩
 ·
  rintro f76 w75 ⟨H72, v60, v63, n64, cs65, v67, n69, cs70, S73, i74, h62, els66, els71, k77, k78, k79, k80, k81⟩
  refine FW.seq ?_
  refine FW.draw (fun w' => Run w75.heap.size H72 w75 H72 w') (by kernel_rfl) (by kernel_rfl) (run_drew S73.sl) ?_
  refine FD.val rfl rfl rfl (fun w' hw' => (E.move k78)) ?_
  obtain ⟨y82, hy83, hp⟩ := bnd hp
  obtain ⟨q84, v86, v87, rfl, at85, h88, h89⟩ := FAt.open h62 hy83
  refine FD.val rfl rfl rfl (fun w' hw' => (E.nilCheck rfl)) ?_
  refine FD.val rfl rfl rfl (fun w' hw' => (E.fieldAddr tf68_1 rfl)) ?_
  refine FD.val rfl rfl rfl (fun w' hw' => (E.load rfl (run_load1 Try.isAgg64 (at85.now (S73.call hw').sl) rfl))) ?_
  refine FD.val rfl rfl rfl (fun w' hw' => (E.move k78)) ?_
  refine FD.val rfl rfl rfl (fun w' hw' => (E.nilCheck rfl)) ?_
  refine FD.val rfl rfl rfl (fun w' hw' => (E.fieldAddr tf68_2 rfl)) ?_
  refine FD.val rfl rfl rfl (fun w' hw' => (E.load rfl (run_load1 Try.isAgg64 (at85.now (S73.call hw').sl) rfl))) ?_
  refine FD.val rfl rfl rfl (fun w' hw' => (E.assign (v := v86) rfl)) ?_
  refine FD.val rfl rfl rfl (fun w' hw' => (E.assign (v := v87) rfl)) ?_
  refine FD.nil ?_
  intro w90 r92
  have S91 := S73.call r92
  refine FW.seq (FW.seq (FW.region ?_))
  refine FL.v (E.move k77) ?_
  refine FL.nil (FW.block (FW.seq (FW.region ?_)))
  refine FL.v (E.eql rfl rfl) ?_
  refine FL.v (E.assign (v := Value.bool (a1 == 2)) rfl) ?_
  refine FL.nil ?_
  rcases ifB hp with ⟨c93, hp⟩ | ⟨c93, hp⟩
  ·
   refine FW.condT rfl c93 ?_
   refine FW.seq ?_
   obtain ⟨y97, hy98, hp⟩ := bnd hp
   obtain ⟨r115, hr116, hp⟩ := bnd hp
   refine FW.drawB (Sl H72) (fun f w => ∃ H : GH, ∃ v144 : Value, ∃ n145 : Nat, ∃ cs146 : List Value, St Ha wa H w [.row 28 2 v144 n145 cs146] ∧ Inc H72 H ∧ Els (up wa.heap.size H) eSequent 2 cs146 [(Sequent.mk r40 r115)] ∧ (bl cs146).Nodup ∧ f 6 = v144) (by kernel_rfl) S91.sl ?_ ?_
   ·
    intro w94 r95
    have S96 := S91.call r95
    refine FB.t (i := 0) (bs 12 1) rfl (SP.nil S96.sl) rfl (fun w' hw' => (E.move k80)) ?_
    refine FB.t (i := 1) (bs 12 3) rfl (SP.nil S96.sl) rfl (fun w' hw' => (E.fieldAddr tf28_1 k79)) ?_
    refine FB.t (i := 2) (bs 12 7) rfl (SP.nil S96.sl) rfl (fun w' hw' => (E.load rfl (run_load1 Try.isAgg22 ((at28.mono i74).now hw') rfl))) ?_
    refine FB.t (i := 3) (bs 12 15) rfl (SP.nil S96.sl) rfl (fun w' hw' => (E.move (v := v86) rfl)) ?_
    obtain ⟨q99, v101, v102, rfl, at100, h103, h104⟩ := FAt.open h88 hy98
    refine FB.t (i := 4) (bs 12 31) rfl (SP.nil S96.sl) rfl (fun w' hw' => (E.nilCheck rfl)) ?_
    refine FB.t (i := 5) (bs 12 63) rfl (SP.nil S96.sl) rfl (fun w' hw' => (E.fieldAddr tf68_3 rfl)) ?_
    refine FB.t (i := 6) (bs 12 127) rfl (SP.nil S96.sl) rfl (fun w' hw' => (E.load rfl (run_load1 Try.isAgg9 (at100.now hw') rfl))) ?_
    refine FB.all1 (i := 7) (by kernel_rfl) ?_
    ·
     obtain ⟨v105, w106, run107, S108⟩ := S96.buildSlice (P := Try.prog) te22 [Value.string y97.text] (parts := #[(0, Value.string y97.text)]) (cells := [Value.string y97.text]) rfl (szs_cons rfl szs_nil) (fc_cons rfl fc_nil) (ones_cons rfl ones_nil) (Nat.le_of_ble_eq_true rfl)
     have els109 : Els (up wa.heap.size H72) eS 1 [Value.string y97.text] [y97.text] := (Els.snoc (H := (up wa.heap.size H72)) (E := eS) (k := 1) (c := [Value.string y97.text]) (x := y97.text) Els.nil rfl rfl)
     refine FC.val (l' := (bs 12 255)) rfl (by kernel_rfl) rfl rfl rfl (E.buildSlice (B1 rfl) run107) ?_
     refine ⟨(SP.nil S108.sl), ?_⟩
     refine FB.all1 (i := 8) (by kernel_rfl) ?_
     ·
      obtain ⟨H110, S111, i112, h113, nv114⟩ := S108.sealRowU (i := 0) (l' := [.row 9 1 v63 n64 cs65, .row 9 1 v67 n69 cs70]) rfl els109 (by decide) rfl
      refine FC.call (l' := (bs 12 511)) rfl (by kernel_rfl) rfl rfl rfl (E.call Try.call55 (A2 rfl rfl)) (w_impl_with S111.sl v0_1 a0.right (p0_1.mono ((i27.tr i74).tr i112)) v105 [y97.text] (h113.mono upI) hr116) ?_
      rintro e w118 ⟨H117, v123, n124, cs125, rfl, r120, els126⟩
      refine ⟨_, rfl, ?_⟩
      obtain ⟨H121, r120, hU122⟩ := St.lendX i112 S108.sl r120
      have els126 := els126.mono (hU122.tr (up_le S108.size))
      have S119 := S108.join (l' := [.row 9 1 v123 n124 cs125, .row 9 1 v105 1 [Value.string y97.text], .row 9 1 v63 n64 cs65, .row 9 1 v67 n69 cs70]) r120 rfl
      refine ⟨(SP.nil (Sl.of_inc r120.run.inc S119.sl)), ?_⟩
      obtain ⟨H127, S128, i129, h130, nv131⟩ := S119.sealRowU (i := 2) (l' := [.row 9 1 v123 n124 cs125, .row 9 1 v105 1 [Value.string y97.text], .row 9 1 v67 n69 cs70]) rfl (els66.mono (up_mono r120.run.inc)) (by decide) rfl
      obtain ⟨H132, S133, i134, h135, nv136⟩ := S128.sealRowU (i := 0) (l' := [.row 9 1 v105 1 [Value.string y97.text], .row 9 1 v67 n69 cs70]) rfl (els126.mono (up_mono i129)) (by decide) rfl
      refine FB.t (i := 9) (bs 12 1023) rfl (SP.nil (Sl.of_inc r120.run.inc S119.sl)) rfl (fun w' hw' => (E.build (B2 rfl rfl) (run_build _ 28 #[(0, v63), (1, v123)] #[v63, v123] (by obtain ⟨_, _, rfl⟩ := RSl.ln (h130.mono (upI.tr i134)); obtain ⟨_, _, rfl⟩ := RSl.ln (h135.mono upI); rfl)))) ?_
      refine FB.all1 (i := 10) (by kernel_rfl) ?_
      ·
       obtain ⟨v137, w138, run139, S140⟩ := S133.buildSlice (P := Try.prog) te61 [Value.agg #[v63, v123]] (parts := #[(0, Value.agg #[v63, v123])]) (cells := [v63, v123]) rfl (szs_cons rfl szs_nil) (fc_cons rfl fc_nil) (ones_cons h130.one (ones_cons h135.one ones_nil)) (Nat.le_of_ble_eq_true rfl)
       have els141 : Els (up wa.heap.size H132) eSequent 2 [v63, v123] [(Sequent.mk r40 r115)] := (Els.snoc (H := (up wa.heap.size H132)) (E := eSequent) (k := 2) (c := [v63, v123]) (x := (Sequent.mk r40 r115)) Els.nil rfl ⟨_, _, rfl, (h130.mono (up_mono i134)), h135⟩)
       have nd142 : (bl [v63, v123]).Nodup := by exact nd_two (New.apart (h130.mono (up_mono (Inc.rfl _))) nv136)
       have nv143 : New H121 [v63, v123] := by exact (New.two nv131 (nv136.anti i129))
       refine FC.val (l' := (bs 12 2047)) rfl (by kernel_rfl) rfl rfl rfl (E.buildSlice (B1 rfl) run139) ?_
       refine ⟨(SP.nil (Sl.of_inc ((r120.run.inc.tr i129).tr i134) S140.sl)), ?_⟩
       refine FB.t (i := 11) (bs 12 4095) rfl (SP.nil (Sl.of_inc ((r120.run.inc.tr i129).tr i134) S140.sl)) rfl (fun w' hw' => (E.assign (v := v137) rfl)) ?_
       exact FB.done (by kernel_rfl) ⟨_, _, _, _, (S140.sel [0] (by decide) rfl), ((r120.run.inc.tr i129).tr i134), els141, nd142, rfl⟩
   ·
    rintro f153 w152 ⟨H149, v144, n145, cs146, S150, i151, els147, nd148, k154⟩
    refine FW.ret ?_
    obtain rfl := Option.some.inj hp
    exact ⟨.inr rfl, res1 rfl k154 ⟨_, _, _, _, rfl, S150, (els147.mono upI)⟩⟩
  ·
   refine FW.condF rfl c93 ?_
   refine FW.seq (FW.region ?_)
   refine FL.v (E.eql rfl rfl) ?_
   refine FL.v (E.assign (v := Value.bool (a1 == 3)) rfl) ?_
   refine FL.nil ?_
   rcases ifB hp with ⟨c155, hp⟩ | ⟨c155, hp⟩
   ·
    refine FW.condT rfl c155 ?_
    refine FW.seq ?_
    obtain ⟨y159, hy160, hp⟩ := bnd hp
    obtain ⟨r177, hr178, hp⟩ := bnd hp
    refine FW.drawB (Sl H72) (fun f w => ∃ H : GH, ∃ v206 : Value, ∃ n207 : Nat, ∃ cs208 : List Value, St Ha wa H w [.row 28 2 v206 n207 cs208] ∧ Inc H72 H ∧ Els (up wa.heap.size H) eSequent 2 cs208 [(Sequent.mk r177 r50)] ∧ (bl cs208).Nodup ∧ f 6 = v206) (by kernel_rfl) S91.sl ?_ ?_
    ·
     intro w156 r157
     have S158 := S91.call r157
     refine FB.t (i := 0) (bs 12 1) rfl (SP.nil S158.sl) rfl (fun w' hw' => (E.fieldAddr tf28_0 k79)) ?_
     refine FB.t (i := 1) (bs 12 3) rfl (SP.nil S158.sl) rfl (fun w' hw' => (E.load rfl (run_load1 Try.isAgg22 ((at28.mono i74).now hw') rfl))) ?_
     refine FB.t (i := 2) (bs 12 7) rfl (SP.nil S158.sl) rfl (fun w' hw' => (E.move (v := v86) rfl)) ?_
     obtain ⟨q161, v163, v164, rfl, at162, h165, h166⟩ := FAt.open h88 hy160
     refine FB.t (i := 3) (bs 12 15) rfl (SP.nil S158.sl) rfl (fun w' hw' => (E.nilCheck rfl)) ?_
     refine FB.t (i := 4) (bs 12 31) rfl (SP.nil S158.sl) rfl (fun w' hw' => (E.fieldAddr tf68_3 rfl)) ?_
     refine FB.t (i := 5) (bs 12 63) rfl (SP.nil S158.sl) rfl (fun w' hw' => (E.load rfl (run_load1 Try.isAgg9 (at162.now hw') rfl))) ?_
     refine FB.t (i := 8) (bs 12 319) rfl (SP.nil S158.sl) rfl (fun w' hw' => (E.move k81)) ?_
     refine FB.all1 (i := 6) (by kernel_rfl) ?_
     ·
      obtain ⟨v167, w168, run169, S170⟩ := S158.buildSlice (P := Try.prog) te22 [Value.string y159.text] (parts := #[(0, Value.string y159.text)]) (cells := [Value.string y159.text]) rfl (szs_cons rfl szs_nil) (fc_cons rfl fc_nil) (ones_cons rfl ones_nil) (Nat.le_of_ble_eq_true rfl)
      have els171 : Els (up wa.heap.size H72) eS 1 [Value.string y159.text] [y159.text] := (Els.snoc (H := (up wa.heap.size H72)) (E := eS) (k := 1) (c := [Value.string y159.text]) (x := y159.text) Els.nil rfl rfl)
      refine FC.val (l' := (bs 12 383)) rfl (by kernel_rfl) rfl rfl rfl (E.buildSlice (B1 rfl) run169) ?_
      refine ⟨(SP.nil S170.sl), ?_⟩
      refine FB.all1 (i := 7) (by kernel_rfl) ?_
      ·
       obtain ⟨H172, S173, i174, h175, nv176⟩ := S170.sealRowU (i := 0) (l' := [.row 9 1 v63 n64 cs65, .row 9 1 v67 n69 cs70]) rfl els171 (by decide) rfl
       refine FC.call (l' := (bs 12 511)) rfl (by kernel_rfl) rfl rfl rfl (E.call Try.call55 (A2 rfl rfl)) (w_impl_with S173.sl v0_0 a0.left (p0_0.mono ((i27.tr i74).tr i174)) v167 [y159.text] (h175.mono upI) hr178) ?_
       rintro e w180 ⟨H179, v185, n186, cs187, rfl, r182, els188⟩
       refine ⟨_, rfl, ?_⟩
       obtain ⟨H183, r182, hU184⟩ := St.lendX i174 S170.sl r182
       have els188 := els188.mono (hU184.tr (up_le S170.size))
       have S181 := S170.join (l' := [.row 9 1 v185 n186 cs187, .row 9 1 v167 1 [Value.string y159.text], .row 9 1 v63 n64 cs65, .row 9 1 v67 n69 cs70]) r182 rfl
       refine ⟨(SP.nil (Sl.of_inc r182.run.inc S181.sl)), ?_⟩
       obtain ⟨H189, S190, i191, h192, nv193⟩ := S181.sealRowU (i := 0) (l' := [.row 9 1 v167 1 [Value.string y159.text], .row 9 1 v63 n64 cs65, .row 9 1 v67 n69 cs70]) rfl els188 (by decide) rfl
       obtain ⟨H194, S195, i196, h197, nv198⟩ := S190.sealRowU (i := 2) (l' := [.row 9 1 v167 1 [Value.string y159.text], .row 9 1 v63 n64 cs65]) rfl (els71.mono (up_mono (r182.run.inc.tr i191))) (by decide) rfl
       refine FB.t (i := 9) (bs 12 1023) rfl (SP.nil (Sl.of_inc r182.run.inc S181.sl)) rfl (fun w' hw' => (E.build (B2 rfl rfl) (run_build _ 28 #[(0, v185), (1, v67)] #[v185, v67] (by obtain ⟨_, _, rfl⟩ := RSl.ln (h192.mono (upI.tr i196)); obtain ⟨_, _, rfl⟩ := RSl.ln (h197.mono upI); rfl)))) ?_
       refine FB.all1 (i := 10) (by kernel_rfl) ?_
       ·
        obtain ⟨v199, w200, run201, S202⟩ := S195.buildSlice (P := Try.prog) te61 [Value.agg #[v185, v67]] (parts := #[(0, Value.agg #[v185, v67])]) (cells := [v185, v67]) rfl (szs_cons rfl szs_nil) (fc_cons rfl fc_nil) (ones_cons h192.one (ones_cons h197.one ones_nil)) (Nat.le_of_ble_eq_true rfl)
        have els203 : Els (up wa.heap.size H194) eSequent 2 [v185, v67] [(Sequent.mk r177 r50)] := (Els.snoc (H := (up wa.heap.size H194)) (E := eSequent) (k := 2) (c := [v185, v67]) (x := (Sequent.mk r177 r50)) Els.nil rfl ⟨_, _, rfl, (h192.mono (up_mono i196)), h197⟩)
        have nd204 : (bl [v185, v67]).Nodup := by exact nd_two (New.apart (h192.mono (up_mono (Inc.rfl _))) nv198)
        have nv205 : New H183 [v185, v67] := by exact (New.two nv193 (nv198.anti i191))
        refine FC.val (l' := (bs 12 2047)) rfl (by kernel_rfl) rfl rfl rfl (E.buildSlice (B1 rfl) run201) ?_
        refine ⟨(SP.nil (Sl.of_inc ((r182.run.inc.tr i191).tr i196) S202.sl)), ?_⟩
        refine FB.t (i := 11) (bs 12 4095) rfl (SP.nil (Sl.of_inc ((r182.run.inc.tr i191).tr i196) S202.sl)) rfl (fun w' hw' => (E.assign (v := v199) rfl)) ?_
        exact FB.done (by kernel_rfl) ⟨_, _, _, _, (S202.sel [0] (by decide) rfl), ((r182.run.inc.tr i191).tr i196), els203, nd204, rfl⟩
    ·
     rintro f215 w214 ⟨H211, v206, n207, cs208, S212, i213, els209, nd210, k216⟩
     refine FW.ret ?_
     obtain rfl := Option.some.inj hp
     exact ⟨.inr rfl, res1 rfl k216 ⟨_, _, _, _, rfl, S212, (els209.mono upI)⟩⟩
   ·
    refine FW.condF rfl c155 ?_
    refine FW.seq (FW.region ?_)
    refine FL.v (E.eql rfl rfl) ?_
    refine FL.v (E.assign (v := Value.bool (a1 == 4)) rfl) ?_
    refine FL.nil ?_
    rcases ifB hp with ⟨c217, hp⟩ | ⟨c217, hp⟩
    ·
     refine FW.condT rfl c217 ?_
     refine FW.seq ?_
     obtain ⟨y221, hy222, hp⟩ := bnd hp
     obtain ⟨y229, hy230, hp⟩ := bnd hp
     obtain ⟨r252, hr253, hp⟩ := bnd hp
     refine FW.drawB (Sl H72) (fun f w => ∃ H : GH, ∃ v274 : Value, ∃ n275 : Nat, ∃ cs276 : List Value, St Ha wa H w [.row 28 2 v274 n275 cs276] ∧ Inc H72 H ∧ Els H eSequent 2 cs276 [(Sequent.mk r252 a0.right)] ∧ f 6 = v274) (by kernel_rfl) S91.sl ?_ ?_
     ·
      intro w218 r219
      have S220 := S91.call r219
      refine FB.t (i := 0) (bs 16 1) rfl (SP.nil S220.sl) rfl (fun w' hw' => (E.move k80)) ?_
      refine FB.t (i := 1) (bs 16 3) rfl (SP.nil S220.sl) rfl (fun w' hw' => (E.move (v := v86) rfl)) ?_
      obtain ⟨q223, v225, v226, rfl, at224, h227, h228⟩ := FAt.open h88 hy222
      refine FB.t (i := 2) (bs 16 7) rfl (SP.nil S220.sl) rfl (fun w' hw' => (E.nilCheck rfl)) ?_
      refine FB.t (i := 3) (bs 16 15) rfl (SP.nil S220.sl) rfl (fun w' hw' => (E.fieldAddr tf68_3 rfl)) ?_
      refine FB.t (i := 4) (bs 16 31) rfl (SP.nil S220.sl) rfl (fun w' hw' => (E.load rfl (run_load1 Try.isAgg9 (at224.now hw') rfl))) ?_
      refine FB.t (i := 5) (bs 16 63) rfl (SP.nil S220.sl) rfl (fun w' hw' => (E.move (v := v87) rfl)) ?_
      obtain ⟨q231, v233, v234, rfl, at232, h235, h236⟩ := FAt.open h89 hy230
      refine FB.t (i := 6) (bs 16 127) rfl (SP.nil S220.sl) rfl (fun w' hw' => (E.nilCheck rfl)) ?_
      refine FB.t (i := 7) (bs 16 255) rfl (SP.nil S220.sl) rfl (fun w' hw' => (E.fieldAddr tf68_3 rfl)) ?_
      refine FB.t (i := 8) (bs 16 511) rfl (SP.nil S220.sl) rfl (fun w' hw' => (E.load rfl (run_load1 Try.isAgg9 (at232.now hw') rfl))) ?_
      refine FB.t (i := 11) (bs 16 2559) rfl (SP.nil S220.sl) rfl (fun w' hw' => (E.fieldAddr tf28_1 k79)) ?_
      refine FB.t (i := 12) (bs 16 6655) rfl (SP.nil S220.sl) rfl (fun w' hw' => (E.load rfl (run_load1 Try.isAgg22 ((at28.mono i74).now hw') rfl))) ?_
      refine FB.all1 (i := 9) (by kernel_rfl) ?_
      ·
       obtain ⟨v237, w238, run239, S240⟩ := S220.buildSlice (P := Try.prog) te22 [Value.string y221.text, Value.string y229.text] (parts := #[(0, Value.string y221.text), (1, Value.string y229.text)]) (cells := [Value.string y221.text, Value.string y229.text]) rfl (szs_cons rfl (szs_cons rfl szs_nil)) (fc_cons rfl (fc_cons rfl fc_nil)) (ones_cons rfl (ones_cons rfl ones_nil)) (Nat.le_of_ble_eq_true rfl)
       have els241 : Els (up wa.heap.size H72) eS 1 [Value.string y221.text, Value.string y229.text] [y221.text, y229.text] := (Els.snoc (H := (up wa.heap.size H72)) (E := eS) (k := 1) (c := [Value.string y229.text]) (x := y229.text) (Els.snoc (H := (up wa.heap.size H72)) (E := eS) (k := 1) (c := [Value.string y221.text]) (x := y221.text) Els.nil rfl rfl) rfl rfl)
       refine FC.val (l' := (bs 16 7167)) rfl (by kernel_rfl) rfl rfl rfl (E.buildSlice (B2 rfl rfl) run239) ?_
       refine ⟨(SP.nil S240.sl), ?_⟩
       refine FB.all1 (i := 10) (by kernel_rfl) ?_
       ·
        obtain ⟨H242, S243, i244, h245, nv246⟩ := S240.sealRowU (i := 1) (l' := [.row 9 1 v237 2 [Value.string y221.text, Value.string y229.text], .row 9 1 v67 n69 cs70]) rfl els66 (by decide) rfl
        obtain ⟨H247, S248, i249, h250, nv251⟩ := S243.sealRowU (i := 0) (l' := [.row 9 1 v67 n69 cs70]) rfl (els241.mono (up_mono i244)) (by decide) rfl
        refine FC.call (l' := (bs 16 8191)) rfl (by kernel_rfl) rfl rfl rfl (E.call Try.call55 (A2 rfl rfl)) (w_impl_with S248.sl v63 r40 (h245.mono (upI.tr i249)) v237 [y221.text, y229.text] (h250.mono upI) hr253) ?_
        rintro e w255 ⟨H254, v260, n261, cs262, rfl, r257, els263⟩
        refine ⟨_, rfl, ?_⟩
        obtain ⟨H258, r257, hU259⟩ := St.lendX (i244.tr i249) S240.sl r257
        have els263 := els263.mono (hU259.tr (up_le S240.size))
        have S256 := S240.join (l' := [.row 9 1 v260 n261 cs262, .row 9 1 v237 2 [Value.string y221.text, Value.string y229.text], .row 9 1 v63 n64 cs65, .row 9 1 v67 n69 cs70]) r257 rfl
        refine ⟨(SP.nil (Sl.of_inc r257.run.inc S256.sl)), ?_⟩
        obtain ⟨H264, S265, i266, h267, nv268⟩ := S256.sealRowU (i := 0) (l' := [.row 9 1 v237 2 [Value.string y221.text, Value.string y229.text], .row 9 1 v63 n64 cs65, .row 9 1 v67 n69 cs70]) rfl els263 (by decide) rfl
        refine FB.t (i := 13) (bs 16 16383) rfl (SP.nil (Sl.of_inc r257.run.inc S256.sl)) rfl (fun w' hw' => (E.build (B2 rfl rfl) (run_build _ 28 #[(0, v260), (1, v0_1)] #[v260, v0_1] (by obtain ⟨_, _, rfl⟩ := RSl.ln (h267.mono upI); obtain ⟨_, _, rfl⟩ := RSl.ln (p0_1.mono (((i27.tr i74).tr r257.run.inc).tr i266)); rfl)))) ?_
        refine FB.all1 (i := 14) (by kernel_rfl) ?_
        ·
         obtain ⟨v269, w270, run271, S272⟩ := S265.buildSlice (P := Try.prog) te61 [Value.agg #[v260, v0_1]] (parts := #[(0, Value.agg #[v260, v0_1])]) (cells := [v260, v0_1]) rfl (szs_cons rfl szs_nil) (fc_cons rfl fc_nil) (ones_cons h267.one (ones_cons p0_1.one ones_nil)) (Nat.le_of_ble_eq_true rfl)
         have els273 : Els H264 eSequent 2 [v260, v0_1] [(Sequent.mk r252 a0.right)] := (Els.snoc (H := H264) (E := eSequent) (k := 2) (c := [v260, v0_1]) (x := (Sequent.mk r252 a0.right)) Els.nil rfl ⟨_, _, rfl, (h267.mono upI), (p0_1.mono (((i27.tr i74).tr r257.run.inc).tr i266))⟩)
         refine FC.val (l' := (bs 16 32767)) rfl (by kernel_rfl) rfl rfl rfl (E.buildSlice (B1 rfl) run271) ?_
         refine ⟨(SP.nil (Sl.of_inc (r257.run.inc.tr i266) S272.sl)), ?_⟩
         refine FB.t (i := 15) (bs 16 65535) rfl (SP.nil (Sl.of_inc (r257.run.inc.tr i266) S272.sl)) rfl (fun w' hw' => (E.assign (v := v269) rfl)) ?_
         exact FB.done (by kernel_rfl) ⟨_, _, _, _, (S272.sel [0] (by decide) rfl), (r257.run.inc.tr i266), els273, rfl⟩
     ·
      rintro f282 w281 ⟨H278, v274, n275, cs276, S279, i280, els277, k283⟩
      refine FW.ret ?_
      obtain rfl := Option.some.inj hp
      exact ⟨.inr rfl, res1 rfl k283 ⟨_, _, _, _, rfl, S279, els277⟩⟩
    ·
     refine FW.condF rfl c217 ?_
     refine FW.seq (FW.region ?_)
     refine FL.v (E.eql rfl rfl) ?_
     refine FL.v (E.assign (v := Value.bool (a1 == 5)) rfl) ?_
     refine FL.nil ?_
     rcases ifB hp with ⟨c284, hp⟩ | ⟨c284, hp⟩
     ·
      refine FW.condT rfl c284 ?_
      refine FW.seq ?_
      obtain ⟨y288, hy289, hp⟩ := bnd hp
      obtain ⟨r311, hr312, hp⟩ := bnd hp
      obtain ⟨y328, hy329, hp⟩ := bnd hp
      obtain ⟨r351, hr352, hp⟩ := bnd hp
      refine FW.drawB (Sl H72) (fun f w => ∃ H : GH, ∃ v373 : Value, ∃ n374 : Nat, ∃ cs375 : List Value, St Ha wa H w [.row 28 2 v373 n374 cs375] ∧ Inc H72 H ∧ Els H eSequent 2 cs375 [(Sequent.mk a0.left r311), (Sequent.mk a0.left r351)] ∧ f 6 = v373) (by kernel_rfl) S91.sl ?_ ?_
      ·
       intro w285 r286
       have S287 := S91.call r286
       refine FB.t (i := 0) (bs 22 1) rfl (SP.nil S287.sl) rfl (fun w' hw' => (E.fieldAddr tf28_0 k79)) ?_
       refine FB.t (i := 1) (bs 22 3) rfl (SP.nil S287.sl) rfl (fun w' hw' => (E.load rfl (run_load1 Try.isAgg22 ((at28.mono i74).now hw') rfl))) ?_
       refine FB.t (i := 2) (bs 22 7) rfl (SP.nil S287.sl) rfl (fun w' hw' => (E.move k81)) ?_
       refine FB.t (i := 3) (bs 22 15) rfl (SP.nil S287.sl) rfl (fun w' hw' => (E.move (v := v86) rfl)) ?_
       obtain ⟨q290, v292, v293, rfl, at291, h294, h295⟩ := FAt.open h88 hy289
       refine FB.t (i := 4) (bs 22 31) rfl (SP.nil S287.sl) rfl (fun w' hw' => (E.nilCheck rfl)) ?_
       refine FB.t (i := 5) (bs 22 63) rfl (SP.nil S287.sl) rfl (fun w' hw' => (E.fieldAddr tf68_3 rfl)) ?_
       refine FB.t (i := 6) (bs 22 127) rfl (SP.nil S287.sl) rfl (fun w' hw' => (E.load rfl (run_load1 Try.isAgg9 (at291.now hw') rfl))) ?_
       refine FB.t (i := 10) (bs 22 1151) rfl (SP.nil S287.sl) rfl (fun w' hw' => (E.fieldAddr tf28_0 k79)) ?_
       refine FB.t (i := 11) (bs 22 3199) rfl (SP.nil S287.sl) rfl (fun w' hw' => (E.load rfl (run_load1 Try.isAgg22 ((at28.mono i74).now hw') rfl))) ?_
       refine FB.t (i := 12) (bs 22 7295) rfl (SP.nil S287.sl) rfl (fun w' hw' => (E.move k81)) ?_
       refine FB.t (i := 13) (bs 22 15487) rfl (SP.nil S287.sl) rfl (fun w' hw' => (E.move (v := v87) rfl)) ?_
       obtain ⟨q330, v332, v333, rfl, at331, h334, h335⟩ := FAt.open h89 hy329
       refine FB.t (i := 14) (bs 22 31871) rfl (SP.nil S287.sl) rfl (fun w' hw' => (E.nilCheck rfl)) ?_
       refine FB.t (i := 15) (bs 22 64639) rfl (SP.nil S287.sl) rfl (fun w' hw' => (E.fieldAddr tf68_3 rfl)) ?_
       refine FB.t (i := 16) (bs 22 130175) rfl (SP.nil S287.sl) rfl (fun w' hw' => (E.load rfl (run_load1 Try.isAgg9 (at331.now hw') rfl))) ?_
       refine FB.all2 (i := 7) (j := 17) (by kernel_rfl) ?_ ?_
       ·
        obtain ⟨v296, w297, run298, S299⟩ := S287.buildSlice (P := Try.prog) te22 [Value.string y288.text] (parts := #[(0, Value.string y288.text)]) (cells := [Value.string y288.text]) rfl (szs_cons rfl szs_nil) (fc_cons rfl fc_nil) (ones_cons rfl ones_nil) (Nat.le_of_ble_eq_true rfl)
        have els300 : Els (up wa.heap.size H72) eS 1 [Value.string y288.text] [y288.text] := (Els.snoc (H := (up wa.heap.size H72)) (E := eS) (k := 1) (c := [Value.string y288.text]) (x := y288.text) Els.nil rfl rfl)
        refine FC.val (l' := (bs 22 130303)) rfl (by kernel_rfl) rfl rfl rfl (E.buildSlice (B1 rfl) run298) ?_
        refine ⟨(SP.nil S299.sl), ?_⟩
        refine FB.all2 (i := 8) (j := 17) (by kernel_rfl) ?_ ?_
        ·
         obtain ⟨H301, S302, i303, h304, nv305⟩ := S299.sealRowU (i := 2) (l' := [.row 9 1 v296 1 [Value.string y288.text], .row 9 1 v63 n64 cs65]) rfl els71 (by decide) rfl
         obtain ⟨H306, S307, i308, h309, nv310⟩ := S302.sealRowU (i := 0) (l' := [.row 9 1 v63 n64 cs65]) rfl (els300.mono (up_mono i303)) (by decide) rfl
         refine FC.call (l' := (bs 22 130559)) rfl (by kernel_rfl) rfl rfl rfl (E.call Try.call55 (A2 rfl rfl)) (w_impl_with S307.sl v67 r50 (h304.mono (upI.tr i308)) v296 [y288.text] (h309.mono upI) hr312) ?_
         rintro e w314 ⟨H313, v319, n320, cs321, rfl, r316, els322⟩
         refine ⟨_, rfl, ?_⟩
         obtain ⟨H317, r316, hU318⟩ := St.lendX (i303.tr i308) S299.sl r316
         have els322 := els322.mono (hU318.tr (up_le S299.size))
         have S315 := S299.join (l' := [.row 9 1 v319 n320 cs321, .row 9 1 v296 1 [Value.string y288.text], .row 9 1 v63 n64 cs65, .row 9 1 v67 n69 cs70]) r316 rfl
         refine ⟨(SP.nil (Sl.of_inc r316.run.inc S315.sl)), ?_⟩
         obtain ⟨H323, S324, i325, h326, nv327⟩ := S315.sealRowU (i := 0) (l' := [.row 9 1 v296 1 [Value.string y288.text], .row 9 1 v63 n64 cs65, .row 9 1 v67 n69 cs70]) rfl els322 (by decide) rfl
         refine FB.t (i := 9) (bs 22 131071) rfl (SP.nil (Sl.of_inc r316.run.inc S315.sl)) rfl (fun w' hw' => (E.build (B2 rfl rfl) (run_build _ 28 #[(0, v0_0), (1, v319)] #[v0_0, v319] (by obtain ⟨_, _, rfl⟩ := RSl.ln (p0_0.mono (((i27.tr i74).tr r316.run.inc).tr i325)); obtain ⟨_, _, rfl⟩ := RSl.ln (h326.mono upI); rfl)))) ?_
         refine FB.all1 (i := 17) (by kernel_rfl) ?_
         ·
          obtain ⟨v336, w337, run338, S339⟩ := S324.buildSlice (P := Try.prog) te22 [Value.string y328.text] (parts := #[(0, Value.string y328.text)]) (cells := [Value.string y328.text]) rfl (szs_cons rfl szs_nil) (fc_cons rfl fc_nil) (ones_cons rfl ones_nil) (Nat.le_of_ble_eq_true rfl)
          have els340 : Els (up wa.heap.size H323) eS 1 [Value.string y328.text] [y328.text] := (Els.snoc (H := (up wa.heap.size H323)) (E := eS) (k := 1) (c := [Value.string y328.text]) (x := y328.text) Els.nil rfl rfl)
          refine FC.val (l' := (bs 22 262143)) rfl (by kernel_rfl) rfl rfl rfl (E.buildSlice (B1 rfl) run338) ?_
          refine ⟨(SP.nil (Sl.of_inc (r316.run.inc.tr i325) S339.sl)), ?_⟩
          refine FB.all1 (i := 18) (by kernel_rfl) ?_
          ·
           obtain ⟨H341, S342, i343, h344, nv345⟩ := S339.sealRowU (i := 3) (l' := [.row 9 1 v336 1 [Value.string y328.text], .row 9 1 v296 1 [Value.string y288.text], .row 9 1 v63 n64 cs65]) rfl (els71.mono (up_mono (r316.run.inc.tr i325))) (by decide) rfl
           obtain ⟨H346, S347, i348, h349, nv350⟩ := S342.sealRowU (i := 0) (l' := [.row 9 1 v296 1 [Value.string y288.text], .row 9 1 v63 n64 cs65]) rfl (els340.mono (up_mono i343)) (by decide) rfl
           refine FC.call (l' := (bs 22 524287)) rfl (by kernel_rfl) rfl rfl rfl (E.call Try.call55 (A2 rfl rfl)) (w_impl_with S347.sl v67 r50 (h344.mono (upI.tr i348)) v336 [y328.text] (h349.mono upI) hr352) ?_
           rintro e w354 ⟨H353, v359, n360, cs361, rfl, r356, els362⟩
           refine ⟨_, rfl, ?_⟩
           obtain ⟨H357, r356, hU358⟩ := St.lendX (i343.tr i348) S339.sl r356
           have els362 := els362.mono (hU358.tr (up_le S339.size))
           have S355 := S339.join (l' := [.row 9 1 v359 n360 cs361, .row 9 1 v336 1 [Value.string y328.text], .row 9 1 v296 1 [Value.string y288.text], .row 9 1 v63 n64 cs65, .row 9 1 v67 n69 cs70]) r356 rfl
           refine ⟨(SP.nil (Sl.of_inc ((r316.run.inc.tr i325).tr r356.run.inc) S355.sl)), ?_⟩
           obtain ⟨H363, S364, i365, h366, nv367⟩ := S355.sealRowU (i := 0) (l' := [.row 9 1 v336 1 [Value.string y328.text], .row 9 1 v296 1 [Value.string y288.text], .row 9 1 v63 n64 cs65, .row 9 1 v67 n69 cs70]) rfl els362 (by decide) rfl
           refine FB.t (i := 19) (bs 22 1048575) rfl (SP.nil (Sl.of_inc ((r316.run.inc.tr i325).tr r356.run.inc) S355.sl)) rfl (fun w' hw' => (E.build (B2 rfl rfl) (run_build _ 28 #[(0, v0_0), (1, v359)] #[v0_0, v359] (by obtain ⟨_, _, rfl⟩ := RSl.ln (p0_0.mono (((((i27.tr i74).tr r316.run.inc).tr i325).tr r356.run.inc).tr i365)); obtain ⟨_, _, rfl⟩ := RSl.ln (h366.mono upI); rfl)))) ?_
           refine FB.all1 (i := 20) (by kernel_rfl) ?_
           ·
            obtain ⟨v368, w369, run370, S371⟩ := S364.buildSlice (P := Try.prog) te61 [Value.agg #[v0_0, v319], Value.agg #[v0_0, v359]] (parts := #[(0, Value.agg #[v0_0, v319]), (1, Value.agg #[v0_0, v359])]) (cells := [v0_0, v319, v0_0, v359]) rfl (szs_cons rfl (szs_cons rfl szs_nil)) (fc_cons rfl (fc_cons rfl fc_nil)) (ones_cons p0_0.one (ones_cons h326.one (ones_cons p0_0.one (ones_cons h366.one ones_nil)))) (Nat.le_of_ble_eq_true rfl)
            have els372 : Els H363 eSequent 2 [v0_0, v319, v0_0, v359] [(Sequent.mk a0.left r311), (Sequent.mk a0.left r351)] := (Els.snoc (H := H363) (E := eSequent) (k := 2) (c := [v0_0, v359]) (x := (Sequent.mk a0.left r351)) (Els.snoc (H := H363) (E := eSequent) (k := 2) (c := [v0_0, v319]) (x := (Sequent.mk a0.left r311)) Els.nil rfl ⟨_, _, rfl, (p0_0.mono (((((i27.tr i74).tr r316.run.inc).tr i325).tr r356.run.inc).tr i365)), (h326.mono (upI.tr (r356.run.inc.tr i365)))⟩) rfl ⟨_, _, rfl, (p0_0.mono (((((i27.tr i74).tr r316.run.inc).tr i325).tr r356.run.inc).tr i365)), (h366.mono upI)⟩)
            refine FC.val (l' := (bs 22 2097151)) rfl (by kernel_rfl) rfl rfl rfl (E.buildSlice (B2 rfl rfl) run370) ?_
            refine ⟨(SP.nil (Sl.of_inc (((r316.run.inc.tr i325).tr r356.run.inc).tr i365) S371.sl)), ?_⟩
            refine FB.t (i := 21) (bs 22 4194303) rfl (SP.nil (Sl.of_inc (((r316.run.inc.tr i325).tr r356.run.inc).tr i365) S371.sl)) rfl (fun w' hw' => (E.assign (v := v368) rfl)) ?_
            exact FB.done (by kernel_rfl) ⟨_, _, _, _, (S371.sel [0] (by decide) rfl), (((r316.run.inc.tr i325).tr r356.run.inc).tr i365), els372, rfl⟩
        ·
         obtain ⟨v336, w337, run338, S339⟩ := S299.buildSlice (P := Try.prog) te22 [Value.string y328.text] (parts := #[(0, Value.string y328.text)]) (cells := [Value.string y328.text]) rfl (szs_cons rfl szs_nil) (fc_cons rfl fc_nil) (ones_cons rfl ones_nil) (Nat.le_of_ble_eq_true rfl)
         have els340 : Els (up wa.heap.size H72) eS 1 [Value.string y328.text] [y328.text] := (Els.snoc (H := (up wa.heap.size H72)) (E := eS) (k := 1) (c := [Value.string y328.text]) (x := y328.text) Els.nil rfl rfl)
         refine FC.val (l' := (bs 22 261375)) rfl (by kernel_rfl) rfl rfl rfl (E.buildSlice (B1 rfl) run338) ?_
         refine ⟨(SP.nil S339.sl), ?_⟩
         refine FB.all1 (i := 8) (by kernel_rfl) ?_
         ·
          obtain ⟨H301, S302, i303, h304, nv305⟩ := S339.sealRowU (i := 3) (l' := [.row 9 1 v336 1 [Value.string y328.text], .row 9 1 v296 1 [Value.string y288.text], .row 9 1 v63 n64 cs65]) rfl els71 (by decide) rfl
          obtain ⟨H306, S307, i308, h309, nv310⟩ := S302.sealRowU (i := 1) (l' := [.row 9 1 v336 1 [Value.string y328.text], .row 9 1 v63 n64 cs65]) rfl (els300.mono (up_mono i303)) (by decide) rfl
          refine FC.call (l' := (bs 22 261631)) rfl (by kernel_rfl) rfl rfl rfl (E.call Try.call55 (A2 rfl rfl)) (w_impl_with S307.sl v67 r50 (h304.mono (upI.tr i308)) v296 [y288.text] (h309.mono upI) hr312) ?_
          rintro e w314 ⟨H313, v319, n320, cs321, rfl, r316, els322⟩
          refine ⟨_, rfl, ?_⟩
          obtain ⟨H317, r316, hU318⟩ := St.lendX (i303.tr i308) S339.sl r316
          have els322 := els322.mono (hU318.tr (up_le S339.size))
          have S315 := S339.join (l' := [.row 9 1 v319 n320 cs321, .row 9 1 v336 1 [Value.string y328.text], .row 9 1 v296 1 [Value.string y288.text], .row 9 1 v63 n64 cs65, .row 9 1 v67 n69 cs70]) r316 rfl
          refine ⟨(SP.nil (Sl.of_inc r316.run.inc S315.sl)), ?_⟩
          obtain ⟨H323, S324, i325, h326, nv327⟩ := S315.sealRowU (i := 0) (l' := [.row 9 1 v336 1 [Value.string y328.text], .row 9 1 v296 1 [Value.string y288.text], .row 9 1 v63 n64 cs65, .row 9 1 v67 n69 cs70]) rfl els322 (by decide) rfl
          refine FB.t (i := 9) (bs 22 262143) rfl (SP.nil (Sl.of_inc r316.run.inc S315.sl)) rfl (fun w' hw' => (E.build (B2 rfl rfl) (run_build _ 28 #[(0, v0_0), (1, v319)] #[v0_0, v319] (by obtain ⟨_, _, rfl⟩ := RSl.ln (p0_0.mono (((i27.tr i74).tr r316.run.inc).tr i325)); obtain ⟨_, _, rfl⟩ := RSl.ln (h326.mono upI); rfl)))) ?_
          refine FB.all1 (i := 18) (by kernel_rfl) ?_
          ·
           obtain ⟨H341, S342, i343, h344, nv345⟩ := S324.sealRowU (i := 3) (l' := [.row 9 1 v336 1 [Value.string y328.text], .row 9 1 v296 1 [Value.string y288.text], .row 9 1 v63 n64 cs65]) rfl (els71.mono (up_mono (r316.run.inc.tr i325))) (by decide) rfl
           obtain ⟨H346, S347, i348, h349, nv350⟩ := S342.sealRowU (i := 0) (l' := [.row 9 1 v296 1 [Value.string y288.text], .row 9 1 v63 n64 cs65]) rfl (els340.mono (up_mono ((r316.run.inc.tr i325).tr i343))) (by decide) rfl
           refine FC.call (l' := (bs 22 524287)) rfl (by kernel_rfl) rfl rfl rfl (E.call Try.call55 (A2 rfl rfl)) (w_impl_with S347.sl v67 r50 (h344.mono (upI.tr i348)) v336 [y328.text] (h349.mono upI) hr352) ?_
           rintro e w354 ⟨H353, v359, n360, cs361, rfl, r356, els362⟩
           refine ⟨_, rfl, ?_⟩
           obtain ⟨H357, r356, hU358⟩ := St.lendX (i343.tr i348) S324.sl r356
           have els362 := els362.mono (hU358.tr (up_le S324.size))
           have S355 := S324.join (l' := [.row 9 1 v359 n360 cs361, .row 9 1 v336 1 [Value.string y328.text], .row 9 1 v296 1 [Value.string y288.text], .row 9 1 v63 n64 cs65, .row 9 1 v67 n69 cs70]) r356 rfl
           refine ⟨(SP.nil (Sl.of_inc ((r316.run.inc.tr i325).tr r356.run.inc) S355.sl)), ?_⟩
           obtain ⟨H363, S364, i365, h366, nv367⟩ := S355.sealRowU (i := 0) (l' := [.row 9 1 v336 1 [Value.string y328.text], .row 9 1 v296 1 [Value.string y288.text], .row 9 1 v63 n64 cs65, .row 9 1 v67 n69 cs70]) rfl els362 (by decide) rfl
           refine FB.t (i := 19) (bs 22 1048575) rfl (SP.nil (Sl.of_inc ((r316.run.inc.tr i325).tr r356.run.inc) S355.sl)) rfl (fun w' hw' => (E.build (B2 rfl rfl) (run_build _ 28 #[(0, v0_0), (1, v359)] #[v0_0, v359] (by obtain ⟨_, _, rfl⟩ := RSl.ln (p0_0.mono (((((i27.tr i74).tr r316.run.inc).tr i325).tr r356.run.inc).tr i365)); obtain ⟨_, _, rfl⟩ := RSl.ln (h366.mono upI); rfl)))) ?_
           refine FB.all1 (i := 20) (by kernel_rfl) ?_
           ·
            obtain ⟨v368, w369, run370, S371⟩ := S364.buildSlice (P := Try.prog) te61 [Value.agg #[v0_0, v319], Value.agg #[v0_0, v359]] (parts := #[(0, Value.agg #[v0_0, v319]), (1, Value.agg #[v0_0, v359])]) (cells := [v0_0, v319, v0_0, v359]) rfl (szs_cons rfl (szs_cons rfl szs_nil)) (fc_cons rfl (fc_cons rfl fc_nil)) (ones_cons p0_0.one (ones_cons h326.one (ones_cons p0_0.one (ones_cons h366.one ones_nil)))) (Nat.le_of_ble_eq_true rfl)
            have els372 : Els H363 eSequent 2 [v0_0, v319, v0_0, v359] [(Sequent.mk a0.left r311), (Sequent.mk a0.left r351)] := (Els.snoc (H := H363) (E := eSequent) (k := 2) (c := [v0_0, v359]) (x := (Sequent.mk a0.left r351)) (Els.snoc (H := H363) (E := eSequent) (k := 2) (c := [v0_0, v319]) (x := (Sequent.mk a0.left r311)) Els.nil rfl ⟨_, _, rfl, (p0_0.mono (((((i27.tr i74).tr r316.run.inc).tr i325).tr r356.run.inc).tr i365)), (h326.mono (upI.tr (r356.run.inc.tr i365)))⟩) rfl ⟨_, _, rfl, (p0_0.mono (((((i27.tr i74).tr r316.run.inc).tr i325).tr r356.run.inc).tr i365)), (h366.mono upI)⟩)
            refine FC.val (l' := (bs 22 2097151)) rfl (by kernel_rfl) rfl rfl rfl (E.buildSlice (B2 rfl rfl) run370) ?_
            refine ⟨(SP.nil (Sl.of_inc (((r316.run.inc.tr i325).tr r356.run.inc).tr i365) S371.sl)), ?_⟩
            refine FB.t (i := 21) (bs 22 4194303) rfl (SP.nil (Sl.of_inc (((r316.run.inc.tr i325).tr r356.run.inc).tr i365) S371.sl)) rfl (fun w' hw' => (E.assign (v := v368) rfl)) ?_
            exact FB.done (by kernel_rfl) ⟨_, _, _, _, (S371.sel [0] (by decide) rfl), (((r316.run.inc.tr i325).tr r356.run.inc).tr i365), els372, rfl⟩
       ·
        obtain ⟨v336, w337, run338, S339⟩ := S287.buildSlice (P := Try.prog) te22 [Value.string y328.text] (parts := #[(0, Value.string y328.text)]) (cells := [Value.string y328.text]) rfl (szs_cons rfl szs_nil) (fc_cons rfl fc_nil) (ones_cons rfl ones_nil) (Nat.le_of_ble_eq_true rfl)
        have els340 : Els (up wa.heap.size H72) eS 1 [Value.string y328.text] [y328.text] := (Els.snoc (H := (up wa.heap.size H72)) (E := eS) (k := 1) (c := [Value.string y328.text]) (x := y328.text) Els.nil rfl rfl)
        refine FC.val (l' := (bs 22 261247)) rfl (by kernel_rfl) rfl rfl rfl (E.buildSlice (B1 rfl) run338) ?_
        refine ⟨(SP.nil S339.sl), ?_⟩
        refine FB.all1 (i := 7) (by kernel_rfl) ?_
        ·
         obtain ⟨v296, w297, run298, S299⟩ := S339.buildSlice (P := Try.prog) te22 [Value.string y288.text] (parts := #[(0, Value.string y288.text)]) (cells := [Value.string y288.text]) rfl (szs_cons rfl szs_nil) (fc_cons rfl fc_nil) (ones_cons rfl ones_nil) (Nat.le_of_ble_eq_true rfl)
         have els300 : Els (up wa.heap.size H72) eS 1 [Value.string y288.text] [y288.text] := (Els.snoc (H := (up wa.heap.size H72)) (E := eS) (k := 1) (c := [Value.string y288.text]) (x := y288.text) Els.nil rfl rfl)
         refine FC.val (l' := (bs 22 261375)) rfl (by kernel_rfl) rfl rfl rfl (E.buildSlice (B1 rfl) run298) ?_
         refine ⟨(SP.nil S299.sl), ?_⟩
         refine FB.all1 (i := 8) (by kernel_rfl) ?_
         ·
          obtain ⟨H301, S302, i303, h304, nv305⟩ := S299.sealRowU (i := 3) (l' := [.row 9 1 v296 1 [Value.string y288.text], .row 9 1 v336 1 [Value.string y328.text], .row 9 1 v63 n64 cs65]) rfl els71 (by decide) rfl
          obtain ⟨H306, S307, i308, h309, nv310⟩ := S302.sealRowU (i := 0) (l' := [.row 9 1 v336 1 [Value.string y328.text], .row 9 1 v63 n64 cs65]) rfl (els300.mono (up_mono i303)) (by decide) rfl
          refine FC.call (l' := (bs 22 261631)) rfl (by kernel_rfl) rfl rfl rfl (E.call Try.call55 (A2 rfl rfl)) (w_impl_with S307.sl v67 r50 (h304.mono (upI.tr i308)) v296 [y288.text] (h309.mono upI) hr312) ?_
          rintro e w314 ⟨H313, v319, n320, cs321, rfl, r316, els322⟩
          refine ⟨_, rfl, ?_⟩
          obtain ⟨H317, r316, hU318⟩ := St.lendX (i303.tr i308) S299.sl r316
          have els322 := els322.mono (hU318.tr (up_le S299.size))
          have S315 := S299.join (l' := [.row 9 1 v319 n320 cs321, .row 9 1 v296 1 [Value.string y288.text], .row 9 1 v336 1 [Value.string y328.text], .row 9 1 v63 n64 cs65, .row 9 1 v67 n69 cs70]) r316 rfl
          refine ⟨(SP.nil (Sl.of_inc r316.run.inc S315.sl)), ?_⟩
          obtain ⟨H323, S324, i325, h326, nv327⟩ := S315.sealRowU (i := 0) (l' := [.row 9 1 v296 1 [Value.string y288.text], .row 9 1 v336 1 [Value.string y328.text], .row 9 1 v63 n64 cs65, .row 9 1 v67 n69 cs70]) rfl els322 (by decide) rfl
          refine FB.t (i := 9) (bs 22 262143) rfl (SP.nil (Sl.of_inc r316.run.inc S315.sl)) rfl (fun w' hw' => (E.build (B2 rfl rfl) (run_build _ 28 #[(0, v0_0), (1, v319)] #[v0_0, v319] (by obtain ⟨_, _, rfl⟩ := RSl.ln (p0_0.mono (((i27.tr i74).tr r316.run.inc).tr i325)); obtain ⟨_, _, rfl⟩ := RSl.ln (h326.mono upI); rfl)))) ?_
          refine FB.all1 (i := 18) (by kernel_rfl) ?_
          ·
           obtain ⟨H341, S342, i343, h344, nv345⟩ := S324.sealRowU (i := 3) (l' := [.row 9 1 v296 1 [Value.string y288.text], .row 9 1 v336 1 [Value.string y328.text], .row 9 1 v63 n64 cs65]) rfl (els71.mono (up_mono (r316.run.inc.tr i325))) (by decide) rfl
           obtain ⟨H346, S347, i348, h349, nv350⟩ := S342.sealRowU (i := 1) (l' := [.row 9 1 v296 1 [Value.string y288.text], .row 9 1 v63 n64 cs65]) rfl (els340.mono (up_mono ((r316.run.inc.tr i325).tr i343))) (by decide) rfl
           refine FC.call (l' := (bs 22 524287)) rfl (by kernel_rfl) rfl rfl rfl (E.call Try.call55 (A2 rfl rfl)) (w_impl_with S347.sl v67 r50 (h344.mono (upI.tr i348)) v336 [y328.text] (h349.mono upI) hr352) ?_
           rintro e w354 ⟨H353, v359, n360, cs361, rfl, r356, els362⟩
           refine ⟨_, rfl, ?_⟩
           obtain ⟨H357, r356, hU358⟩ := St.lendX (i343.tr i348) S324.sl r356
           have els362 := els362.mono (hU358.tr (up_le S324.size))
           have S355 := S324.join (l' := [.row 9 1 v359 n360 cs361, .row 9 1 v296 1 [Value.string y288.text], .row 9 1 v336 1 [Value.string y328.text], .row 9 1 v63 n64 cs65, .row 9 1 v67 n69 cs70]) r356 rfl
           refine ⟨(SP.nil (Sl.of_inc ((r316.run.inc.tr i325).tr r356.run.inc) S355.sl)), ?_⟩
           obtain ⟨H363, S364, i365, h366, nv367⟩ := S355.sealRowU (i := 0) (l' := [.row 9 1 v296 1 [Value.string y288.text], .row 9 1 v336 1 [Value.string y328.text], .row 9 1 v63 n64 cs65, .row 9 1 v67 n69 cs70]) rfl els362 (by decide) rfl
           refine FB.t (i := 19) (bs 22 1048575) rfl (SP.nil (Sl.of_inc ((r316.run.inc.tr i325).tr r356.run.inc) S355.sl)) rfl (fun w' hw' => (E.build (B2 rfl rfl) (run_build _ 28 #[(0, v0_0), (1, v359)] #[v0_0, v359] (by obtain ⟨_, _, rfl⟩ := RSl.ln (p0_0.mono (((((i27.tr i74).tr r316.run.inc).tr i325).tr r356.run.inc).tr i365)); obtain ⟨_, _, rfl⟩ := RSl.ln (h366.mono upI); rfl)))) ?_
           refine FB.all1 (i := 20) (by kernel_rfl) ?_
           ·
            obtain ⟨v368, w369, run370, S371⟩ := S364.buildSlice (P := Try.prog) te61 [Value.agg #[v0_0, v319], Value.agg #[v0_0, v359]] (parts := #[(0, Value.agg #[v0_0, v319]), (1, Value.agg #[v0_0, v359])]) (cells := [v0_0, v319, v0_0, v359]) rfl (szs_cons rfl (szs_cons rfl szs_nil)) (fc_cons rfl (fc_cons rfl fc_nil)) (ones_cons p0_0.one (ones_cons h326.one (ones_cons p0_0.one (ones_cons h366.one ones_nil)))) (Nat.le_of_ble_eq_true rfl)
            have els372 : Els H363 eSequent 2 [v0_0, v319, v0_0, v359] [(Sequent.mk a0.left r311), (Sequent.mk a0.left r351)] := (Els.snoc (H := H363) (E := eSequent) (k := 2) (c := [v0_0, v359]) (x := (Sequent.mk a0.left r351)) (Els.snoc (H := H363) (E := eSequent) (k := 2) (c := [v0_0, v319]) (x := (Sequent.mk a0.left r311)) Els.nil rfl ⟨_, _, rfl, (p0_0.mono (((((i27.tr i74).tr r316.run.inc).tr i325).tr r356.run.inc).tr i365)), (h326.mono (upI.tr (r356.run.inc.tr i365)))⟩) rfl ⟨_, _, rfl, (p0_0.mono (((((i27.tr i74).tr r316.run.inc).tr i325).tr r356.run.inc).tr i365)), (h366.mono upI)⟩)
            refine FC.val (l' := (bs 22 2097151)) rfl (by kernel_rfl) rfl rfl rfl (E.buildSlice (B2 rfl rfl) run370) ?_
            refine ⟨(SP.nil (Sl.of_inc (((r316.run.inc.tr i325).tr r356.run.inc).tr i365) S371.sl)), ?_⟩
            refine FB.t (i := 21) (bs 22 4194303) rfl (SP.nil (Sl.of_inc (((r316.run.inc.tr i325).tr r356.run.inc).tr i365) S371.sl)) rfl (fun w' hw' => (E.assign (v := v368) rfl)) ?_
            exact FB.done (by kernel_rfl) ⟨_, _, _, _, (S371.sel [0] (by decide) rfl), (((r316.run.inc.tr i325).tr r356.run.inc).tr i365), els372, rfl⟩
      ·
       rintro f381 w380 ⟨H377, v373, n374, cs375, S378, i379, els376, k382⟩
       refine FW.ret ?_
       obtain rfl := Option.some.inj hp
       exact ⟨.inr rfl, res1 rfl k382 ⟨_, _, _, _, rfl, S378, els376⟩⟩
     ·
      refine FW.condF rfl c284 ?_
      refine FW.seq (FW.region ?_)
      refine FL.v (E.eql rfl rfl) ?_
      refine FL.v (E.assign (v := Value.bool (a1 == 6)) rfl) ?_
      refine FL.nil ?_
      rcases ifB hp with ⟨c383, hp⟩ | ⟨c383, hp⟩
      ·
       refine FW.condT rfl c383 ?_
       refine FW.seq ?_
       obtain ⟨y387, hy388, hp⟩ := bnd hp
       obtain ⟨r410, hr411, hp⟩ := bnd hp
       obtain ⟨y427, hy428, hp⟩ := bnd hp
       obtain ⟨r450, hr451, hp⟩ := bnd hp
       refine FW.drawB (Sl H72) (fun f w => ∃ H : GH, ∃ v472 : Value, ∃ n473 : Nat, ∃ cs474 : List Value, St Ha wa H w [.row 28 2 v472 n473 cs474] ∧ Inc H72 H ∧ Els H eSequent 2 cs474 [(Sequent.mk r410 a0.right), (Sequent.mk r450 a0.right)] ∧ f 6 = v472) (by kernel_rfl) S91.sl ?_ ?_
       ·
        intro w384 r385
        have S386 := S91.call r385
        refine FB.t (i := 0) (bs 22 1) rfl (SP.nil S386.sl) rfl (fun w' hw' => (E.move k80)) ?_
        refine FB.t (i := 1) (bs 22 3) rfl (SP.nil S386.sl) rfl (fun w' hw' => (E.move (v := v86) rfl)) ?_
        obtain ⟨q389, v391, v392, rfl, at390, h393, h394⟩ := FAt.open h88 hy388
        refine FB.t (i := 2) (bs 22 7) rfl (SP.nil S386.sl) rfl (fun w' hw' => (E.nilCheck rfl)) ?_
        refine FB.t (i := 3) (bs 22 15) rfl (SP.nil S386.sl) rfl (fun w' hw' => (E.fieldAddr tf68_3 rfl)) ?_
        refine FB.t (i := 4) (bs 22 31) rfl (SP.nil S386.sl) rfl (fun w' hw' => (E.load rfl (run_load1 Try.isAgg9 (at390.now hw') rfl))) ?_
        refine FB.t (i := 7) (bs 22 159) rfl (SP.nil S386.sl) rfl (fun w' hw' => (E.fieldAddr tf28_1 k79)) ?_
        refine FB.t (i := 8) (bs 22 415) rfl (SP.nil S386.sl) rfl (fun w' hw' => (E.load rfl (run_load1 Try.isAgg22 ((at28.mono i74).now hw') rfl))) ?_
        refine FB.t (i := 10) (bs 22 1439) rfl (SP.nil S386.sl) rfl (fun w' hw' => (E.move k80)) ?_
        refine FB.t (i := 11) (bs 22 3487) rfl (SP.nil S386.sl) rfl (fun w' hw' => (E.move (v := v87) rfl)) ?_
        obtain ⟨q429, v431, v432, rfl, at430, h433, h434⟩ := FAt.open h89 hy428
        refine FB.t (i := 12) (bs 22 7583) rfl (SP.nil S386.sl) rfl (fun w' hw' => (E.nilCheck rfl)) ?_
        refine FB.t (i := 13) (bs 22 15775) rfl (SP.nil S386.sl) rfl (fun w' hw' => (E.fieldAddr tf68_3 rfl)) ?_
        refine FB.t (i := 14) (bs 22 32159) rfl (SP.nil S386.sl) rfl (fun w' hw' => (E.load rfl (run_load1 Try.isAgg9 (at430.now hw') rfl))) ?_
        refine FB.t (i := 17) (bs 22 163231) rfl (SP.nil S386.sl) rfl (fun w' hw' => (E.fieldAddr tf28_1 k79)) ?_
        refine FB.t (i := 18) (bs 22 425375) rfl (SP.nil S386.sl) rfl (fun w' hw' => (E.load rfl (run_load1 Try.isAgg22 ((at28.mono i74).now hw') rfl))) ?_
        refine FB.all2 (i := 5) (j := 15) (by kernel_rfl) ?_ ?_
        ·
         obtain ⟨v395, w396, run397, S398⟩ := S386.buildSlice (P := Try.prog) te22 [Value.string y387.text] (parts := #[(0, Value.string y387.text)]) (cells := [Value.string y387.text]) rfl (szs_cons rfl szs_nil) (fc_cons rfl fc_nil) (ones_cons rfl ones_nil) (Nat.le_of_ble_eq_true rfl)
         have els399 : Els (up wa.heap.size H72) eS 1 [Value.string y387.text] [y387.text] := (Els.snoc (H := (up wa.heap.size H72)) (E := eS) (k := 1) (c := [Value.string y387.text]) (x := y387.text) Els.nil rfl rfl)
         refine FC.val (l' := (bs 22 425407)) rfl (by kernel_rfl) rfl rfl rfl (E.buildSlice (B1 rfl) run397) ?_
         refine ⟨(SP.nil S398.sl), ?_⟩
         refine FB.all2 (i := 6) (j := 15) (by kernel_rfl) ?_ ?_
         ·
          obtain ⟨H400, S401, i402, h403, nv404⟩ := S398.sealRowU (i := 1) (l' := [.row 9 1 v395 1 [Value.string y387.text], .row 9 1 v67 n69 cs70]) rfl els66 (by decide) rfl
          obtain ⟨H405, S406, i407, h408, nv409⟩ := S401.sealRowU (i := 0) (l' := [.row 9 1 v67 n69 cs70]) rfl (els399.mono (up_mono i402)) (by decide) rfl
          refine FC.call (l' := (bs 22 425471)) rfl (by kernel_rfl) rfl rfl rfl (E.call Try.call55 (A2 rfl rfl)) (w_impl_with S406.sl v63 r40 (h403.mono (upI.tr i407)) v395 [y387.text] (h408.mono upI) hr411) ?_
          rintro e w413 ⟨H412, v418, n419, cs420, rfl, r415, els421⟩
          refine ⟨_, rfl, ?_⟩
          obtain ⟨H416, r415, hU417⟩ := St.lendX (i402.tr i407) S398.sl r415
          have els421 := els421.mono (hU417.tr (up_le S398.size))
          have S414 := S398.join (l' := [.row 9 1 v418 n419 cs420, .row 9 1 v395 1 [Value.string y387.text], .row 9 1 v63 n64 cs65, .row 9 1 v67 n69 cs70]) r415 rfl
          refine ⟨(SP.nil (Sl.of_inc r415.run.inc S414.sl)), ?_⟩
          obtain ⟨H422, S423, i424, h425, nv426⟩ := S414.sealRowU (i := 0) (l' := [.row 9 1 v395 1 [Value.string y387.text], .row 9 1 v63 n64 cs65, .row 9 1 v67 n69 cs70]) rfl els421 (by decide) rfl
          refine FB.t (i := 9) (bs 22 425983) rfl (SP.nil (Sl.of_inc r415.run.inc S414.sl)) rfl (fun w' hw' => (E.build (B2 rfl rfl) (run_build _ 28 #[(0, v418), (1, v0_1)] #[v418, v0_1] (by obtain ⟨_, _, rfl⟩ := RSl.ln (h425.mono upI); obtain ⟨_, _, rfl⟩ := RSl.ln (p0_1.mono (((i27.tr i74).tr r415.run.inc).tr i424)); rfl)))) ?_
          refine FB.all1 (i := 15) (by kernel_rfl) ?_
          ·
           obtain ⟨v435, w436, run437, S438⟩ := S423.buildSlice (P := Try.prog) te22 [Value.string y427.text] (parts := #[(0, Value.string y427.text)]) (cells := [Value.string y427.text]) rfl (szs_cons rfl szs_nil) (fc_cons rfl fc_nil) (ones_cons rfl ones_nil) (Nat.le_of_ble_eq_true rfl)
           have els439 : Els (up wa.heap.size H422) eS 1 [Value.string y427.text] [y427.text] := (Els.snoc (H := (up wa.heap.size H422)) (E := eS) (k := 1) (c := [Value.string y427.text]) (x := y427.text) Els.nil rfl rfl)
           refine FC.val (l' := (bs 22 458751)) rfl (by kernel_rfl) rfl rfl rfl (E.buildSlice (B1 rfl) run437) ?_
           refine ⟨(SP.nil (Sl.of_inc (r415.run.inc.tr i424) S438.sl)), ?_⟩
           refine FB.all1 (i := 16) (by kernel_rfl) ?_
           ·
            obtain ⟨H440, S441, i442, h443, nv444⟩ := S438.sealRowU (i := 2) (l' := [.row 9 1 v435 1 [Value.string y427.text], .row 9 1 v395 1 [Value.string y387.text], .row 9 1 v67 n69 cs70]) rfl (els66.mono (up_mono (r415.run.inc.tr i424))) (by decide) rfl
            obtain ⟨H445, S446, i447, h448, nv449⟩ := S441.sealRowU (i := 0) (l' := [.row 9 1 v395 1 [Value.string y387.text], .row 9 1 v67 n69 cs70]) rfl (els439.mono (up_mono i442)) (by decide) rfl
            refine FC.call (l' := (bs 22 524287)) rfl (by kernel_rfl) rfl rfl rfl (E.call Try.call55 (A2 rfl rfl)) (w_impl_with S446.sl v63 r40 (h443.mono (upI.tr i447)) v435 [y427.text] (h448.mono upI) hr451) ?_
            rintro e w453 ⟨H452, v458, n459, cs460, rfl, r455, els461⟩
            refine ⟨_, rfl, ?_⟩
            obtain ⟨H456, r455, hU457⟩ := St.lendX (i442.tr i447) S438.sl r455
            have els461 := els461.mono (hU457.tr (up_le S438.size))
            have S454 := S438.join (l' := [.row 9 1 v458 n459 cs460, .row 9 1 v435 1 [Value.string y427.text], .row 9 1 v395 1 [Value.string y387.text], .row 9 1 v63 n64 cs65, .row 9 1 v67 n69 cs70]) r455 rfl
            refine ⟨(SP.nil (Sl.of_inc ((r415.run.inc.tr i424).tr r455.run.inc) S454.sl)), ?_⟩
            obtain ⟨H462, S463, i464, h465, nv466⟩ := S454.sealRowU (i := 0) (l' := [.row 9 1 v435 1 [Value.string y427.text], .row 9 1 v395 1 [Value.string y387.text], .row 9 1 v63 n64 cs65, .row 9 1 v67 n69 cs70]) rfl els461 (by decide) rfl
            refine FB.t (i := 19) (bs 22 1048575) rfl (SP.nil (Sl.of_inc ((r415.run.inc.tr i424).tr r455.run.inc) S454.sl)) rfl (fun w' hw' => (E.build (B2 rfl rfl) (run_build _ 28 #[(0, v458), (1, v0_1)] #[v458, v0_1] (by obtain ⟨_, _, rfl⟩ := RSl.ln (h465.mono upI); obtain ⟨_, _, rfl⟩ := RSl.ln (p0_1.mono (((((i27.tr i74).tr r415.run.inc).tr i424).tr r455.run.inc).tr i464)); rfl)))) ?_
            refine FB.all1 (i := 20) (by kernel_rfl) ?_
            ·
             obtain ⟨v467, w468, run469, S470⟩ := S463.buildSlice (P := Try.prog) te61 [Value.agg #[v418, v0_1], Value.agg #[v458, v0_1]] (parts := #[(0, Value.agg #[v418, v0_1]), (1, Value.agg #[v458, v0_1])]) (cells := [v418, v0_1, v458, v0_1]) rfl (szs_cons rfl (szs_cons rfl szs_nil)) (fc_cons rfl (fc_cons rfl fc_nil)) (ones_cons h425.one (ones_cons p0_1.one (ones_cons h465.one (ones_cons p0_1.one ones_nil)))) (Nat.le_of_ble_eq_true rfl)
             have els471 : Els H462 eSequent 2 [v418, v0_1, v458, v0_1] [(Sequent.mk r410 a0.right), (Sequent.mk r450 a0.right)] := (Els.snoc (H := H462) (E := eSequent) (k := 2) (c := [v458, v0_1]) (x := (Sequent.mk r450 a0.right)) (Els.snoc (H := H462) (E := eSequent) (k := 2) (c := [v418, v0_1]) (x := (Sequent.mk r410 a0.right)) Els.nil rfl ⟨_, _, rfl, (h425.mono (upI.tr (r455.run.inc.tr i464))), (p0_1.mono (((((i27.tr i74).tr r415.run.inc).tr i424).tr r455.run.inc).tr i464))⟩) rfl ⟨_, _, rfl, (h465.mono upI), (p0_1.mono (((((i27.tr i74).tr r415.run.inc).tr i424).tr r455.run.inc).tr i464))⟩)
             refine FC.val (l' := (bs 22 2097151)) rfl (by kernel_rfl) rfl rfl rfl (E.buildSlice (B2 rfl rfl) run469) ?_
             refine ⟨(SP.nil (Sl.of_inc (((r415.run.inc.tr i424).tr r455.run.inc).tr i464) S470.sl)), ?_⟩
             refine FB.t (i := 21) (bs 22 4194303) rfl (SP.nil (Sl.of_inc (((r415.run.inc.tr i424).tr r455.run.inc).tr i464) S470.sl)) rfl (fun w' hw' => (E.assign (v := v467) rfl)) ?_
             exact FB.done (by kernel_rfl) ⟨_, _, _, _, (S470.sel [0] (by decide) rfl), (((r415.run.inc.tr i424).tr r455.run.inc).tr i464), els471, rfl⟩
         ·
          obtain ⟨v435, w436, run437, S438⟩ := S398.buildSlice (P := Try.prog) te22 [Value.string y427.text] (parts := #[(0, Value.string y427.text)]) (cells := [Value.string y427.text]) rfl (szs_cons rfl szs_nil) (fc_cons rfl fc_nil) (ones_cons rfl ones_nil) (Nat.le_of_ble_eq_true rfl)
          have els439 : Els (up wa.heap.size H72) eS 1 [Value.string y427.text] [y427.text] := (Els.snoc (H := (up wa.heap.size H72)) (E := eS) (k := 1) (c := [Value.string y427.text]) (x := y427.text) Els.nil rfl rfl)
          refine FC.val (l' := (bs 22 458175)) rfl (by kernel_rfl) rfl rfl rfl (E.buildSlice (B1 rfl) run437) ?_
          refine ⟨(SP.nil S438.sl), ?_⟩
          refine FB.all1 (i := 6) (by kernel_rfl) ?_
          ·
           obtain ⟨H400, S401, i402, h403, nv404⟩ := S438.sealRowU (i := 2) (l' := [.row 9 1 v435 1 [Value.string y427.text], .row 9 1 v395 1 [Value.string y387.text], .row 9 1 v67 n69 cs70]) rfl els66 (by decide) rfl
           obtain ⟨H405, S406, i407, h408, nv409⟩ := S401.sealRowU (i := 1) (l' := [.row 9 1 v435 1 [Value.string y427.text], .row 9 1 v67 n69 cs70]) rfl (els399.mono (up_mono i402)) (by decide) rfl
           refine FC.call (l' := (bs 22 458239)) rfl (by kernel_rfl) rfl rfl rfl (E.call Try.call55 (A2 rfl rfl)) (w_impl_with S406.sl v63 r40 (h403.mono (upI.tr i407)) v395 [y387.text] (h408.mono upI) hr411) ?_
           rintro e w413 ⟨H412, v418, n419, cs420, rfl, r415, els421⟩
           refine ⟨_, rfl, ?_⟩
           obtain ⟨H416, r415, hU417⟩ := St.lendX (i402.tr i407) S438.sl r415
           have els421 := els421.mono (hU417.tr (up_le S438.size))
           have S414 := S438.join (l' := [.row 9 1 v418 n419 cs420, .row 9 1 v435 1 [Value.string y427.text], .row 9 1 v395 1 [Value.string y387.text], .row 9 1 v63 n64 cs65, .row 9 1 v67 n69 cs70]) r415 rfl
           refine ⟨(SP.nil (Sl.of_inc r415.run.inc S414.sl)), ?_⟩
           obtain ⟨H422, S423, i424, h425, nv426⟩ := S414.sealRowU (i := 0) (l' := [.row 9 1 v435 1 [Value.string y427.text], .row 9 1 v395 1 [Value.string y387.text], .row 9 1 v63 n64 cs65, .row 9 1 v67 n69 cs70]) rfl els421 (by decide) rfl
           refine FB.t (i := 9) (bs 22 458751) rfl (SP.nil (Sl.of_inc r415.run.inc S414.sl)) rfl (fun w' hw' => (E.build (B2 rfl rfl) (run_build _ 28 #[(0, v418), (1, v0_1)] #[v418, v0_1] (by obtain ⟨_, _, rfl⟩ := RSl.ln (h425.mono upI); obtain ⟨_, _, rfl⟩ := RSl.ln (p0_1.mono (((i27.tr i74).tr r415.run.inc).tr i424)); rfl)))) ?_
           refine FB.all1 (i := 16) (by kernel_rfl) ?_
           ·
            obtain ⟨H440, S441, i442, h443, nv444⟩ := S423.sealRowU (i := 2) (l' := [.row 9 1 v435 1 [Value.string y427.text], .row 9 1 v395 1 [Value.string y387.text], .row 9 1 v67 n69 cs70]) rfl (els66.mono (up_mono (r415.run.inc.tr i424))) (by decide) rfl
            obtain ⟨H445, S446, i447, h448, nv449⟩ := S441.sealRowU (i := 0) (l' := [.row 9 1 v395 1 [Value.string y387.text], .row 9 1 v67 n69 cs70]) rfl (els439.mono (up_mono ((r415.run.inc.tr i424).tr i442))) (by decide) rfl
            refine FC.call (l' := (bs 22 524287)) rfl (by kernel_rfl) rfl rfl rfl (E.call Try.call55 (A2 rfl rfl)) (w_impl_with S446.sl v63 r40 (h443.mono (upI.tr i447)) v435 [y427.text] (h448.mono upI) hr451) ?_
            rintro e w453 ⟨H452, v458, n459, cs460, rfl, r455, els461⟩
            refine ⟨_, rfl, ?_⟩
            obtain ⟨H456, r455, hU457⟩ := St.lendX (i442.tr i447) S423.sl r455
            have els461 := els461.mono (hU457.tr (up_le S423.size))
            have S454 := S423.join (l' := [.row 9 1 v458 n459 cs460, .row 9 1 v435 1 [Value.string y427.text], .row 9 1 v395 1 [Value.string y387.text], .row 9 1 v63 n64 cs65, .row 9 1 v67 n69 cs70]) r455 rfl
            refine ⟨(SP.nil (Sl.of_inc ((r415.run.inc.tr i424).tr r455.run.inc) S454.sl)), ?_⟩
            obtain ⟨H462, S463, i464, h465, nv466⟩ := S454.sealRowU (i := 0) (l' := [.row 9 1 v435 1 [Value.string y427.text], .row 9 1 v395 1 [Value.string y387.text], .row 9 1 v63 n64 cs65, .row 9 1 v67 n69 cs70]) rfl els461 (by decide) rfl
            refine FB.t (i := 19) (bs 22 1048575) rfl (SP.nil (Sl.of_inc ((r415.run.inc.tr i424).tr r455.run.inc) S454.sl)) rfl (fun w' hw' => (E.build (B2 rfl rfl) (run_build _ 28 #[(0, v458), (1, v0_1)] #[v458, v0_1] (by obtain ⟨_, _, rfl⟩ := RSl.ln (h465.mono upI); obtain ⟨_, _, rfl⟩ := RSl.ln (p0_1.mono (((((i27.tr i74).tr r415.run.inc).tr i424).tr r455.run.inc).tr i464)); rfl)))) ?_
            refine FB.all1 (i := 20) (by kernel_rfl) ?_
            ·
             obtain ⟨v467, w468, run469, S470⟩ := S463.buildSlice (P := Try.prog) te61 [Value.agg #[v418, v0_1], Value.agg #[v458, v0_1]] (parts := #[(0, Value.agg #[v418, v0_1]), (1, Value.agg #[v458, v0_1])]) (cells := [v418, v0_1, v458, v0_1]) rfl (szs_cons rfl (szs_cons rfl szs_nil)) (fc_cons rfl (fc_cons rfl fc_nil)) (ones_cons h425.one (ones_cons p0_1.one (ones_cons h465.one (ones_cons p0_1.one ones_nil)))) (Nat.le_of_ble_eq_true rfl)
             have els471 : Els H462 eSequent 2 [v418, v0_1, v458, v0_1] [(Sequent.mk r410 a0.right), (Sequent.mk r450 a0.right)] := (Els.snoc (H := H462) (E := eSequent) (k := 2) (c := [v458, v0_1]) (x := (Sequent.mk r450 a0.right)) (Els.snoc (H := H462) (E := eSequent) (k := 2) (c := [v418, v0_1]) (x := (Sequent.mk r410 a0.right)) Els.nil rfl ⟨_, _, rfl, (h425.mono (upI.tr (r455.run.inc.tr i464))), (p0_1.mono (((((i27.tr i74).tr r415.run.inc).tr i424).tr r455.run.inc).tr i464))⟩) rfl ⟨_, _, rfl, (h465.mono upI), (p0_1.mono (((((i27.tr i74).tr r415.run.inc).tr i424).tr r455.run.inc).tr i464))⟩)
             refine FC.val (l' := (bs 22 2097151)) rfl (by kernel_rfl) rfl rfl rfl (E.buildSlice (B2 rfl rfl) run469) ?_
             refine ⟨(SP.nil (Sl.of_inc (((r415.run.inc.tr i424).tr r455.run.inc).tr i464) S470.sl)), ?_⟩
             refine FB.t (i := 21) (bs 22 4194303) rfl (SP.nil (Sl.of_inc (((r415.run.inc.tr i424).tr r455.run.inc).tr i464) S470.sl)) rfl (fun w' hw' => (E.assign (v := v467) rfl)) ?_
             exact FB.done (by kernel_rfl) ⟨_, _, _, _, (S470.sel [0] (by decide) rfl), (((r415.run.inc.tr i424).tr r455.run.inc).tr i464), els471, rfl⟩
        ·
         obtain ⟨v435, w436, run437, S438⟩ := S386.buildSlice (P := Try.prog) te22 [Value.string y427.text] (parts := #[(0, Value.string y427.text)]) (cells := [Value.string y427.text]) rfl (szs_cons rfl szs_nil) (fc_cons rfl fc_nil) (ones_cons rfl ones_nil) (Nat.le_of_ble_eq_true rfl)
         have els439 : Els (up wa.heap.size H72) eS 1 [Value.string y427.text] [y427.text] := (Els.snoc (H := (up wa.heap.size H72)) (E := eS) (k := 1) (c := [Value.string y427.text]) (x := y427.text) Els.nil rfl rfl)
         refine FC.val (l' := (bs 22 458143)) rfl (by kernel_rfl) rfl rfl rfl (E.buildSlice (B1 rfl) run437) ?_
         refine ⟨(SP.nil S438.sl), ?_⟩
         refine FB.all1 (i := 5) (by kernel_rfl) ?_
         ·
          obtain ⟨v395, w396, run397, S398⟩ := S438.buildSlice (P := Try.prog) te22 [Value.string y387.text] (parts := #[(0, Value.string y387.text)]) (cells := [Value.string y387.text]) rfl (szs_cons rfl szs_nil) (fc_cons rfl fc_nil) (ones_cons rfl ones_nil) (Nat.le_of_ble_eq_true rfl)
          have els399 : Els (up wa.heap.size H72) eS 1 [Value.string y387.text] [y387.text] := (Els.snoc (H := (up wa.heap.size H72)) (E := eS) (k := 1) (c := [Value.string y387.text]) (x := y387.text) Els.nil rfl rfl)
          refine FC.val (l' := (bs 22 458175)) rfl (by kernel_rfl) rfl rfl rfl (E.buildSlice (B1 rfl) run397) ?_
          refine ⟨(SP.nil S398.sl), ?_⟩
          refine FB.all1 (i := 6) (by kernel_rfl) ?_
          ·
           obtain ⟨H400, S401, i402, h403, nv404⟩ := S398.sealRowU (i := 2) (l' := [.row 9 1 v395 1 [Value.string y387.text], .row 9 1 v435 1 [Value.string y427.text], .row 9 1 v67 n69 cs70]) rfl els66 (by decide) rfl
           obtain ⟨H405, S406, i407, h408, nv409⟩ := S401.sealRowU (i := 0) (l' := [.row 9 1 v435 1 [Value.string y427.text], .row 9 1 v67 n69 cs70]) rfl (els399.mono (up_mono i402)) (by decide) rfl
           refine FC.call (l' := (bs 22 458239)) rfl (by kernel_rfl) rfl rfl rfl (E.call Try.call55 (A2 rfl rfl)) (w_impl_with S406.sl v63 r40 (h403.mono (upI.tr i407)) v395 [y387.text] (h408.mono upI) hr411) ?_
           rintro e w413 ⟨H412, v418, n419, cs420, rfl, r415, els421⟩
           refine ⟨_, rfl, ?_⟩
           obtain ⟨H416, r415, hU417⟩ := St.lendX (i402.tr i407) S398.sl r415
           have els421 := els421.mono (hU417.tr (up_le S398.size))
           have S414 := S398.join (l' := [.row 9 1 v418 n419 cs420, .row 9 1 v395 1 [Value.string y387.text], .row 9 1 v435 1 [Value.string y427.text], .row 9 1 v63 n64 cs65, .row 9 1 v67 n69 cs70]) r415 rfl
           refine ⟨(SP.nil (Sl.of_inc r415.run.inc S414.sl)), ?_⟩
           obtain ⟨H422, S423, i424, h425, nv426⟩ := S414.sealRowU (i := 0) (l' := [.row 9 1 v395 1 [Value.string y387.text], .row 9 1 v435 1 [Value.string y427.text], .row 9 1 v63 n64 cs65, .row 9 1 v67 n69 cs70]) rfl els421 (by decide) rfl
           refine FB.t (i := 9) (bs 22 458751) rfl (SP.nil (Sl.of_inc r415.run.inc S414.sl)) rfl (fun w' hw' => (E.build (B2 rfl rfl) (run_build _ 28 #[(0, v418), (1, v0_1)] #[v418, v0_1] (by obtain ⟨_, _, rfl⟩ := RSl.ln (h425.mono upI); obtain ⟨_, _, rfl⟩ := RSl.ln (p0_1.mono (((i27.tr i74).tr r415.run.inc).tr i424)); rfl)))) ?_
           refine FB.all1 (i := 16) (by kernel_rfl) ?_
           ·
            obtain ⟨H440, S441, i442, h443, nv444⟩ := S423.sealRowU (i := 2) (l' := [.row 9 1 v395 1 [Value.string y387.text], .row 9 1 v435 1 [Value.string y427.text], .row 9 1 v67 n69 cs70]) rfl (els66.mono (up_mono (r415.run.inc.tr i424))) (by decide) rfl
            obtain ⟨H445, S446, i447, h448, nv449⟩ := S441.sealRowU (i := 1) (l' := [.row 9 1 v395 1 [Value.string y387.text], .row 9 1 v67 n69 cs70]) rfl (els439.mono (up_mono ((r415.run.inc.tr i424).tr i442))) (by decide) rfl
            refine FC.call (l' := (bs 22 524287)) rfl (by kernel_rfl) rfl rfl rfl (E.call Try.call55 (A2 rfl rfl)) (w_impl_with S446.sl v63 r40 (h443.mono (upI.tr i447)) v435 [y427.text] (h448.mono upI) hr451) ?_
            rintro e w453 ⟨H452, v458, n459, cs460, rfl, r455, els461⟩
            refine ⟨_, rfl, ?_⟩
            obtain ⟨H456, r455, hU457⟩ := St.lendX (i442.tr i447) S423.sl r455
            have els461 := els461.mono (hU457.tr (up_le S423.size))
            have S454 := S423.join (l' := [.row 9 1 v458 n459 cs460, .row 9 1 v395 1 [Value.string y387.text], .row 9 1 v435 1 [Value.string y427.text], .row 9 1 v63 n64 cs65, .row 9 1 v67 n69 cs70]) r455 rfl
            refine ⟨(SP.nil (Sl.of_inc ((r415.run.inc.tr i424).tr r455.run.inc) S454.sl)), ?_⟩
            obtain ⟨H462, S463, i464, h465, nv466⟩ := S454.sealRowU (i := 0) (l' := [.row 9 1 v395 1 [Value.string y387.text], .row 9 1 v435 1 [Value.string y427.text], .row 9 1 v63 n64 cs65, .row 9 1 v67 n69 cs70]) rfl els461 (by decide) rfl
            refine FB.t (i := 19) (bs 22 1048575) rfl (SP.nil (Sl.of_inc ((r415.run.inc.tr i424).tr r455.run.inc) S454.sl)) rfl (fun w' hw' => (E.build (B2 rfl rfl) (run_build _ 28 #[(0, v458), (1, v0_1)] #[v458, v0_1] (by obtain ⟨_, _, rfl⟩ := RSl.ln (h465.mono upI); obtain ⟨_, _, rfl⟩ := RSl.ln (p0_1.mono (((((i27.tr i74).tr r415.run.inc).tr i424).tr r455.run.inc).tr i464)); rfl)))) ?_
            refine FB.all1 (i := 20) (by kernel_rfl) ?_
            ·
             obtain ⟨v467, w468, run469, S470⟩ := S463.buildSlice (P := Try.prog) te61 [Value.agg #[v418, v0_1], Value.agg #[v458, v0_1]] (parts := #[(0, Value.agg #[v418, v0_1]), (1, Value.agg #[v458, v0_1])]) (cells := [v418, v0_1, v458, v0_1]) rfl (szs_cons rfl (szs_cons rfl szs_nil)) (fc_cons rfl (fc_cons rfl fc_nil)) (ones_cons h425.one (ones_cons p0_1.one (ones_cons h465.one (ones_cons p0_1.one ones_nil)))) (Nat.le_of_ble_eq_true rfl)
             have els471 : Els H462 eSequent 2 [v418, v0_1, v458, v0_1] [(Sequent.mk r410 a0.right), (Sequent.mk r450 a0.right)] := (Els.snoc (H := H462) (E := eSequent) (k := 2) (c := [v458, v0_1]) (x := (Sequent.mk r450 a0.right)) (Els.snoc (H := H462) (E := eSequent) (k := 2) (c := [v418, v0_1]) (x := (Sequent.mk r410 a0.right)) Els.nil rfl ⟨_, _, rfl, (h425.mono (upI.tr (r455.run.inc.tr i464))), (p0_1.mono (((((i27.tr i74).tr r415.run.inc).tr i424).tr r455.run.inc).tr i464))⟩) rfl ⟨_, _, rfl, (h465.mono upI), (p0_1.mono (((((i27.tr i74).tr r415.run.inc).tr i424).tr r455.run.inc).tr i464))⟩)
             refine FC.val (l' := (bs 22 2097151)) rfl (by kernel_rfl) rfl rfl rfl (E.buildSlice (B2 rfl rfl) run469) ?_
             refine ⟨(SP.nil (Sl.of_inc (((r415.run.inc.tr i424).tr r455.run.inc).tr i464) S470.sl)), ?_⟩
             refine FB.t (i := 21) (bs 22 4194303) rfl (SP.nil (Sl.of_inc (((r415.run.inc.tr i424).tr r455.run.inc).tr i464) S470.sl)) rfl (fun w' hw' => (E.assign (v := v467) rfl)) ?_
             exact FB.done (by kernel_rfl) ⟨_, _, _, _, (S470.sel [0] (by decide) rfl), (((r415.run.inc.tr i424).tr r455.run.inc).tr i464), els471, rfl⟩
       ·
        rintro f480 w479 ⟨H476, v472, n473, cs474, S477, i478, els475, k481⟩
        refine FW.ret ?_
        obtain rfl := Option.some.inj hp
        exact ⟨.inr rfl, res1 rfl k481 ⟨_, _, _, _, rfl, S477, els475⟩⟩
      ·
       refine FW.condF rfl c383 ?_
       refine FW.seq (FW.region ?_)
       refine FL.v (E.eql rfl rfl) ?_
       refine FL.v (E.assign (v := Value.bool (a1 == 7)) rfl) ?_
       refine FL.nil ?_
       rcases ifB hp with ⟨c482, hp⟩ | ⟨c482, hp⟩
       ·
        refine FW.condT rfl c482 ?_
        refine FW.seq ?_
        obtain ⟨y486, hy487, hp⟩ := bnd hp
        obtain ⟨y494, hy495, hp⟩ := bnd hp
        obtain ⟨r517, hr518, hp⟩ := bnd hp
        refine FW.drawB (Sl H72) (fun f w => ∃ H : GH, ∃ v539 : Value, ∃ n540 : Nat, ∃ cs541 : List Value, St Ha wa H w [.row 28 2 v539 n540 cs541] ∧ Inc H72 H ∧ Els H eSequent 2 cs541 [(Sequent.mk a0.left r517)] ∧ f 6 = v539) (by kernel_rfl) S91.sl ?_ ?_
        ·
         intro w483 r484
         have S485 := S91.call r484
         refine FB.t (i := 0) (bs 16 1) rfl (SP.nil S485.sl) rfl (fun w' hw' => (E.fieldAddr tf28_0 k79)) ?_
         refine FB.t (i := 1) (bs 16 3) rfl (SP.nil S485.sl) rfl (fun w' hw' => (E.load rfl (run_load1 Try.isAgg22 ((at28.mono i74).now hw') rfl))) ?_
         refine FB.t (i := 2) (bs 16 7) rfl (SP.nil S485.sl) rfl (fun w' hw' => (E.move k81)) ?_
         refine FB.t (i := 3) (bs 16 15) rfl (SP.nil S485.sl) rfl (fun w' hw' => (E.move (v := v86) rfl)) ?_
         obtain ⟨q488, v490, v491, rfl, at489, h492, h493⟩ := FAt.open h88 hy487
         refine FB.t (i := 4) (bs 16 31) rfl (SP.nil S485.sl) rfl (fun w' hw' => (E.nilCheck rfl)) ?_
         refine FB.t (i := 5) (bs 16 63) rfl (SP.nil S485.sl) rfl (fun w' hw' => (E.fieldAddr tf68_3 rfl)) ?_
         refine FB.t (i := 6) (bs 16 127) rfl (SP.nil S485.sl) rfl (fun w' hw' => (E.load rfl (run_load1 Try.isAgg9 (at489.now hw') rfl))) ?_
         refine FB.t (i := 7) (bs 16 255) rfl (SP.nil S485.sl) rfl (fun w' hw' => (E.move (v := v87) rfl)) ?_
         obtain ⟨q496, v498, v499, rfl, at497, h500, h501⟩ := FAt.open h89 hy495
         refine FB.t (i := 8) (bs 16 511) rfl (SP.nil S485.sl) rfl (fun w' hw' => (E.nilCheck rfl)) ?_
         refine FB.t (i := 9) (bs 16 1023) rfl (SP.nil S485.sl) rfl (fun w' hw' => (E.fieldAddr tf68_3 rfl)) ?_
         refine FB.t (i := 10) (bs 16 2047) rfl (SP.nil S485.sl) rfl (fun w' hw' => (E.load rfl (run_load1 Try.isAgg9 (at497.now hw') rfl))) ?_
         refine FB.all1 (i := 11) (by kernel_rfl) ?_
         ·
          obtain ⟨v502, w503, run504, S505⟩ := S485.buildSlice (P := Try.prog) te22 [Value.string y486.text, Value.string y494.text] (parts := #[(0, Value.string y486.text), (1, Value.string y494.text)]) (cells := [Value.string y486.text, Value.string y494.text]) rfl (szs_cons rfl (szs_cons rfl szs_nil)) (fc_cons rfl (fc_cons rfl fc_nil)) (ones_cons rfl (ones_cons rfl ones_nil)) (Nat.le_of_ble_eq_true rfl)
          have els506 : Els (up wa.heap.size H72) eS 1 [Value.string y486.text, Value.string y494.text] [y486.text, y494.text] := (Els.snoc (H := (up wa.heap.size H72)) (E := eS) (k := 1) (c := [Value.string y494.text]) (x := y494.text) (Els.snoc (H := (up wa.heap.size H72)) (E := eS) (k := 1) (c := [Value.string y486.text]) (x := y486.text) Els.nil rfl rfl) rfl rfl)
          refine FC.val (l' := (bs 16 4095)) rfl (by kernel_rfl) rfl rfl rfl (E.buildSlice (B2 rfl rfl) run504) ?_
          refine ⟨(SP.nil S505.sl), ?_⟩
          refine FB.all1 (i := 12) (by kernel_rfl) ?_
          ·
           obtain ⟨H507, S508, i509, h510, nv511⟩ := S505.sealRowU (i := 2) (l' := [.row 9 1 v502 2 [Value.string y486.text, Value.string y494.text], .row 9 1 v63 n64 cs65]) rfl els71 (by decide) rfl
           obtain ⟨H512, S513, i514, h515, nv516⟩ := S508.sealRowU (i := 0) (l' := [.row 9 1 v63 n64 cs65]) rfl (els506.mono (up_mono i509)) (by decide) rfl
           refine FC.call (l' := (bs 16 8191)) rfl (by kernel_rfl) rfl rfl rfl (E.call Try.call55 (A2 rfl rfl)) (w_impl_with S513.sl v67 r50 (h510.mono (upI.tr i514)) v502 [y486.text, y494.text] (h515.mono upI) hr518) ?_
           rintro e w520 ⟨H519, v525, n526, cs527, rfl, r522, els528⟩
           refine ⟨_, rfl, ?_⟩
           obtain ⟨H523, r522, hU524⟩ := St.lendX (i509.tr i514) S505.sl r522
           have els528 := els528.mono (hU524.tr (up_le S505.size))
           have S521 := S505.join (l' := [.row 9 1 v525 n526 cs527, .row 9 1 v502 2 [Value.string y486.text, Value.string y494.text], .row 9 1 v63 n64 cs65, .row 9 1 v67 n69 cs70]) r522 rfl
           refine ⟨(SP.nil (Sl.of_inc r522.run.inc S521.sl)), ?_⟩
           obtain ⟨H529, S530, i531, h532, nv533⟩ := S521.sealRowU (i := 0) (l' := [.row 9 1 v502 2 [Value.string y486.text, Value.string y494.text], .row 9 1 v63 n64 cs65, .row 9 1 v67 n69 cs70]) rfl els528 (by decide) rfl
           refine FB.t (i := 13) (bs 16 16383) rfl (SP.nil (Sl.of_inc r522.run.inc S521.sl)) rfl (fun w' hw' => (E.build (B2 rfl rfl) (run_build _ 28 #[(0, v0_0), (1, v525)] #[v0_0, v525] (by obtain ⟨_, _, rfl⟩ := RSl.ln (p0_0.mono (((i27.tr i74).tr r522.run.inc).tr i531)); obtain ⟨_, _, rfl⟩ := RSl.ln (h532.mono upI); rfl)))) ?_
           refine FB.all1 (i := 14) (by kernel_rfl) ?_
           ·
            obtain ⟨v534, w535, run536, S537⟩ := S530.buildSlice (P := Try.prog) te61 [Value.agg #[v0_0, v525]] (parts := #[(0, Value.agg #[v0_0, v525])]) (cells := [v0_0, v525]) rfl (szs_cons rfl szs_nil) (fc_cons rfl fc_nil) (ones_cons p0_0.one (ones_cons h532.one ones_nil)) (Nat.le_of_ble_eq_true rfl)
            have els538 : Els H529 eSequent 2 [v0_0, v525] [(Sequent.mk a0.left r517)] := (Els.snoc (H := H529) (E := eSequent) (k := 2) (c := [v0_0, v525]) (x := (Sequent.mk a0.left r517)) Els.nil rfl ⟨_, _, rfl, (p0_0.mono (((i27.tr i74).tr r522.run.inc).tr i531)), (h532.mono upI)⟩)
            refine FC.val (l' := (bs 16 32767)) rfl (by kernel_rfl) rfl rfl rfl (E.buildSlice (B1 rfl) run536) ?_
            refine ⟨(SP.nil (Sl.of_inc (r522.run.inc.tr i531) S537.sl)), ?_⟩
            refine FB.t (i := 15) (bs 16 65535) rfl (SP.nil (Sl.of_inc (r522.run.inc.tr i531) S537.sl)) rfl (fun w' hw' => (E.assign (v := v534) rfl)) ?_
            exact FB.done (by kernel_rfl) ⟨_, _, _, _, (S537.sel [0] (by decide) rfl), (r522.run.inc.tr i531), els538, rfl⟩
        ·
         rintro f547 w546 ⟨H543, v539, n540, cs541, S544, i545, els542, k548⟩
         refine FW.ret ?_
         obtain rfl := Option.some.inj hp
         exact ⟨.inr rfl, res1 rfl k548 ⟨_, _, _, _, rfl, S544, els542⟩⟩
       ·
        refine FW.condF rfl c482 ?_
        refine FW.seq (FW.region ?_)
        refine FL.v (E.eql rfl rfl) ?_
        refine FL.v (E.assign (v := Value.bool (a1 == 8)) rfl) ?_
        refine FL.nil ?_
        rcases ifB hp with ⟨c549, hp⟩ | ⟨c549, hp⟩
        ·
         refine FW.condT rfl c549 ?_
         refine FW.seq ?_
         obtain ⟨y553, hy554, hp⟩ := bnd hp
         obtain ⟨r571, hr572, hp⟩ := bnd hp
         obtain ⟨y593, hy594, hp⟩ := bnd hp
         obtain ⟨r611, hr612, hp⟩ := bnd hp
         refine FW.drawB (Sl H72) (fun f w => ∃ H : GH, ∃ v633 : Value, ∃ n634 : Nat, ∃ cs635 : List Value, St Ha wa H w [.row 28 2 v633 n634 cs635] ∧ Inc H72 H ∧ Els H eSequent 2 cs635 [(Sequent.mk r40 r571), (Sequent.mk r611 a0.right)] ∧ f 6 = v633) (by kernel_rfl) S91.sl ?_ ?_
         ·
          intro w550 r551
          have S552 := S91.call r551
          refine FB.t (i := 0) (bs 22 1) rfl (SP.nil S552.sl) rfl (fun w' hw' => (E.move k80)) ?_
          refine FB.t (i := 1) (bs 22 3) rfl (SP.nil S552.sl) rfl (fun w' hw' => (E.fieldAddr tf28_1 k79)) ?_
          refine FB.t (i := 2) (bs 22 7) rfl (SP.nil S552.sl) rfl (fun w' hw' => (E.load rfl (run_load1 Try.isAgg22 ((at28.mono i74).now hw') rfl))) ?_
          refine FB.t (i := 3) (bs 22 15) rfl (SP.nil S552.sl) rfl (fun w' hw' => (E.move (v := v86) rfl)) ?_
          obtain ⟨q555, v557, v558, rfl, at556, h559, h560⟩ := FAt.open h88 hy554
          refine FB.t (i := 4) (bs 22 31) rfl (SP.nil S552.sl) rfl (fun w' hw' => (E.nilCheck rfl)) ?_
          refine FB.t (i := 5) (bs 22 63) rfl (SP.nil S552.sl) rfl (fun w' hw' => (E.fieldAddr tf68_3 rfl)) ?_
          refine FB.t (i := 6) (bs 22 127) rfl (SP.nil S552.sl) rfl (fun w' hw' => (E.load rfl (run_load1 Try.isAgg9 (at556.now hw') rfl))) ?_
          refine FB.t (i := 10) (bs 22 1151) rfl (SP.nil S552.sl) rfl (fun w' hw' => (E.move k80)) ?_
          refine FB.t (i := 11) (bs 22 3199) rfl (SP.nil S552.sl) rfl (fun w' hw' => (E.move (v := v87) rfl)) ?_
          obtain ⟨q595, v597, v598, rfl, at596, h599, h600⟩ := FAt.open h89 hy594
          refine FB.t (i := 12) (bs 22 7295) rfl (SP.nil S552.sl) rfl (fun w' hw' => (E.nilCheck rfl)) ?_
          refine FB.t (i := 13) (bs 22 15487) rfl (SP.nil S552.sl) rfl (fun w' hw' => (E.fieldAddr tf68_3 rfl)) ?_
          refine FB.t (i := 14) (bs 22 31871) rfl (SP.nil S552.sl) rfl (fun w' hw' => (E.load rfl (run_load1 Try.isAgg9 (at596.now hw') rfl))) ?_
          refine FB.t (i := 17) (bs 22 162943) rfl (SP.nil S552.sl) rfl (fun w' hw' => (E.fieldAddr tf28_1 k79)) ?_
          refine FB.t (i := 18) (bs 22 425087) rfl (SP.nil S552.sl) rfl (fun w' hw' => (E.load rfl (run_load1 Try.isAgg22 ((at28.mono i74).now hw') rfl))) ?_
          refine FB.all2 (i := 7) (j := 15) (by kernel_rfl) ?_ ?_
          ·
           obtain ⟨v561, w562, run563, S564⟩ := S552.buildSlice (P := Try.prog) te22 [Value.string y553.text] (parts := #[(0, Value.string y553.text)]) (cells := [Value.string y553.text]) rfl (szs_cons rfl szs_nil) (fc_cons rfl fc_nil) (ones_cons rfl ones_nil) (Nat.le_of_ble_eq_true rfl)
           have els565 : Els (up wa.heap.size H72) eS 1 [Value.string y553.text] [y553.text] := (Els.snoc (H := (up wa.heap.size H72)) (E := eS) (k := 1) (c := [Value.string y553.text]) (x := y553.text) Els.nil rfl rfl)
           refine FC.val (l' := (bs 22 425215)) rfl (by kernel_rfl) rfl rfl rfl (E.buildSlice (B1 rfl) run563) ?_
           refine ⟨(SP.nil S564.sl), ?_⟩
           refine FB.all2 (i := 8) (j := 15) (by kernel_rfl) ?_ ?_
           ·
            obtain ⟨H566, S567, i568, h569, nv570⟩ := S564.sealRowU (i := 0) (l' := [.row 9 1 v63 n64 cs65, .row 9 1 v67 n69 cs70]) rfl els565 (by decide) rfl
            refine FC.call (l' := (bs 22 425471)) rfl (by kernel_rfl) rfl rfl rfl (E.call Try.call55 (A2 rfl rfl)) (w_impl_with S567.sl v0_1 a0.right (p0_1.mono ((i27.tr i74).tr i568)) v561 [y553.text] (h569.mono upI) hr572) ?_
            rintro e w574 ⟨H573, v579, n580, cs581, rfl, r576, els582⟩
            refine ⟨_, rfl, ?_⟩
            obtain ⟨H577, r576, hU578⟩ := St.lendX i568 S564.sl r576
            have els582 := els582.mono (hU578.tr (up_le S564.size))
            have S575 := S564.join (l' := [.row 9 1 v579 n580 cs581, .row 9 1 v561 1 [Value.string y553.text], .row 9 1 v63 n64 cs65, .row 9 1 v67 n69 cs70]) r576 rfl
            refine ⟨(SP.nil (Sl.of_inc r576.run.inc S575.sl)), ?_⟩
            obtain ⟨H583, S584, i585, h586, nv587⟩ := S575.sealRowU (i := 2) (l' := [.row 9 1 v579 n580 cs581, .row 9 1 v561 1 [Value.string y553.text], .row 9 1 v67 n69 cs70]) rfl (els66.mono (up_mono r576.run.inc)) (by decide) rfl
            obtain ⟨H588, S589, i590, h591, nv592⟩ := S584.sealRowU (i := 0) (l' := [.row 9 1 v561 1 [Value.string y553.text], .row 9 1 v67 n69 cs70]) rfl (els582.mono (up_mono i585)) (by decide) rfl
            refine FB.t (i := 9) (bs 22 425983) rfl (SP.nil (Sl.of_inc r576.run.inc S575.sl)) rfl (fun w' hw' => (E.build (B2 rfl rfl) (run_build _ 28 #[(0, v63), (1, v579)] #[v63, v579] (by obtain ⟨_, _, rfl⟩ := RSl.ln (h586.mono (upI.tr i590)); obtain ⟨_, _, rfl⟩ := RSl.ln (h591.mono upI); rfl)))) ?_
            refine FB.all1 (i := 15) (by kernel_rfl) ?_
            ·
             obtain ⟨v601, w602, run603, S604⟩ := S589.buildSlice (P := Try.prog) te22 [Value.string y593.text] (parts := #[(0, Value.string y593.text)]) (cells := [Value.string y593.text]) rfl (szs_cons rfl szs_nil) (fc_cons rfl fc_nil) (ones_cons rfl ones_nil) (Nat.le_of_ble_eq_true rfl)
             have els605 : Els (up wa.heap.size H588) eS 1 [Value.string y593.text] [y593.text] := (Els.snoc (H := (up wa.heap.size H588)) (E := eS) (k := 1) (c := [Value.string y593.text]) (x := y593.text) Els.nil rfl rfl)
             refine FC.val (l' := (bs 22 458751)) rfl (by kernel_rfl) rfl rfl rfl (E.buildSlice (B1 rfl) run603) ?_
             refine ⟨(SP.nil (Sl.of_inc ((r576.run.inc.tr i585).tr i590) S604.sl)), ?_⟩
             refine FB.all1 (i := 16) (by kernel_rfl) ?_
             ·
              obtain ⟨H606, S607, i608, h609, nv610⟩ := S604.sealRowU (i := 0) (l' := [.row 9 1 v561 1 [Value.string y553.text], .row 9 1 v67 n69 cs70]) rfl els605 (by decide) rfl
              refine FC.call (l' := (bs 22 524287)) rfl (by kernel_rfl) rfl rfl rfl (E.call Try.call55 (A2 rfl rfl)) (w_impl_with S607.sl v63 r40 (h586.mono (upI.tr (i590.tr i608))) v601 [y593.text] (h609.mono upI) hr612) ?_
              rintro e w614 ⟨H613, v619, n620, cs621, rfl, r616, els622⟩
              refine ⟨_, rfl, ?_⟩
              obtain ⟨H617, r616, hU618⟩ := St.lendX i608 S604.sl r616
              have els622 := els622.mono (hU618.tr (up_le S604.size))
              have S615 := S604.join (l' := [.row 9 1 v619 n620 cs621, .row 9 1 v601 1 [Value.string y593.text], .row 9 1 v561 1 [Value.string y553.text], .row 9 1 v67 n69 cs70]) r616 rfl
              refine ⟨(SP.nil (Sl.of_inc (((r576.run.inc.tr i585).tr i590).tr r616.run.inc) S615.sl)), ?_⟩
              obtain ⟨H623, S624, i625, h626, nv627⟩ := S615.sealRowU (i := 0) (l' := [.row 9 1 v601 1 [Value.string y593.text], .row 9 1 v561 1 [Value.string y553.text], .row 9 1 v67 n69 cs70]) rfl els622 (by decide) rfl
              refine FB.t (i := 19) (bs 22 1048575) rfl (SP.nil (Sl.of_inc (((r576.run.inc.tr i585).tr i590).tr r616.run.inc) S615.sl)) rfl (fun w' hw' => (E.build (B2 rfl rfl) (run_build _ 28 #[(0, v619), (1, v0_1)] #[v619, v0_1] (by obtain ⟨_, _, rfl⟩ := RSl.ln (h626.mono upI); obtain ⟨_, _, rfl⟩ := RSl.ln (p0_1.mono ((((((i27.tr i74).tr r576.run.inc).tr i585).tr i590).tr r616.run.inc).tr i625)); rfl)))) ?_
              refine FB.all1 (i := 20) (by kernel_rfl) ?_
              ·
               obtain ⟨v628, w629, run630, S631⟩ := S624.buildSlice (P := Try.prog) te61 [Value.agg #[v63, v579], Value.agg #[v619, v0_1]] (parts := #[(0, Value.agg #[v63, v579]), (1, Value.agg #[v619, v0_1])]) (cells := [v63, v579, v619, v0_1]) rfl (szs_cons rfl (szs_cons rfl szs_nil)) (fc_cons rfl (fc_cons rfl fc_nil)) (ones_cons h586.one (ones_cons h591.one (ones_cons h626.one (ones_cons p0_1.one ones_nil)))) (Nat.le_of_ble_eq_true rfl)
               have els632 : Els H623 eSequent 2 [v63, v579, v619, v0_1] [(Sequent.mk r40 r571), (Sequent.mk r611 a0.right)] := (Els.snoc (H := H623) (E := eSequent) (k := 2) (c := [v619, v0_1]) (x := (Sequent.mk r611 a0.right)) (Els.snoc (H := H623) (E := eSequent) (k := 2) (c := [v63, v579]) (x := (Sequent.mk r40 r571)) Els.nil rfl ⟨_, _, rfl, (h586.mono (upI.tr ((i590.tr r616.run.inc).tr i625))), (h591.mono (upI.tr (r616.run.inc.tr i625)))⟩) rfl ⟨_, _, rfl, (h626.mono upI), (p0_1.mono ((((((i27.tr i74).tr r576.run.inc).tr i585).tr i590).tr r616.run.inc).tr i625))⟩)
               refine FC.val (l' := (bs 22 2097151)) rfl (by kernel_rfl) rfl rfl rfl (E.buildSlice (B2 rfl rfl) run630) ?_
               refine ⟨(SP.nil (Sl.of_inc ((((r576.run.inc.tr i585).tr i590).tr r616.run.inc).tr i625) S631.sl)), ?_⟩
               refine FB.t (i := 21) (bs 22 4194303) rfl (SP.nil (Sl.of_inc ((((r576.run.inc.tr i585).tr i590).tr r616.run.inc).tr i625) S631.sl)) rfl (fun w' hw' => (E.assign (v := v628) rfl)) ?_
               exact FB.done (by kernel_rfl) ⟨_, _, _, _, (S631.sel [0] (by decide) rfl), ((((r576.run.inc.tr i585).tr i590).tr r616.run.inc).tr i625), els632, rfl⟩
           ·
            obtain ⟨v601, w602, run603, S604⟩ := S564.buildSlice (P := Try.prog) te22 [Value.string y593.text] (parts := #[(0, Value.string y593.text)]) (cells := [Value.string y593.text]) rfl (szs_cons rfl szs_nil) (fc_cons rfl fc_nil) (ones_cons rfl ones_nil) (Nat.le_of_ble_eq_true rfl)
            have els605 : Els (up wa.heap.size H72) eS 1 [Value.string y593.text] [y593.text] := (Els.snoc (H := (up wa.heap.size H72)) (E := eS) (k := 1) (c := [Value.string y593.text]) (x := y593.text) Els.nil rfl rfl)
            refine FC.val (l' := (bs 22 457983)) rfl (by kernel_rfl) rfl rfl rfl (E.buildSlice (B1 rfl) run603) ?_
            refine ⟨(SP.nil S604.sl), ?_⟩
            refine FB.all1 (i := 8) (by kernel_rfl) ?_
            ·
             obtain ⟨H566, S567, i568, h569, nv570⟩ := S604.sealRowU (i := 1) (l' := [.row 9 1 v601 1 [Value.string y593.text], .row 9 1 v63 n64 cs65, .row 9 1 v67 n69 cs70]) rfl els565 (by decide) rfl
             refine FC.call (l' := (bs 22 458239)) rfl (by kernel_rfl) rfl rfl rfl (E.call Try.call55 (A2 rfl rfl)) (w_impl_with S567.sl v0_1 a0.right (p0_1.mono ((i27.tr i74).tr i568)) v561 [y553.text] (h569.mono upI) hr572) ?_
             rintro e w574 ⟨H573, v579, n580, cs581, rfl, r576, els582⟩
             refine ⟨_, rfl, ?_⟩
             obtain ⟨H577, r576, hU578⟩ := St.lendX i568 S604.sl r576
             have els582 := els582.mono (hU578.tr (up_le S604.size))
             have S575 := S604.join (l' := [.row 9 1 v579 n580 cs581, .row 9 1 v601 1 [Value.string y593.text], .row 9 1 v561 1 [Value.string y553.text], .row 9 1 v63 n64 cs65, .row 9 1 v67 n69 cs70]) r576 rfl
             refine ⟨(SP.nil (Sl.of_inc r576.run.inc S575.sl)), ?_⟩
             obtain ⟨H583, S584, i585, h586, nv587⟩ := S575.sealRowU (i := 3) (l' := [.row 9 1 v579 n580 cs581, .row 9 1 v601 1 [Value.string y593.text], .row 9 1 v561 1 [Value.string y553.text], .row 9 1 v67 n69 cs70]) rfl (els66.mono (up_mono r576.run.inc)) (by decide) rfl
             obtain ⟨H588, S589, i590, h591, nv592⟩ := S584.sealRowU (i := 0) (l' := [.row 9 1 v601 1 [Value.string y593.text], .row 9 1 v561 1 [Value.string y553.text], .row 9 1 v67 n69 cs70]) rfl (els582.mono (up_mono i585)) (by decide) rfl
             refine FB.t (i := 9) (bs 22 458751) rfl (SP.nil (Sl.of_inc r576.run.inc S575.sl)) rfl (fun w' hw' => (E.build (B2 rfl rfl) (run_build _ 28 #[(0, v63), (1, v579)] #[v63, v579] (by obtain ⟨_, _, rfl⟩ := RSl.ln (h586.mono (upI.tr i590)); obtain ⟨_, _, rfl⟩ := RSl.ln (h591.mono upI); rfl)))) ?_
             refine FB.all1 (i := 16) (by kernel_rfl) ?_
             ·
              obtain ⟨H606, S607, i608, h609, nv610⟩ := S589.sealRowU (i := 0) (l' := [.row 9 1 v561 1 [Value.string y553.text], .row 9 1 v67 n69 cs70]) rfl (els605.mono (up_mono ((r576.run.inc.tr i585).tr i590))) (by decide) rfl
              refine FC.call (l' := (bs 22 524287)) rfl (by kernel_rfl) rfl rfl rfl (E.call Try.call55 (A2 rfl rfl)) (w_impl_with S607.sl v63 r40 (h586.mono (upI.tr (i590.tr i608))) v601 [y593.text] (h609.mono upI) hr612) ?_
              rintro e w614 ⟨H613, v619, n620, cs621, rfl, r616, els622⟩
              refine ⟨_, rfl, ?_⟩
              obtain ⟨H617, r616, hU618⟩ := St.lendX i608 S589.sl r616
              have els622 := els622.mono (hU618.tr (up_le S589.size))
              have S615 := S589.join (l' := [.row 9 1 v619 n620 cs621, .row 9 1 v601 1 [Value.string y593.text], .row 9 1 v561 1 [Value.string y553.text], .row 9 1 v67 n69 cs70]) r616 rfl
              refine ⟨(SP.nil (Sl.of_inc (((r576.run.inc.tr i585).tr i590).tr r616.run.inc) S615.sl)), ?_⟩
              obtain ⟨H623, S624, i625, h626, nv627⟩ := S615.sealRowU (i := 0) (l' := [.row 9 1 v601 1 [Value.string y593.text], .row 9 1 v561 1 [Value.string y553.text], .row 9 1 v67 n69 cs70]) rfl els622 (by decide) rfl
              refine FB.t (i := 19) (bs 22 1048575) rfl (SP.nil (Sl.of_inc (((r576.run.inc.tr i585).tr i590).tr r616.run.inc) S615.sl)) rfl (fun w' hw' => (E.build (B2 rfl rfl) (run_build _ 28 #[(0, v619), (1, v0_1)] #[v619, v0_1] (by obtain ⟨_, _, rfl⟩ := RSl.ln (h626.mono upI); obtain ⟨_, _, rfl⟩ := RSl.ln (p0_1.mono ((((((i27.tr i74).tr r576.run.inc).tr i585).tr i590).tr r616.run.inc).tr i625)); rfl)))) ?_
              refine FB.all1 (i := 20) (by kernel_rfl) ?_
              ·
               obtain ⟨v628, w629, run630, S631⟩ := S624.buildSlice (P := Try.prog) te61 [Value.agg #[v63, v579], Value.agg #[v619, v0_1]] (parts := #[(0, Value.agg #[v63, v579]), (1, Value.agg #[v619, v0_1])]) (cells := [v63, v579, v619, v0_1]) rfl (szs_cons rfl (szs_cons rfl szs_nil)) (fc_cons rfl (fc_cons rfl fc_nil)) (ones_cons h586.one (ones_cons h591.one (ones_cons h626.one (ones_cons p0_1.one ones_nil)))) (Nat.le_of_ble_eq_true rfl)
               have els632 : Els H623 eSequent 2 [v63, v579, v619, v0_1] [(Sequent.mk r40 r571), (Sequent.mk r611 a0.right)] := (Els.snoc (H := H623) (E := eSequent) (k := 2) (c := [v619, v0_1]) (x := (Sequent.mk r611 a0.right)) (Els.snoc (H := H623) (E := eSequent) (k := 2) (c := [v63, v579]) (x := (Sequent.mk r40 r571)) Els.nil rfl ⟨_, _, rfl, (h586.mono (upI.tr ((i590.tr r616.run.inc).tr i625))), (h591.mono (upI.tr (r616.run.inc.tr i625)))⟩) rfl ⟨_, _, rfl, (h626.mono upI), (p0_1.mono ((((((i27.tr i74).tr r576.run.inc).tr i585).tr i590).tr r616.run.inc).tr i625))⟩)
               refine FC.val (l' := (bs 22 2097151)) rfl (by kernel_rfl) rfl rfl rfl (E.buildSlice (B2 rfl rfl) run630) ?_
               refine ⟨(SP.nil (Sl.of_inc ((((r576.run.inc.tr i585).tr i590).tr r616.run.inc).tr i625) S631.sl)), ?_⟩
               refine FB.t (i := 21) (bs 22 4194303) rfl (SP.nil (Sl.of_inc ((((r576.run.inc.tr i585).tr i590).tr r616.run.inc).tr i625) S631.sl)) rfl (fun w' hw' => (E.assign (v := v628) rfl)) ?_
               exact FB.done (by kernel_rfl) ⟨_, _, _, _, (S631.sel [0] (by decide) rfl), ((((r576.run.inc.tr i585).tr i590).tr r616.run.inc).tr i625), els632, rfl⟩
          ·
           obtain ⟨v601, w602, run603, S604⟩ := S552.buildSlice (P := Try.prog) te22 [Value.string y593.text] (parts := #[(0, Value.string y593.text)]) (cells := [Value.string y593.text]) rfl (szs_cons rfl szs_nil) (fc_cons rfl fc_nil) (ones_cons rfl ones_nil) (Nat.le_of_ble_eq_true rfl)
           have els605 : Els (up wa.heap.size H72) eS 1 [Value.string y593.text] [y593.text] := (Els.snoc (H := (up wa.heap.size H72)) (E := eS) (k := 1) (c := [Value.string y593.text]) (x := y593.text) Els.nil rfl rfl)
           refine FC.val (l' := (bs 22 457855)) rfl (by kernel_rfl) rfl rfl rfl (E.buildSlice (B1 rfl) run603) ?_
           refine ⟨(SP.nil S604.sl), ?_⟩
           refine FB.all1 (i := 7) (by kernel_rfl) ?_
           ·
            obtain ⟨v561, w562, run563, S564⟩ := S604.buildSlice (P := Try.prog) te22 [Value.string y553.text] (parts := #[(0, Value.string y553.text)]) (cells := [Value.string y553.text]) rfl (szs_cons rfl szs_nil) (fc_cons rfl fc_nil) (ones_cons rfl ones_nil) (Nat.le_of_ble_eq_true rfl)
            have els565 : Els (up wa.heap.size H72) eS 1 [Value.string y553.text] [y553.text] := (Els.snoc (H := (up wa.heap.size H72)) (E := eS) (k := 1) (c := [Value.string y553.text]) (x := y553.text) Els.nil rfl rfl)
            refine FC.val (l' := (bs 22 457983)) rfl (by kernel_rfl) rfl rfl rfl (E.buildSlice (B1 rfl) run563) ?_
            refine ⟨(SP.nil S564.sl), ?_⟩
            refine FB.all1 (i := 8) (by kernel_rfl) ?_
            ·
             obtain ⟨H566, S567, i568, h569, nv570⟩ := S564.sealRowU (i := 0) (l' := [.row 9 1 v601 1 [Value.string y593.text], .row 9 1 v63 n64 cs65, .row 9 1 v67 n69 cs70]) rfl els565 (by decide) rfl
             refine FC.call (l' := (bs 22 458239)) rfl (by kernel_rfl) rfl rfl rfl (E.call Try.call55 (A2 rfl rfl)) (w_impl_with S567.sl v0_1 a0.right (p0_1.mono ((i27.tr i74).tr i568)) v561 [y553.text] (h569.mono upI) hr572) ?_
             rintro e w574 ⟨H573, v579, n580, cs581, rfl, r576, els582⟩
             refine ⟨_, rfl, ?_⟩
             obtain ⟨H577, r576, hU578⟩ := St.lendX i568 S564.sl r576
             have els582 := els582.mono (hU578.tr (up_le S564.size))
             have S575 := S564.join (l' := [.row 9 1 v579 n580 cs581, .row 9 1 v561 1 [Value.string y553.text], .row 9 1 v601 1 [Value.string y593.text], .row 9 1 v63 n64 cs65, .row 9 1 v67 n69 cs70]) r576 rfl
             refine ⟨(SP.nil (Sl.of_inc r576.run.inc S575.sl)), ?_⟩
             obtain ⟨H583, S584, i585, h586, nv587⟩ := S575.sealRowU (i := 3) (l' := [.row 9 1 v579 n580 cs581, .row 9 1 v561 1 [Value.string y553.text], .row 9 1 v601 1 [Value.string y593.text], .row 9 1 v67 n69 cs70]) rfl (els66.mono (up_mono r576.run.inc)) (by decide) rfl
             obtain ⟨H588, S589, i590, h591, nv592⟩ := S584.sealRowU (i := 0) (l' := [.row 9 1 v561 1 [Value.string y553.text], .row 9 1 v601 1 [Value.string y593.text], .row 9 1 v67 n69 cs70]) rfl (els582.mono (up_mono i585)) (by decide) rfl
             refine FB.t (i := 9) (bs 22 458751) rfl (SP.nil (Sl.of_inc r576.run.inc S575.sl)) rfl (fun w' hw' => (E.build (B2 rfl rfl) (run_build _ 28 #[(0, v63), (1, v579)] #[v63, v579] (by obtain ⟨_, _, rfl⟩ := RSl.ln (h586.mono (upI.tr i590)); obtain ⟨_, _, rfl⟩ := RSl.ln (h591.mono upI); rfl)))) ?_
             refine FB.all1 (i := 16) (by kernel_rfl) ?_
             ·
              obtain ⟨H606, S607, i608, h609, nv610⟩ := S589.sealRowU (i := 1) (l' := [.row 9 1 v561 1 [Value.string y553.text], .row 9 1 v67 n69 cs70]) rfl (els605.mono (up_mono ((r576.run.inc.tr i585).tr i590))) (by decide) rfl
              refine FC.call (l' := (bs 22 524287)) rfl (by kernel_rfl) rfl rfl rfl (E.call Try.call55 (A2 rfl rfl)) (w_impl_with S607.sl v63 r40 (h586.mono (upI.tr (i590.tr i608))) v601 [y593.text] (h609.mono upI) hr612) ?_
              rintro e w614 ⟨H613, v619, n620, cs621, rfl, r616, els622⟩
              refine ⟨_, rfl, ?_⟩
              obtain ⟨H617, r616, hU618⟩ := St.lendX i608 S589.sl r616
              have els622 := els622.mono (hU618.tr (up_le S589.size))
              have S615 := S589.join (l' := [.row 9 1 v619 n620 cs621, .row 9 1 v561 1 [Value.string y553.text], .row 9 1 v601 1 [Value.string y593.text], .row 9 1 v67 n69 cs70]) r616 rfl
              refine ⟨(SP.nil (Sl.of_inc (((r576.run.inc.tr i585).tr i590).tr r616.run.inc) S615.sl)), ?_⟩
              obtain ⟨H623, S624, i625, h626, nv627⟩ := S615.sealRowU (i := 0) (l' := [.row 9 1 v561 1 [Value.string y553.text], .row 9 1 v601 1 [Value.string y593.text], .row 9 1 v67 n69 cs70]) rfl els622 (by decide) rfl
              refine FB.t (i := 19) (bs 22 1048575) rfl (SP.nil (Sl.of_inc (((r576.run.inc.tr i585).tr i590).tr r616.run.inc) S615.sl)) rfl (fun w' hw' => (E.build (B2 rfl rfl) (run_build _ 28 #[(0, v619), (1, v0_1)] #[v619, v0_1] (by obtain ⟨_, _, rfl⟩ := RSl.ln (h626.mono upI); obtain ⟨_, _, rfl⟩ := RSl.ln (p0_1.mono ((((((i27.tr i74).tr r576.run.inc).tr i585).tr i590).tr r616.run.inc).tr i625)); rfl)))) ?_
              refine FB.all1 (i := 20) (by kernel_rfl) ?_
              ·
               obtain ⟨v628, w629, run630, S631⟩ := S624.buildSlice (P := Try.prog) te61 [Value.agg #[v63, v579], Value.agg #[v619, v0_1]] (parts := #[(0, Value.agg #[v63, v579]), (1, Value.agg #[v619, v0_1])]) (cells := [v63, v579, v619, v0_1]) rfl (szs_cons rfl (szs_cons rfl szs_nil)) (fc_cons rfl (fc_cons rfl fc_nil)) (ones_cons h586.one (ones_cons h591.one (ones_cons h626.one (ones_cons p0_1.one ones_nil)))) (Nat.le_of_ble_eq_true rfl)
               have els632 : Els H623 eSequent 2 [v63, v579, v619, v0_1] [(Sequent.mk r40 r571), (Sequent.mk r611 a0.right)] := (Els.snoc (H := H623) (E := eSequent) (k := 2) (c := [v619, v0_1]) (x := (Sequent.mk r611 a0.right)) (Els.snoc (H := H623) (E := eSequent) (k := 2) (c := [v63, v579]) (x := (Sequent.mk r40 r571)) Els.nil rfl ⟨_, _, rfl, (h586.mono (upI.tr ((i590.tr r616.run.inc).tr i625))), (h591.mono (upI.tr (r616.run.inc.tr i625)))⟩) rfl ⟨_, _, rfl, (h626.mono upI), (p0_1.mono ((((((i27.tr i74).tr r576.run.inc).tr i585).tr i590).tr r616.run.inc).tr i625))⟩)
               refine FC.val (l' := (bs 22 2097151)) rfl (by kernel_rfl) rfl rfl rfl (E.buildSlice (B2 rfl rfl) run630) ?_
               refine ⟨(SP.nil (Sl.of_inc ((((r576.run.inc.tr i585).tr i590).tr r616.run.inc).tr i625) S631.sl)), ?_⟩
               refine FB.t (i := 21) (bs 22 4194303) rfl (SP.nil (Sl.of_inc ((((r576.run.inc.tr i585).tr i590).tr r616.run.inc).tr i625) S631.sl)) rfl (fun w' hw' => (E.assign (v := v628) rfl)) ?_
               exact FB.done (by kernel_rfl) ⟨_, _, _, _, (S631.sel [0] (by decide) rfl), ((((r576.run.inc.tr i585).tr i590).tr r616.run.inc).tr i625), els632, rfl⟩
         ·
          rintro f641 w640 ⟨H637, v633, n634, cs635, S638, i639, els636, k642⟩
          refine FW.ret ?_
          obtain rfl := Option.some.inj hp
          exact ⟨.inr rfl, res1 rfl k642 ⟨_, _, _, _, rfl, S638, els636⟩⟩
        ·
         refine FW.condF rfl c549 ?_
         refine FW.skip (FW.seq ?_)
         obtain ⟨y646, hy647, hp⟩ := bnd hp
         obtain ⟨r664, hr665, hp⟩ := bnd hp
         obtain ⟨y676, hy677, hp⟩ := bnd hp
         obtain ⟨r699, hr700, hp⟩ := bnd hp
         refine FW.drawB (Sl H72) (fun f w => ∃ H : GH, ∃ v728 : Value, ∃ n729 : Nat, ∃ cs730 : List Value, St Ha wa H w [.row 28 2 v728 n729 cs730] ∧ Inc H72 H ∧ Els (up wa.heap.size H) eSequent 2 cs730 [(Sequent.mk r664 r699)] ∧ (bl cs730).Nodup ∧ f 6 = v728) (by kernel_rfl) S91.sl ?_ ?_
         ·
          intro w643 r644
          have S645 := S91.call r644
          refine FB.t (i := 0) (bs 18 1) rfl (SP.nil S645.sl) rfl (fun w' hw' => (E.fieldAddr tf28_0 k79)) ?_
          refine FB.t (i := 1) (bs 18 3) rfl (SP.nil S645.sl) rfl (fun w' hw' => (E.load rfl (run_load1 Try.isAgg22 ((at28.mono i74).now hw') rfl))) ?_
          refine FB.t (i := 2) (bs 18 7) rfl (SP.nil S645.sl) rfl (fun w' hw' => (E.move (v := v86) rfl)) ?_
          obtain ⟨q648, v650, v651, rfl, at649, h652, h653⟩ := FAt.open h88 hy647
          refine FB.t (i := 3) (bs 18 15) rfl (SP.nil S645.sl) rfl (fun w' hw' => (E.nilCheck rfl)) ?_
          refine FB.t (i := 4) (bs 18 31) rfl (SP.nil S645.sl) rfl (fun w' hw' => (E.fieldAddr tf68_3 rfl)) ?_
          refine FB.t (i := 5) (bs 18 63) rfl (SP.nil S645.sl) rfl (fun w' hw' => (E.load rfl (run_load1 Try.isAgg9 (at649.now hw') rfl))) ?_
          refine FB.t (i := 8) (bs 18 319) rfl (SP.nil S645.sl) rfl (fun w' hw' => (E.move k81)) ?_
          refine FB.t (i := 9) (bs 18 831) rfl (SP.nil S645.sl) rfl (fun w' hw' => (E.move (v := v87) rfl)) ?_
          obtain ⟨q678, v680, v681, rfl, at679, h682, h683⟩ := FAt.open h89 hy677
          refine FB.t (i := 10) (bs 18 1855) rfl (SP.nil S645.sl) rfl (fun w' hw' => (E.nilCheck rfl)) ?_
          refine FB.t (i := 11) (bs 18 3903) rfl (SP.nil S645.sl) rfl (fun w' hw' => (E.fieldAddr tf68_3 rfl)) ?_
          refine FB.t (i := 12) (bs 18 7999) rfl (SP.nil S645.sl) rfl (fun w' hw' => (E.load rfl (run_load1 Try.isAgg9 (at679.now hw') rfl))) ?_
          refine FB.all2 (i := 6) (j := 13) (by kernel_rfl) ?_ ?_
          ·
           obtain ⟨v654, w655, run656, S657⟩ := S645.buildSlice (P := Try.prog) te22 [Value.string y646.text] (parts := #[(0, Value.string y646.text)]) (cells := [Value.string y646.text]) rfl (szs_cons rfl szs_nil) (fc_cons rfl fc_nil) (ones_cons rfl ones_nil) (Nat.le_of_ble_eq_true rfl)
           have els658 : Els (up wa.heap.size H72) eS 1 [Value.string y646.text] [y646.text] := (Els.snoc (H := (up wa.heap.size H72)) (E := eS) (k := 1) (c := [Value.string y646.text]) (x := y646.text) Els.nil rfl rfl)
           refine FC.val (l' := (bs 18 8063)) rfl (by kernel_rfl) rfl rfl rfl (E.buildSlice (B1 rfl) run656) ?_
           refine ⟨(SP.nil S657.sl), ?_⟩
           refine FB.all2 (i := 7) (j := 13) (by kernel_rfl) ?_ ?_
           ·
            obtain ⟨H659, S660, i661, h662, nv663⟩ := S657.sealRowU (i := 0) (l' := [.row 9 1 v63 n64 cs65, .row 9 1 v67 n69 cs70]) rfl els658 (by decide) rfl
            refine FC.call (l' := (bs 18 8191)) rfl (by kernel_rfl) rfl rfl rfl (E.call Try.call55 (A2 rfl rfl)) (w_impl_with S660.sl v0_0 a0.left (p0_0.mono ((i27.tr i74).tr i661)) v654 [y646.text] (h662.mono upI) hr665) ?_
            rintro e w667 ⟨H666, v672, n673, cs674, rfl, r669, els675⟩
            refine ⟨_, rfl, ?_⟩
            obtain ⟨H670, r669, hU671⟩ := St.lendX i661 S657.sl r669
            have els675 := els675.mono (hU671.tr (up_le S657.size))
            have S668 := S657.join (l' := [.row 9 1 v672 n673 cs674, .row 9 1 v654 1 [Value.string y646.text], .row 9 1 v63 n64 cs65, .row 9 1 v67 n69 cs70]) r669 rfl
            refine ⟨(SP.nil (Sl.of_inc r669.run.inc S668.sl)), ?_⟩
            refine FB.all1 (i := 13) (by kernel_rfl) ?_
            ·
             obtain ⟨v684, w685, run686, S687⟩ := S668.buildSlice (P := Try.prog) te22 [Value.string y676.text] (parts := #[(0, Value.string y676.text)]) (cells := [Value.string y676.text]) rfl (szs_cons rfl szs_nil) (fc_cons rfl fc_nil) (ones_cons rfl ones_nil) (Nat.le_of_ble_eq_true rfl)
             have els688 : Els (up wa.heap.size H670) eS 1 [Value.string y676.text] [y676.text] := (Els.snoc (H := (up wa.heap.size H670)) (E := eS) (k := 1) (c := [Value.string y676.text]) (x := y676.text) Els.nil rfl rfl)
             refine FC.val (l' := (bs 18 16383)) rfl (by kernel_rfl) rfl rfl rfl (E.buildSlice (B1 rfl) run686) ?_
             refine ⟨(SP.nil (Sl.of_inc r669.run.inc S687.sl)), ?_⟩
             refine FB.all1 (i := 14) (by kernel_rfl) ?_
             ·
              obtain ⟨H689, S690, i691, h692, nv693⟩ := S687.sealRowU (i := 4) (l' := [.row 9 1 v684 1 [Value.string y676.text], .row 9 1 v672 n673 cs674, .row 9 1 v654 1 [Value.string y646.text], .row 9 1 v63 n64 cs65]) rfl (els71.mono (up_mono r669.run.inc)) (by decide) rfl
              obtain ⟨H694, S695, i696, h697, nv698⟩ := S690.sealRowU (i := 0) (l' := [.row 9 1 v672 n673 cs674, .row 9 1 v654 1 [Value.string y646.text], .row 9 1 v63 n64 cs65]) rfl (els688.mono (up_mono i691)) (by decide) rfl
              refine FC.call (l' := (bs 18 32767)) rfl (by kernel_rfl) rfl rfl rfl (E.call Try.call55 (A2 rfl rfl)) (w_impl_with S695.sl v67 r50 (h692.mono (upI.tr i696)) v684 [y676.text] (h697.mono upI) hr700) ?_
              rintro e w702 ⟨H701, v707, n708, cs709, rfl, r704, els710⟩
              refine ⟨_, rfl, ?_⟩
              obtain ⟨H705, r704, hU706⟩ := St.lendX (i691.tr i696) S687.sl r704
              have els710 := els710.mono (hU706.tr (up_le S687.size))
              have S703 := S687.join (l' := [.row 9 1 v707 n708 cs709, .row 9 1 v684 1 [Value.string y676.text], .row 9 1 v672 n673 cs674, .row 9 1 v654 1 [Value.string y646.text], .row 9 1 v63 n64 cs65, .row 9 1 v67 n69 cs70]) r704 rfl
              refine ⟨(SP.nil (Sl.of_inc (r669.run.inc.tr r704.run.inc) S703.sl)), ?_⟩
              obtain ⟨H711, S712, i713, h714, nv715⟩ := S703.sealRowU (i := 2) (l' := [.row 9 1 v707 n708 cs709, .row 9 1 v684 1 [Value.string y676.text], .row 9 1 v654 1 [Value.string y646.text], .row 9 1 v63 n64 cs65, .row 9 1 v67 n69 cs70]) rfl (els675.mono (up_mono r704.run.inc)) (by decide) rfl
              obtain ⟨H716, S717, i718, h719, nv720⟩ := S712.sealRowU (i := 0) (l' := [.row 9 1 v684 1 [Value.string y676.text], .row 9 1 v654 1 [Value.string y646.text], .row 9 1 v63 n64 cs65, .row 9 1 v67 n69 cs70]) rfl (els710.mono (up_mono i713)) (by decide) rfl
              refine FB.t (i := 15) (bs 18 65535) rfl (SP.nil (Sl.of_inc (r669.run.inc.tr r704.run.inc) S703.sl)) rfl (fun w' hw' => (E.build (B2 rfl rfl) (run_build _ 28 #[(0, v672), (1, v707)] #[v672, v707] (by obtain ⟨_, _, rfl⟩ := RSl.ln (h714.mono (upI.tr i718)); obtain ⟨_, _, rfl⟩ := RSl.ln (h719.mono upI); rfl)))) ?_
              refine FB.all1 (i := 16) (by kernel_rfl) ?_
              ·
               obtain ⟨v721, w722, run723, S724⟩ := S717.buildSlice (P := Try.prog) te61 [Value.agg #[v672, v707]] (parts := #[(0, Value.agg #[v672, v707])]) (cells := [v672, v707]) rfl (szs_cons rfl szs_nil) (fc_cons rfl fc_nil) (ones_cons h714.one (ones_cons h719.one ones_nil)) (Nat.le_of_ble_eq_true rfl)
               have els725 : Els (up wa.heap.size H716) eSequent 2 [v672, v707] [(Sequent.mk r664 r699)] := (Els.snoc (H := (up wa.heap.size H716)) (E := eSequent) (k := 2) (c := [v672, v707]) (x := (Sequent.mk r664 r699)) Els.nil rfl ⟨_, _, rfl, (h714.mono (up_mono i718)), h719⟩)
               have nd726 : (bl [v672, v707]).Nodup := by exact nd_two (New.apart (h714.mono (up_mono (Inc.rfl _))) nv720)
               have nv727 : New H705 [v672, v707] := by exact (New.two nv715 (nv720.anti i713))
               refine FC.val (l' := (bs 18 131071)) rfl (by kernel_rfl) rfl rfl rfl (E.buildSlice (B1 rfl) run723) ?_
               refine ⟨(SP.nil (Sl.of_inc (((r669.run.inc.tr r704.run.inc).tr i713).tr i718) S724.sl)), ?_⟩
               refine FB.t (i := 17) (bs 18 262143) rfl (SP.nil (Sl.of_inc (((r669.run.inc.tr r704.run.inc).tr i713).tr i718) S724.sl)) rfl (fun w' hw' => (E.assign (v := v721) rfl)) ?_
               exact FB.done (by kernel_rfl) ⟨_, _, _, _, (S724.sel [0] (by decide) rfl), (((r669.run.inc.tr r704.run.inc).tr i713).tr i718), els725, nd726, rfl⟩
           ·
            obtain ⟨v684, w685, run686, S687⟩ := S657.buildSlice (P := Try.prog) te22 [Value.string y676.text] (parts := #[(0, Value.string y676.text)]) (cells := [Value.string y676.text]) rfl (szs_cons rfl szs_nil) (fc_cons rfl fc_nil) (ones_cons rfl ones_nil) (Nat.le_of_ble_eq_true rfl)
            have els688 : Els (up wa.heap.size H72) eS 1 [Value.string y676.text] [y676.text] := (Els.snoc (H := (up wa.heap.size H72)) (E := eS) (k := 1) (c := [Value.string y676.text]) (x := y676.text) Els.nil rfl rfl)
            refine FC.val (l' := (bs 18 16255)) rfl (by kernel_rfl) rfl rfl rfl (E.buildSlice (B1 rfl) run686) ?_
            refine ⟨(SP.nil S687.sl), ?_⟩
            refine FB.all1 (i := 7) (by kernel_rfl) ?_
            ·
             obtain ⟨H659, S660, i661, h662, nv663⟩ := S687.sealRowU (i := 1) (l' := [.row 9 1 v684 1 [Value.string y676.text], .row 9 1 v63 n64 cs65, .row 9 1 v67 n69 cs70]) rfl els658 (by decide) rfl
             refine FC.call (l' := (bs 18 16383)) rfl (by kernel_rfl) rfl rfl rfl (E.call Try.call55 (A2 rfl rfl)) (w_impl_with S660.sl v0_0 a0.left (p0_0.mono ((i27.tr i74).tr i661)) v654 [y646.text] (h662.mono upI) hr665) ?_
             rintro e w667 ⟨H666, v672, n673, cs674, rfl, r669, els675⟩
             refine ⟨_, rfl, ?_⟩
             obtain ⟨H670, r669, hU671⟩ := St.lendX i661 S687.sl r669
             have els675 := els675.mono (hU671.tr (up_le S687.size))
             have S668 := S687.join (l' := [.row 9 1 v672 n673 cs674, .row 9 1 v684 1 [Value.string y676.text], .row 9 1 v654 1 [Value.string y646.text], .row 9 1 v63 n64 cs65, .row 9 1 v67 n69 cs70]) r669 rfl
             refine ⟨(SP.nil (Sl.of_inc r669.run.inc S668.sl)), ?_⟩
             refine FB.all1 (i := 14) (by kernel_rfl) ?_
             ·
              obtain ⟨H689, S690, i691, h692, nv693⟩ := S668.sealRowU (i := 4) (l' := [.row 9 1 v672 n673 cs674, .row 9 1 v684 1 [Value.string y676.text], .row 9 1 v654 1 [Value.string y646.text], .row 9 1 v63 n64 cs65]) rfl (els71.mono (up_mono r669.run.inc)) (by decide) rfl
              obtain ⟨H694, S695, i696, h697, nv698⟩ := S690.sealRowU (i := 1) (l' := [.row 9 1 v672 n673 cs674, .row 9 1 v654 1 [Value.string y646.text], .row 9 1 v63 n64 cs65]) rfl (els688.mono (up_mono (r669.run.inc.tr i691))) (by decide) rfl
              refine FC.call (l' := (bs 18 32767)) rfl (by kernel_rfl) rfl rfl rfl (E.call Try.call55 (A2 rfl rfl)) (w_impl_with S695.sl v67 r50 (h692.mono (upI.tr i696)) v684 [y676.text] (h697.mono upI) hr700) ?_
              rintro e w702 ⟨H701, v707, n708, cs709, rfl, r704, els710⟩
              refine ⟨_, rfl, ?_⟩
              obtain ⟨H705, r704, hU706⟩ := St.lendX (i691.tr i696) S668.sl r704
              have els710 := els710.mono (hU706.tr (up_le S668.size))
              have S703 := S668.join (l' := [.row 9 1 v707 n708 cs709, .row 9 1 v672 n673 cs674, .row 9 1 v684 1 [Value.string y676.text], .row 9 1 v654 1 [Value.string y646.text], .row 9 1 v63 n64 cs65, .row 9 1 v67 n69 cs70]) r704 rfl
              refine ⟨(SP.nil (Sl.of_inc (r669.run.inc.tr r704.run.inc) S703.sl)), ?_⟩
              obtain ⟨H711, S712, i713, h714, nv715⟩ := S703.sealRowU (i := 1) (l' := [.row 9 1 v707 n708 cs709, .row 9 1 v684 1 [Value.string y676.text], .row 9 1 v654 1 [Value.string y646.text], .row 9 1 v63 n64 cs65, .row 9 1 v67 n69 cs70]) rfl (els675.mono (up_mono r704.run.inc)) (by decide) rfl
              obtain ⟨H716, S717, i718, h719, nv720⟩ := S712.sealRowU (i := 0) (l' := [.row 9 1 v684 1 [Value.string y676.text], .row 9 1 v654 1 [Value.string y646.text], .row 9 1 v63 n64 cs65, .row 9 1 v67 n69 cs70]) rfl (els710.mono (up_mono i713)) (by decide) rfl
              refine FB.t (i := 15) (bs 18 65535) rfl (SP.nil (Sl.of_inc (r669.run.inc.tr r704.run.inc) S703.sl)) rfl (fun w' hw' => (E.build (B2 rfl rfl) (run_build _ 28 #[(0, v672), (1, v707)] #[v672, v707] (by obtain ⟨_, _, rfl⟩ := RSl.ln (h714.mono (upI.tr i718)); obtain ⟨_, _, rfl⟩ := RSl.ln (h719.mono upI); rfl)))) ?_
              refine FB.all1 (i := 16) (by kernel_rfl) ?_
              ·
               obtain ⟨v721, w722, run723, S724⟩ := S717.buildSlice (P := Try.prog) te61 [Value.agg #[v672, v707]] (parts := #[(0, Value.agg #[v672, v707])]) (cells := [v672, v707]) rfl (szs_cons rfl szs_nil) (fc_cons rfl fc_nil) (ones_cons h714.one (ones_cons h719.one ones_nil)) (Nat.le_of_ble_eq_true rfl)
               have els725 : Els (up wa.heap.size H716) eSequent 2 [v672, v707] [(Sequent.mk r664 r699)] := (Els.snoc (H := (up wa.heap.size H716)) (E := eSequent) (k := 2) (c := [v672, v707]) (x := (Sequent.mk r664 r699)) Els.nil rfl ⟨_, _, rfl, (h714.mono (up_mono i718)), h719⟩)
               have nd726 : (bl [v672, v707]).Nodup := by exact nd_two (New.apart (h714.mono (up_mono (Inc.rfl _))) nv720)
               have nv727 : New H705 [v672, v707] := by exact (New.two nv715 (nv720.anti i713))
               refine FC.val (l' := (bs 18 131071)) rfl (by kernel_rfl) rfl rfl rfl (E.buildSlice (B1 rfl) run723) ?_
               refine ⟨(SP.nil (Sl.of_inc (((r669.run.inc.tr r704.run.inc).tr i713).tr i718) S724.sl)), ?_⟩
               refine FB.t (i := 17) (bs 18 262143) rfl (SP.nil (Sl.of_inc (((r669.run.inc.tr r704.run.inc).tr i713).tr i718) S724.sl)) rfl (fun w' hw' => (E.assign (v := v721) rfl)) ?_
               exact FB.done (by kernel_rfl) ⟨_, _, _, _, (S724.sel [0] (by decide) rfl), (((r669.run.inc.tr r704.run.inc).tr i713).tr i718), els725, nd726, rfl⟩
          ·
           obtain ⟨v684, w685, run686, S687⟩ := S645.buildSlice (P := Try.prog) te22 [Value.string y676.text] (parts := #[(0, Value.string y676.text)]) (cells := [Value.string y676.text]) rfl (szs_cons rfl szs_nil) (fc_cons rfl fc_nil) (ones_cons rfl ones_nil) (Nat.le_of_ble_eq_true rfl)
           have els688 : Els (up wa.heap.size H72) eS 1 [Value.string y676.text] [y676.text] := (Els.snoc (H := (up wa.heap.size H72)) (E := eS) (k := 1) (c := [Value.string y676.text]) (x := y676.text) Els.nil rfl rfl)
           refine FC.val (l' := (bs 18 16191)) rfl (by kernel_rfl) rfl rfl rfl (E.buildSlice (B1 rfl) run686) ?_
           refine ⟨(SP.nil S687.sl), ?_⟩
           refine FB.all1 (i := 6) (by kernel_rfl) ?_
           ·
            obtain ⟨v654, w655, run656, S657⟩ := S687.buildSlice (P := Try.prog) te22 [Value.string y646.text] (parts := #[(0, Value.string y646.text)]) (cells := [Value.string y646.text]) rfl (szs_cons rfl szs_nil) (fc_cons rfl fc_nil) (ones_cons rfl ones_nil) (Nat.le_of_ble_eq_true rfl)
            have els658 : Els (up wa.heap.size H72) eS 1 [Value.string y646.text] [y646.text] := (Els.snoc (H := (up wa.heap.size H72)) (E := eS) (k := 1) (c := [Value.string y646.text]) (x := y646.text) Els.nil rfl rfl)
            refine FC.val (l' := (bs 18 16255)) rfl (by kernel_rfl) rfl rfl rfl (E.buildSlice (B1 rfl) run656) ?_
            refine ⟨(SP.nil S657.sl), ?_⟩
            refine FB.all1 (i := 7) (by kernel_rfl) ?_
            ·
             obtain ⟨H659, S660, i661, h662, nv663⟩ := S657.sealRowU (i := 0) (l' := [.row 9 1 v684 1 [Value.string y676.text], .row 9 1 v63 n64 cs65, .row 9 1 v67 n69 cs70]) rfl els658 (by decide) rfl
             refine FC.call (l' := (bs 18 16383)) rfl (by kernel_rfl) rfl rfl rfl (E.call Try.call55 (A2 rfl rfl)) (w_impl_with S660.sl v0_0 a0.left (p0_0.mono ((i27.tr i74).tr i661)) v654 [y646.text] (h662.mono upI) hr665) ?_
             rintro e w667 ⟨H666, v672, n673, cs674, rfl, r669, els675⟩
             refine ⟨_, rfl, ?_⟩
             obtain ⟨H670, r669, hU671⟩ := St.lendX i661 S657.sl r669
             have els675 := els675.mono (hU671.tr (up_le S657.size))
             have S668 := S657.join (l' := [.row 9 1 v672 n673 cs674, .row 9 1 v654 1 [Value.string y646.text], .row 9 1 v684 1 [Value.string y676.text], .row 9 1 v63 n64 cs65, .row 9 1 v67 n69 cs70]) r669 rfl
             refine ⟨(SP.nil (Sl.of_inc r669.run.inc S668.sl)), ?_⟩
             refine FB.all1 (i := 14) (by kernel_rfl) ?_
             ·
              obtain ⟨H689, S690, i691, h692, nv693⟩ := S668.sealRowU (i := 4) (l' := [.row 9 1 v672 n673 cs674, .row 9 1 v654 1 [Value.string y646.text], .row 9 1 v684 1 [Value.string y676.text], .row 9 1 v63 n64 cs65]) rfl (els71.mono (up_mono r669.run.inc)) (by decide) rfl
              obtain ⟨H694, S695, i696, h697, nv698⟩ := S690.sealRowU (i := 2) (l' := [.row 9 1 v672 n673 cs674, .row 9 1 v654 1 [Value.string y646.text], .row 9 1 v63 n64 cs65]) rfl (els688.mono (up_mono (r669.run.inc.tr i691))) (by decide) rfl
              refine FC.call (l' := (bs 18 32767)) rfl (by kernel_rfl) rfl rfl rfl (E.call Try.call55 (A2 rfl rfl)) (w_impl_with S695.sl v67 r50 (h692.mono (upI.tr i696)) v684 [y676.text] (h697.mono upI) hr700) ?_
              rintro e w702 ⟨H701, v707, n708, cs709, rfl, r704, els710⟩
              refine ⟨_, rfl, ?_⟩
              obtain ⟨H705, r704, hU706⟩ := St.lendX (i691.tr i696) S668.sl r704
              have els710 := els710.mono (hU706.tr (up_le S668.size))
              have S703 := S668.join (l' := [.row 9 1 v707 n708 cs709, .row 9 1 v672 n673 cs674, .row 9 1 v654 1 [Value.string y646.text], .row 9 1 v684 1 [Value.string y676.text], .row 9 1 v63 n64 cs65, .row 9 1 v67 n69 cs70]) r704 rfl
              refine ⟨(SP.nil (Sl.of_inc (r669.run.inc.tr r704.run.inc) S703.sl)), ?_⟩
              obtain ⟨H711, S712, i713, h714, nv715⟩ := S703.sealRowU (i := 1) (l' := [.row 9 1 v707 n708 cs709, .row 9 1 v654 1 [Value.string y646.text], .row 9 1 v684 1 [Value.string y676.text], .row 9 1 v63 n64 cs65, .row 9 1 v67 n69 cs70]) rfl (els675.mono (up_mono r704.run.inc)) (by decide) rfl
              obtain ⟨H716, S717, i718, h719, nv720⟩ := S712.sealRowU (i := 0) (l' := [.row 9 1 v654 1 [Value.string y646.text], .row 9 1 v684 1 [Value.string y676.text], .row 9 1 v63 n64 cs65, .row 9 1 v67 n69 cs70]) rfl (els710.mono (up_mono i713)) (by decide) rfl
              refine FB.t (i := 15) (bs 18 65535) rfl (SP.nil (Sl.of_inc (r669.run.inc.tr r704.run.inc) S703.sl)) rfl (fun w' hw' => (E.build (B2 rfl rfl) (run_build _ 28 #[(0, v672), (1, v707)] #[v672, v707] (by obtain ⟨_, _, rfl⟩ := RSl.ln (h714.mono (upI.tr i718)); obtain ⟨_, _, rfl⟩ := RSl.ln (h719.mono upI); rfl)))) ?_
              refine FB.all1 (i := 16) (by kernel_rfl) ?_
              ·
               obtain ⟨v721, w722, run723, S724⟩ := S717.buildSlice (P := Try.prog) te61 [Value.agg #[v672, v707]] (parts := #[(0, Value.agg #[v672, v707])]) (cells := [v672, v707]) rfl (szs_cons rfl szs_nil) (fc_cons rfl fc_nil) (ones_cons h714.one (ones_cons h719.one ones_nil)) (Nat.le_of_ble_eq_true rfl)
               have els725 : Els (up wa.heap.size H716) eSequent 2 [v672, v707] [(Sequent.mk r664 r699)] := (Els.snoc (H := (up wa.heap.size H716)) (E := eSequent) (k := 2) (c := [v672, v707]) (x := (Sequent.mk r664 r699)) Els.nil rfl ⟨_, _, rfl, (h714.mono (up_mono i718)), h719⟩)
               have nd726 : (bl [v672, v707]).Nodup := by exact nd_two (New.apart (h714.mono (up_mono (Inc.rfl _))) nv720)
               have nv727 : New H705 [v672, v707] := by exact (New.two nv715 (nv720.anti i713))
               refine FC.val (l' := (bs 18 131071)) rfl (by kernel_rfl) rfl rfl rfl (E.buildSlice (B1 rfl) run723) ?_
               refine ⟨(SP.nil (Sl.of_inc (((r669.run.inc.tr r704.run.inc).tr i713).tr i718) S724.sl)), ?_⟩
               refine FB.t (i := 17) (bs 18 262143) rfl (SP.nil (Sl.of_inc (((r669.run.inc.tr r704.run.inc).tr i713).tr i718) S724.sl)) rfl (fun w' hw' => (E.assign (v := v721) rfl)) ?_
               exact FB.done (by kernel_rfl) ⟨_, _, _, _, (S724.sel [0] (by decide) rfl), (((r669.run.inc.tr r704.run.inc).tr i713).tr i718), els725, nd726, rfl⟩
         ·
          rintro f737 w736 ⟨H733, v728, n729, cs730, S734, i735, els731, nd732, k738⟩
          refine FW.ret ?_
          obtain rfl := Option.some.inj hp
          exact ⟨.inr rfl, res1 rfl k738 ⟨_, _, _, _, rfl, S734, (els731.mono upI)⟩⟩

end Go.Proofs
