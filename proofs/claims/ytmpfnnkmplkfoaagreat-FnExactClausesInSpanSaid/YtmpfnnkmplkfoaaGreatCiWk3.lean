/- Part of the walks and plain laws behind the claim: it proves helpers, under no condition beyond their own. -/
import Derived.Test.YtmpfnnkmplkfoaaGreatCiWk2
set_option linter.unusedVariables false
set_option maxRecDepth 100000
namespace Go.Proofs
open Go.Mr Go.Pu Go.PF Go.RowKit

@[reducible] def p_impl_echelon_add (H0 : GH) (w0 : World) (Ha : GH) (L : List MO) (b0 : Nat) (r : (Bool × echelon)) : Ending → World → Prop :=
  fun e w' => ∃ H' : GH, ∃ v0_2r : Value, ∃ n0_2r : Nat, ∃ c0_2r : List Value, ∃ v0_3r : Value, ∃ n0_3r : Nat, ∃ c0_3r : List Value, e = .returned (Value.bool r.1) ∧ (St H0 w0 H' w' (.box b0 185 [Value.int .i64 r.2.ring.p, Value.int .i64 r.2.ring.vars, v0_2r, v0_3r, Value.int .i64 r.2.many] :: .row 132 1 v0_2r n0_2r c0_2r :: .row 132 1 v0_3r n0_3r c0_3r :: L) ∧ Inc Ha H') ∧ Els (up w0.heap.size H') (eL eI 1) 1 c0_2r r.2.rows ∧ (bl c0_2r).Nodup ∧ Els (up w0.heap.size H') (eL eI 1) 1 c0_3r r.2.made
set_option maxHeartbeats 4000000 in
theorem w_impl_echelon_add {H0 Ha : GH} {w0 wa : World} {L : List MO} {a0 : echelon} {b0 : Nat} {v0_2 : Value} {n0_2 : Nat} {k0_2 : List Value} {v0_3 : Value} {n0_3 : Nat} {k0_3 : List Value} (S0 : St H0 w0 Ha wa (.box b0 185 [Value.int .i64 a0.ring.p, Value.int .i64 a0.ring.vars, v0_2, v0_3, Value.int .i64 a0.many] :: .row 132 1 v0_2 n0_2 k0_2 :: .row 132 1 v0_3 n0_3 k0_3 :: L)) (p0_2 : Els (up w0.heap.size Ha) (eL eI 1) 1 k0_2 a0.rows) (d0_2 : (bl k0_2).Nodup) (p0_3 : Els (up w0.heap.size Ha) (eL eI 1) 1 k0_3 a0.made) (v1 : Value) (a1 : List Int) (p1 : RSl Ha eI 1 v1 a1) {r : (Bool × echelon)} (hp : (PF.impl_echelon_add a0 a1) = some r) :
    Calls Tryz.prog 189 #[Value.pointer (some (⟨b0, 0, none⟩ : Addr)), v1] wa (p_impl_echelon_add H0 w0 Ha L b0 r) := by
  unfold PF.impl_echelon_add at hp
  refine calls_go (N := 222) (args := [Value.pointer (some (⟨b0, 0, none⟩ : Addr)), v1]) Tryz.func189 rfl rfl rfl ?_
  refine FW.seq (FW.region ?_)
  refine FL.v (E.assign (v := Value.bool false) rfl) ?_
  refine FL.nil (FW.seq (FW.region ?_))
  refine FL.v (E.move (v := Value.pointer (some (⟨b0, 0, none⟩ : Addr))) rfl) ?_
  refine FL.v (E.move (v := v1) rfl) ?_
  obtain ⟨r21, hr22, hp⟩ := bnd hp
  have S23 : St H0 w0 Ha wa (.row 132 1 v0_3 n0_3 k0_3 :: .box b0 185 [Value.int .i64 a0.ring.p, Value.int .i64 a0.ring.vars, v0_2, v0_3, Value.int .i64 a0.many] :: .row 132 1 v0_2 n0_2 k0_2 :: L) := S0.front 2 rfl rfl
  have S24 : St H0 w0 Ha wa (.row 132 1 v0_2 n0_2 k0_2 :: .row 132 1 v0_3 n0_3 k0_3 :: .box b0 185 [Value.int .i64 a0.ring.p, Value.int .i64 a0.ring.vars, v0_2, v0_3, Value.int .i64 a0.many] :: L) := S23.front 2 rfl rfl
  have S25 : St H0 w0 Ha wa (.box b0 185 [Value.int .i64 a0.ring.p, Value.int .i64 a0.ring.vars, v0_2, v0_3, Value.int .i64 a0.many] :: .row 132 1 v0_2 n0_2 k0_2 :: .row 132 1 v0_3 n0_3 k0_3 :: L) := S24.front 2 rfl rfl
  refine FL.call rfl rfl rfl (E.call Tryz.call86 (A2 rfl rfl)) (w_impl_echelon_reduce (L := (L)) S25 (a0 := a0) p0_2 d0_2 p0_3 v1 a1 p1 hr22) ?_
  rintro e w27 ⟨H26, v30, v32, n33, cs34, rfl, ⟨S28, i29⟩, h31, els35⟩
  refine ⟨_, rfl, ?_⟩
  have S28 : St H0 w0 H26 w27 (.row 3 1 v32 n33 cs34 :: .box b0 185 [Value.int .i64 r21.2.2.ring.p, Value.int .i64 r21.2.2.ring.vars, v0_2, v0_3, Value.int .i64 r21.2.2.many] :: .row 132 1 v0_2 n0_2 k0_2 :: .row 132 1 v0_3 n0_3 k0_3 :: L) := S28
  refine FL.v (E.move (v := Value.tuple #[v30, v32]) rfl) ?_
  refine FL.v (E.extract (i := 0) rfl rfl) ?_
  refine FL.v (E.extract (i := 1) rfl rfl) ?_
  refine FL.v (E.assign (v := v30) rfl) ?_
  refine FL.v (E.assign (v := v32) rfl) ?_
  refine FL.nil (FW.seq (FW.region ?_))
  refine FL.v (E.move (v := v30) rfl) ?_
  obtain ⟨r36, hr37, hp⟩ := bnd hp
  refine FL.call rfl rfl rfl (E.call Tryz.call143 (A1 rfl)) (w_impl_leading S28.sl v30 r21.1 h31 hr37) ?_
  rintro e w38 ⟨rfl, r39⟩
  refine ⟨_, rfl, ?_⟩
  have S40 := S28.call r39
  refine FL.v (E.assign (v := Value.int .i64 r36) rfl) ?_
  refine FL.nil (FW.seq (FW.seq (FW.region ?_)))
  refine FL.v (E.move (v := Value.int .i64 r36) rfl) ?_
  refine FL.v (E.lss rfl rfl) ?_
  refine FL.nil ?_
  rcases ifB hp with ⟨c41, hp⟩ | ⟨c41, hp⟩
  ·
    refine FW.condT rfl c41 ?_
    refine FW.seq (FW.region ?_)
    refine FL.v (E.assign (v := Value.bool false) rfl) ?_
    refine FL.nil ?_
    refine FW.ret ?_
    obtain rfl := Option.some.inj hp
    exact ⟨.inr rfl, res1 rfl rfl ⟨_, _, _, _, _, _, _, rfl, ⟨(S40.selT (a := [.row 3 1 v32 n33 cs34, .box b0 185 [Value.int .i64 r21.2.2.ring.p, Value.int .i64 r21.2.2.ring.vars, v0_2, v0_3, Value.int .i64 r21.2.2.many], .row 132 1 v0_2 n0_2 k0_2, .row 132 1 v0_3 n0_3 k0_3]) (l' := [.box b0 185 [Value.int .i64 r21.2.2.ring.p, Value.int .i64 r21.2.2.ring.vars, v0_2, v0_3, Value.int .i64 r21.2.2.many], .row 132 1 v0_2 n0_2 k0_2, .row 132 1 v0_3 n0_3 k0_3]) [1, 2, 3] (by decide) rfl), i29⟩, (p0_2.mono (up_mono i29)), d0_2, (p0_3.mono (up_mono i29))⟩⟩
  ·
    refine FW.condF rfl c41 ?_
    refine FW.skip (FW.seq ?_)
    refine FW.draw (fun w' => Run w38.heap.size H26 w38 H26 w') (by kernel_rfl) (by kernel_rfl) (run_drew S40.sl) ?_
    refine FD.val rfl rfl rfl (fun w' hw' => (E.move (v := Value.pointer (some (⟨b0, 0, none⟩ : Addr))) rfl)) ?_
    refine FD.val rfl rfl rfl (fun w' hw' => (E.nilCheck rfl)) ?_
    refine FD.val rfl rfl rfl (fun w' hw' => (E.fieldAddr tf185_0 rfl)) ?_
    refine FD.val rfl rfl rfl (fun w' hw' => (E.load rfl (run_loadA Tryz.isAgg137 Tryz.sizeOf137 (((S40.call hw').box_now (i := 1) rfl).sub (j := 0) (n := 2) (c := [Value.int .i64 r21.2.2.ring.p, Value.int .i64 r21.2.2.ring.vars]) rfl) rfl))) ?_
    refine FD.val rfl rfl rfl (fun w' hw' => (E.move (v := v30) rfl)) ?_
    refine FD.val rfl rfl rfl (fun w' hw' => (E.move (v := Value.int .i64 r36) rfl)) ?_
    obtain ⟨x49, hx50, hp⟩ := bnd hp
    obtain ⟨p43, cs44, pt45, l46, at47, rel48⟩ := h31.at hx50
    obtain rfl := eI_open rel48
    refine FD.val rfl rfl rfl (fun w' hw' => (E.indexAddr te132 rfl rfl pt45)) ?_
    refine FD.val rfl rfl rfl (fun w' hw' => (E.load rfl (run_load0 Tryz.isAgg3 (at47.now (S40.call hw').sl) rfl))) ?_
    obtain ⟨r51, hr52, hp⟩ := bnd hp
    refine FD.call rfl rfl rfl (fun w' hw' => (E.call Tryz.call224 (A2 rfl rfl))) (fun w' hw' => Calls.cls hw' (w_impl_ring_inverse (S40.call hw').sl r21.2.2.ring x49 hr52)) ?_
    refine FD.val rfl rfl rfl (fun w' hw' => (E.assign (v := Value.int .i64 r51) rfl)) ?_
    refine FD.nil ?_
    intro w53 r55
    have S54 := S40.call r55
    refine FW.seq ?_
    obtain ⟨r42, hr59, hp⟩ := bnd hp
    obtain ⟨r73, hr74, hp⟩ := bnd hp
    refine FW.drawB (SX H0 w0 H26 (.box b0 185 [Value.int .i64 r21.2.2.ring.p, Value.int .i64 r21.2.2.ring.vars, v0_2, v0_3, Value.int .i64 r21.2.2.many] :: L)) (fun f w => ∃ H : GH, ∃ v85 : Value, ∃ n86 : Nat, ∃ cs87 : List Value, St H0 w0 H w (.row 3 1 v32 n33 cs34 :: .box b0 185 [Value.int .i64 r21.2.2.ring.p, Value.int .i64 r21.2.2.ring.vars, v0_2, v0_3, Value.int .i64 r21.2.2.many] :: .row 132 1 v0_2 n0_2 k0_2 :: .row 132 1 v0_3 n0_3 k0_3 :: .row 3 1 v85 n86 cs87 :: L) ∧ Inc H26 H ∧ Els (up w0.heap.size H) eI 1 cs87 r73 ∧ f 0 = Value.pointer (some (⟨b0, 0, none⟩ : Addr)) ∧ f 5 = v85 ∧ f 6 = v32 ∧ f 7 = Value.int .i64 r36 ∧ f 8 = Value.int .i64 r51) (by kernel_rfl) S54.sl ?_ ?_
    ·
      intro w56 r57
      have S58 := S54.call r57
      refine FB.t (i := 0) (bs 13 1) rfl (SP.nil ⟨_, (S58.selT (a := [.row 3 1 v32 n33 cs34, .box b0 185 [Value.int .i64 r21.2.2.ring.p, Value.int .i64 r21.2.2.ring.vars, v0_2, v0_3, Value.int .i64 r21.2.2.many], .row 132 1 v0_2 n0_2 k0_2, .row 132 1 v0_3 n0_3 k0_3]) (l' := [.box b0 185 [Value.int .i64 r21.2.2.ring.p, Value.int .i64 r21.2.2.ring.vars, v0_2, v0_3, Value.int .i64 r21.2.2.many]]) [1] (by decide) rfl), (Inc.rfl _)⟩) rfl (fun w' hw' => (E.move (v := Value.pointer (some (⟨b0, 0, none⟩ : Addr))) rfl)) ?_
      refine FB.t (i := 1) (bs 13 3) rfl (SP.nil ⟨_, (S58.selT (a := [.row 3 1 v32 n33 cs34, .box b0 185 [Value.int .i64 r21.2.2.ring.p, Value.int .i64 r21.2.2.ring.vars, v0_2, v0_3, Value.int .i64 r21.2.2.many], .row 132 1 v0_2 n0_2 k0_2, .row 132 1 v0_3 n0_3 k0_3]) (l' := [.box b0 185 [Value.int .i64 r21.2.2.ring.p, Value.int .i64 r21.2.2.ring.vars, v0_2, v0_3, Value.int .i64 r21.2.2.many]]) [1] (by decide) rfl), (Inc.rfl _)⟩) rfl (fun w' hw' => (E.nilCheck rfl)) ?_
      refine FB.t (i := 2) (bs 13 7) rfl (SP.nil ⟨_, (S58.selT (a := [.row 3 1 v32 n33 cs34, .box b0 185 [Value.int .i64 r21.2.2.ring.p, Value.int .i64 r21.2.2.ring.vars, v0_2, v0_3, Value.int .i64 r21.2.2.many], .row 132 1 v0_2 n0_2 k0_2, .row 132 1 v0_3 n0_3 k0_3]) (l' := [.box b0 185 [Value.int .i64 r21.2.2.ring.p, Value.int .i64 r21.2.2.ring.vars, v0_2, v0_3, Value.int .i64 r21.2.2.many]]) [1] (by decide) rfl), (Inc.rfl _)⟩) rfl (fun w' hw' => (E.fieldAddr tf185_0 rfl)) ?_
      refine FB.t (i := 3) (bs 13 15) rfl (SP.nil ⟨_, (S58.selT (a := [.row 3 1 v32 n33 cs34, .box b0 185 [Value.int .i64 r21.2.2.ring.p, Value.int .i64 r21.2.2.ring.vars, v0_2, v0_3, Value.int .i64 r21.2.2.many], .row 132 1 v0_2 n0_2 k0_2, .row 132 1 v0_3 n0_3 k0_3]) (l' := [.box b0 185 [Value.int .i64 r21.2.2.ring.p, Value.int .i64 r21.2.2.ring.vars, v0_2, v0_3, Value.int .i64 r21.2.2.many]]) [1] (by decide) rfl), (Inc.rfl _)⟩) rfl (fun w' hw' => (E.load rfl (run_loadA Tryz.isAgg137 Tryz.sizeOf137 ((SX.box_now hw' (i := 0) rfl).sub (j := 0) (n := 2) (c := [Value.int .i64 r21.2.2.ring.p, Value.int .i64 r21.2.2.ring.vars]) rfl) rfl))) ?_
      refine FB.t (i := 4) (bs 13 31) rfl (SP.nil ⟨_, (S58.selT (a := [.row 3 1 v32 n33 cs34, .box b0 185 [Value.int .i64 r21.2.2.ring.p, Value.int .i64 r21.2.2.ring.vars, v0_2, v0_3, Value.int .i64 r21.2.2.many], .row 132 1 v0_2 n0_2 k0_2, .row 132 1 v0_3 n0_3 k0_3]) (l' := [.box b0 185 [Value.int .i64 r21.2.2.ring.p, Value.int .i64 r21.2.2.ring.vars, v0_2, v0_3, Value.int .i64 r21.2.2.many]]) [1] (by decide) rfl), (Inc.rfl _)⟩) rfl (fun w' hw' => (E.move (v := Value.pointer (some (⟨b0, 0, none⟩ : Addr))) rfl)) ?_
      refine FB.t (i := 5) (bs 13 63) rfl (SP.nil ⟨_, (S58.selT (a := [.row 3 1 v32 n33 cs34, .box b0 185 [Value.int .i64 r21.2.2.ring.p, Value.int .i64 r21.2.2.ring.vars, v0_2, v0_3, Value.int .i64 r21.2.2.many], .row 132 1 v0_2 n0_2 k0_2, .row 132 1 v0_3 n0_3 k0_3]) (l' := [.box b0 185 [Value.int .i64 r21.2.2.ring.p, Value.int .i64 r21.2.2.ring.vars, v0_2, v0_3, Value.int .i64 r21.2.2.many]]) [1] (by decide) rfl), (Inc.rfl _)⟩) rfl (fun w' hw' => (E.nilCheck rfl)) ?_
      refine FB.t (i := 6) (bs 13 127) rfl (SP.nil ⟨_, (S58.selT (a := [.row 3 1 v32 n33 cs34, .box b0 185 [Value.int .i64 r21.2.2.ring.p, Value.int .i64 r21.2.2.ring.vars, v0_2, v0_3, Value.int .i64 r21.2.2.many], .row 132 1 v0_2 n0_2 k0_2, .row 132 1 v0_3 n0_3 k0_3]) (l' := [.box b0 185 [Value.int .i64 r21.2.2.ring.p, Value.int .i64 r21.2.2.ring.vars, v0_2, v0_3, Value.int .i64 r21.2.2.many]]) [1] (by decide) rfl), (Inc.rfl _)⟩) rfl (fun w' hw' => (E.fieldAddr tf185_0 rfl)) ?_
      refine FB.t (i := 7) (bs 13 255) rfl (SP.nil ⟨_, (S58.selT (a := [.row 3 1 v32 n33 cs34, .box b0 185 [Value.int .i64 r21.2.2.ring.p, Value.int .i64 r21.2.2.ring.vars, v0_2, v0_3, Value.int .i64 r21.2.2.many], .row 132 1 v0_2 n0_2 k0_2, .row 132 1 v0_3 n0_3 k0_3]) (l' := [.box b0 185 [Value.int .i64 r21.2.2.ring.p, Value.int .i64 r21.2.2.ring.vars, v0_2, v0_3, Value.int .i64 r21.2.2.many]]) [1] (by decide) rfl), (Inc.rfl _)⟩) rfl (fun w' hw' => (E.load rfl (run_loadA Tryz.isAgg137 Tryz.sizeOf137 ((SX.box_now hw' (i := 0) rfl).sub (j := 0) (n := 2) (c := [Value.int .i64 r21.2.2.ring.p, Value.int .i64 r21.2.2.ring.vars]) rfl) rfl))) ?_
      refine FB.t (i := 9) (bs 13 767) rfl (SP.nil ⟨_, (S58.selT (a := [.row 3 1 v32 n33 cs34, .box b0 185 [Value.int .i64 r21.2.2.ring.p, Value.int .i64 r21.2.2.ring.vars, v0_2, v0_3, Value.int .i64 r21.2.2.many], .row 132 1 v0_2 n0_2 k0_2, .row 132 1 v0_3 n0_3 k0_3]) (l' := [.box b0 185 [Value.int .i64 r21.2.2.ring.p, Value.int .i64 r21.2.2.ring.vars, v0_2, v0_3, Value.int .i64 r21.2.2.many]]) [1] (by decide) rfl), (Inc.rfl _)⟩) rfl (fun w' hw' => (E.move (v := v30) rfl)) ?_
      refine FB.t (i := 10) (bs 13 1791) rfl (SP.nil ⟨_, (S58.selT (a := [.row 3 1 v32 n33 cs34, .box b0 185 [Value.int .i64 r21.2.2.ring.p, Value.int .i64 r21.2.2.ring.vars, v0_2, v0_3, Value.int .i64 r21.2.2.many], .row 132 1 v0_2 n0_2 k0_2, .row 132 1 v0_3 n0_3 k0_3]) (l' := [.box b0 185 [Value.int .i64 r21.2.2.ring.p, Value.int .i64 r21.2.2.ring.vars, v0_2, v0_3, Value.int .i64 r21.2.2.many]]) [1] (by decide) rfl), (Inc.rfl _)⟩) rfl (fun w' hw' => (E.move (v := Value.int .i64 r51) rfl)) ?_
      refine FB.all1 (i := 8) (by kernel_rfl) ?_
      ·
        refine FC.call (l' := (bs 13 2047)) rfl (by kernel_rfl) rfl rfl rfl (E.call Tryz.call197 (A1 rfl)) (w_impl_ring_zero S58.sl r21.2.2.ring hr59) ?_
        rintro e w61 ⟨H60, v64, n65, cs66, rfl, r63, els67⟩
        refine ⟨_, rfl, ?_⟩
        have els67 := els67.mono (up_le S58.size)
        have S62 := S58.join (l' := (.row 3 1 v64 n65 cs66 :: .row 3 1 v32 n33 cs34 :: .box b0 185 [Value.int .i64 r21.2.2.ring.p, Value.int .i64 r21.2.2.ring.vars, v0_2, v0_3, Value.int .i64 r21.2.2.many] :: .row 132 1 v0_2 n0_2 k0_2 :: .row 132 1 v0_3 n0_3 k0_3 :: L)) r63 rfl
        refine ⟨(SP.nil ⟨_, (S62.selT (a := [.row 3 1 v64 n65 cs66, .row 3 1 v32 n33 cs34, .box b0 185 [Value.int .i64 r21.2.2.ring.p, Value.int .i64 r21.2.2.ring.vars, v0_2, v0_3, Value.int .i64 r21.2.2.many], .row 132 1 v0_2 n0_2 k0_2, .row 132 1 v0_3 n0_3 k0_3]) (l' := [.box b0 185 [Value.int .i64 r21.2.2.ring.p, Value.int .i64 r21.2.2.ring.vars, v0_2, v0_3, Value.int .i64 r21.2.2.many]]) [2] (by decide) rfl), r63.run.inc⟩), ?_⟩
        refine FB.all1 (i := 11) (by kernel_rfl) ?_
        ·
          obtain ⟨H68, S69, i70, h71, nv72⟩ := S62.sealRowU (i := 0) (l' := (.row 3 1 v32 n33 cs34 :: .box b0 185 [Value.int .i64 r21.2.2.ring.p, Value.int .i64 r21.2.2.ring.vars, v0_2, v0_3, Value.int .i64 r21.2.2.many] :: .row 132 1 v0_2 n0_2 k0_2 :: .row 132 1 v0_3 n0_3 k0_3 :: L)) rfl els67 (by decide) rfl
          refine FC.call (l' := (bs 13 4095)) rfl (by kernel_rfl) rfl rfl rfl (E.call Tryz.call144 (A4 rfl rfl rfl rfl)) (w_impl_ring_plus S69.sl r21.2.2.ring v64 r42 (h71.mono upI) v30 r21.1 (h31.mono (r63.run.inc.tr i70)) r51 hr74) ?_
          rintro e w76 ⟨H75, v81, n82, cs83, rfl, r78, els84⟩
          refine ⟨_, rfl, ?_⟩
          obtain ⟨H79, r78, hU80⟩ := St.lendX i70 S62.sl r78
          have els84 := els84.mono (hU80.tr (up_le S62.size))
          have S77 := S62.join (l' := (.row 3 1 v81 n82 cs83 :: .row 3 1 v64 n65 cs66 :: .row 3 1 v32 n33 cs34 :: .box b0 185 [Value.int .i64 r21.2.2.ring.p, Value.int .i64 r21.2.2.ring.vars, v0_2, v0_3, Value.int .i64 r21.2.2.many] :: .row 132 1 v0_2 n0_2 k0_2 :: .row 132 1 v0_3 n0_3 k0_3 :: L)) r78 rfl
          refine ⟨(SP.nil ⟨_, (S77.selT (a := [.row 3 1 v81 n82 cs83, .row 3 1 v64 n65 cs66, .row 3 1 v32 n33 cs34, .box b0 185 [Value.int .i64 r21.2.2.ring.p, Value.int .i64 r21.2.2.ring.vars, v0_2, v0_3, Value.int .i64 r21.2.2.many], .row 132 1 v0_2 n0_2 k0_2, .row 132 1 v0_3 n0_3 k0_3]) (l' := [.box b0 185 [Value.int .i64 r21.2.2.ring.p, Value.int .i64 r21.2.2.ring.vars, v0_2, v0_3, Value.int .i64 r21.2.2.many]]) [3] (by decide) rfl), (r63.run.inc.tr r78.run.inc)⟩), ?_⟩
          refine FB.t (i := 12) (bs 13 8191) rfl (SP.nil ⟨_, (S77.selT (a := [.row 3 1 v81 n82 cs83, .row 3 1 v64 n65 cs66, .row 3 1 v32 n33 cs34, .box b0 185 [Value.int .i64 r21.2.2.ring.p, Value.int .i64 r21.2.2.ring.vars, v0_2, v0_3, Value.int .i64 r21.2.2.many], .row 132 1 v0_2 n0_2 k0_2, .row 132 1 v0_3 n0_3 k0_3]) (l' := [.box b0 185 [Value.int .i64 r21.2.2.ring.p, Value.int .i64 r21.2.2.ring.vars, v0_2, v0_3, Value.int .i64 r21.2.2.many]]) [3] (by decide) rfl), (r63.run.inc.tr r78.run.inc)⟩) rfl (fun w' hw' => (E.assign (v := v81) rfl)) ?_
          exact FB.done (by kernel_rfl) ⟨_, _, _, _, (S77.selT (a := [.row 3 1 v81 n82 cs83, .row 3 1 v64 n65 cs66, .row 3 1 v32 n33 cs34, .box b0 185 [Value.int .i64 r21.2.2.ring.p, Value.int .i64 r21.2.2.ring.vars, v0_2, v0_3, Value.int .i64 r21.2.2.many], .row 132 1 v0_2 n0_2 k0_2, .row 132 1 v0_3 n0_3 k0_3]) (l' := [.row 3 1 v32 n33 cs34, .box b0 185 [Value.int .i64 r21.2.2.ring.p, Value.int .i64 r21.2.2.ring.vars, v0_2, v0_3, Value.int .i64 r21.2.2.many], .row 132 1 v0_2 n0_2 k0_2, .row 132 1 v0_3 n0_3 k0_3, .row 3 1 v81 n82 cs83]) [2, 3, 4, 5, 0] (by decide) rfl), (r63.run.inc.tr r78.run.inc), els84, rfl, rfl, rfl, rfl, rfl⟩
    ·
      rintro f93 w92 ⟨H89, v85, n86, cs87, S90, i91, els88, k94, k95, k96, k97, k98⟩
      refine FW.seq (FW.region ?_)
      refine FL.v (E.move k94) ?_
      refine FL.v (E.nilCheck rfl) ?_
      refine FL.v (E.fieldAddr tf185_3 rfl) ?_
      refine FL.v (E.load rfl (run_load1 Tryz.isAgg3 (S90.box_now (i := 1) rfl) rfl)) ?_
      refine FL.v (E.add rfl rfl) ?_
      obtain ⟨xs99, hm100, hp⟩ := bnd hp
      obtain ⟨v101, w102, n106, cs107, run103, S104, els105, hbl108⟩ := S90.makeEls (P := Tryz.prog) te132 (G := (up w0.heap.size H89)) (En := eI) (x0 := (0 : Int)) hm100 rfl (ones_cons rfl ones_nil) .i64 .i64
      refine FL.v (E.makeSlice rfl rfl run103) ?_
      refine FL.v (E.assign (v := v101) rfl) ?_
      refine FL.nil (FW.seq (FW.seq (FW.region ?_)))
      refine FL.v (E.move k96) ?_
      refine FL.v (E.lenO te132 rfl S104 (i := 1) rfl els35 (by decide)) ?_
      refine FL.v (E.move (v := Value.int .i64 0) rfl) ?_
      refine FL.nil ?_
      obtain ⟨m109, hchk110, hp⟩ := bnd hp
      obtain ⟨q110, hq, hp⟩ := bndR hp
      refine FW.block ?_
      refine FW.mono (FW.forR (S := (List Int)) (X := Empty) (fun (i110 : Nat) (s110 : (List Int)) f w => ∃ H : GH, ∃ v111 : Value, ∃ n112 : Nat, ∃ cs113 : List Value, St H0 w0 H w (.row 3 1 v111 n112 cs113 :: .row 3 1 v32 n33 cs34 :: .box b0 185 [Value.int .i64 r21.2.2.ring.p, Value.int .i64 r21.2.2.ring.vars, v0_2, v0_3, Value.int .i64 r21.2.2.many] :: .row 132 1 v0_2 n0_2 k0_2 :: .row 132 1 v0_3 n0_3 k0_3 :: .row 3 1 v85 n86 cs87 :: L) ∧ Inc H89 H ∧ Els (up w0.heap.size H) eI 1 cs113 s110 ∧ f 56 = Value.int .i64 ((i110 : Nat) : Int) ∧ f 0 = Value.pointer (some (⟨b0, 0, none⟩ : Addr)) ∧ f 5 = v85 ∧ f 7 = Value.int .i64 r36 ∧ f 8 = Value.int .i64 r51 ∧ f 9 = v111 ∧ f 54 = v32 ∧ f 55 = Value.int .i64 (len r21.2.1)) (fun (q : Rs (List Int) Empty) e f w => match q with | .go s110 => e = Exit.exit 0 ∧ (∃ H : GH, ∃ v111 : Value, ∃ n112 : Nat, ∃ cs113 : List Value, St H0 w0 H w (.row 3 1 v111 n112 cs113 :: .row 3 1 v32 n33 cs34 :: .box b0 185 [Value.int .i64 r21.2.2.ring.p, Value.int .i64 r21.2.2.ring.vars, v0_2, v0_3, Value.int .i64 r21.2.2.many] :: .row 132 1 v0_2 n0_2 k0_2 :: .row 132 1 v0_3 n0_3 k0_3 :: .row 3 1 v85 n86 cs87 :: L) ∧ Inc H89 H ∧ Els (up w0.heap.size H) eI 1 cs113 s110 ∧ f 0 = Value.pointer (some (⟨b0, 0, none⟩ : Addr)) ∧ f 5 = v85 ∧ f 7 = Value.int .i64 r36 ∧ f 8 = Value.int .i64 r51 ∧ f 9 = v111) | .rt x => x.elim) hq ⟨_, _, _, _, S104, (Inc.rfl _), els105, rfl, k94, k95, k97, k98, rfl, rfl, rfl⟩ ?_ ?_) ?_
      ·
        clear hp hq
        rintro i110 s110 f119 w118 ⟨H115, v111, n112, cs113, S116, i117, els114, k120, k121, k122, k123, k124, k125, k126, k127⟩ hi110 hj110 o178 hp
        refine FW.seq (FW.region ?_)
        refine FL.v (E.lssT k120 k127 (lss_chk hj110 hchk110)) ?_
        refine FL.nil (FW.seq ?_)
        refine FW.condT rfl rfl ?_
        refine FW.skip (FW.seq (FW.block (FW.seq (FW.region ?_))))
        refine FL.v (E.move k120) ?_
        obtain ⟨x135, hx136, hp⟩ := bnd hp
        obtain ⟨p128, cs129, pt130, l131, at133, rel134⟩ := S116.row_at (i := 1) rfl els35 (by decide) hx136
        obtain rfl := eI_open rel134
        refine FL.v (E.indexAddr te132 k126 k120 pt130) ?_
        refine FL.v (E.load rfl (run_load0 Tryz.isAgg3 at133 rfl)) ?_
        refine FL.v (E.assign (v := Value.int .i64 ((i110 : Nat) : Int)) rfl) ?_
        refine FL.v (E.assign (v := Value.int .i64 x135) rfl) ?_
        refine FL.nil ?_
        obtain ⟨u143, z142, hp⟩ := bnd hp
        obtain ⟨x150, hx151, hp⟩ := bnd hp
        obtain ⟨xs156, hput157, hp⟩ := bnd hp
        refine FW.drawB (SX H0 w0 H115 (.box b0 185 [Value.int .i64 r21.2.2.ring.p, Value.int .i64 r21.2.2.ring.vars, v0_2, v0_3, Value.int .i64 r21.2.2.many] :: L)) (fun f w => ∃ H : GH, ∃ v161 : Value, ∃ n162 : Nat, ∃ cs163 : List Value, St H0 w0 H w (.row 3 1 v161 n162 cs163 :: .row 3 1 v32 n33 cs34 :: .box b0 185 [Value.int .i64 r21.2.2.ring.p, Value.int .i64 r21.2.2.ring.vars, v0_2, v0_3, Value.int .i64 r21.2.2.many] :: .row 132 1 v0_2 n0_2 k0_2 :: .row 132 1 v0_3 n0_3 k0_3 :: .row 3 1 v85 n86 cs87 :: L) ∧ Inc H115 H ∧ Els (up w0.heap.size H) eI 1 cs163 xs156 ∧ f 0 = Value.pointer (some (⟨b0, 0, none⟩ : Addr)) ∧ f 5 = v85 ∧ f 7 = Value.int .i64 r36 ∧ f 8 = Value.int .i64 r51 ∧ f 9 = v161 ∧ f 54 = v32 ∧ f 55 = Value.int .i64 (len r21.2.1) ∧ f 56 = Value.int .i64 ((i110 : Nat) : Int)) (by kernel_rfl) S116.sl ?_ ?_
        ·
          intro w139 r140
          have S141 := S116.call r140
          refine FB.t (i := 0) (bs 19 1) rfl (SP.nil ⟨_, (S141.selT (a := [.row 3 1 v111 n112 cs113, .row 3 1 v32 n33 cs34, .box b0 185 [Value.int .i64 r21.2.2.ring.p, Value.int .i64 r21.2.2.ring.vars, v0_2, v0_3, Value.int .i64 r21.2.2.many], .row 132 1 v0_2 n0_2 k0_2, .row 132 1 v0_3 n0_3 k0_3, .row 3 1 v85 n86 cs87]) (l' := [.box b0 185 [Value.int .i64 r21.2.2.ring.p, Value.int .i64 r21.2.2.ring.vars, v0_2, v0_3, Value.int .i64 r21.2.2.many]]) [2] (by decide) rfl), (Inc.rfl _)⟩) rfl (fun w' hw' => (E.move k125)) ?_
          refine FB.t (i := 1) (bs 19 3) rfl (SP.nil ⟨_, (S141.selT (a := [.row 3 1 v111 n112 cs113, .row 3 1 v32 n33 cs34, .box b0 185 [Value.int .i64 r21.2.2.ring.p, Value.int .i64 r21.2.2.ring.vars, v0_2, v0_3, Value.int .i64 r21.2.2.many], .row 132 1 v0_2 n0_2 k0_2, .row 132 1 v0_3 n0_3 k0_3, .row 3 1 v85 n86 cs87]) (l' := [.box b0 185 [Value.int .i64 r21.2.2.ring.p, Value.int .i64 r21.2.2.ring.vars, v0_2, v0_3, Value.int .i64 r21.2.2.many]]) [2] (by decide) rfl), (Inc.rfl _)⟩) rfl (fun w' hw' => (E.move (v := Value.int .i64 ((i110 : Nat) : Int)) rfl)) ?_
          refine FB.t (i := 2) (bs 19 7) rfl (SP.nil ⟨_, (S141.selT (a := [.row 3 1 v111 n112 cs113, .row 3 1 v32 n33 cs34, .box b0 185 [Value.int .i64 r21.2.2.ring.p, Value.int .i64 r21.2.2.ring.vars, v0_2, v0_3, Value.int .i64 r21.2.2.many], .row 132 1 v0_2 n0_2 k0_2, .row 132 1 v0_3 n0_3 k0_3, .row 3 1 v85 n86 cs87]) (l' := [.box b0 185 [Value.int .i64 r21.2.2.ring.p, Value.int .i64 r21.2.2.ring.vars, v0_2, v0_3, Value.int .i64 r21.2.2.many]]) [2] (by decide) rfl), (Inc.rfl _)⟩) rfl (fun w' hw' => (E.move k121)) ?_
          refine FB.t (i := 3) (bs 19 15) rfl (SP.nil ⟨_, (S141.selT (a := [.row 3 1 v111 n112 cs113, .row 3 1 v32 n33 cs34, .box b0 185 [Value.int .i64 r21.2.2.ring.p, Value.int .i64 r21.2.2.ring.vars, v0_2, v0_3, Value.int .i64 r21.2.2.many], .row 132 1 v0_2 n0_2 k0_2, .row 132 1 v0_3 n0_3 k0_3, .row 3 1 v85 n86 cs87]) (l' := [.box b0 185 [Value.int .i64 r21.2.2.ring.p, Value.int .i64 r21.2.2.ring.vars, v0_2, v0_3, Value.int .i64 r21.2.2.many]]) [2] (by decide) rfl), (Inc.rfl _)⟩) rfl (fun w' hw' => (E.nilCheck rfl)) ?_
          refine FB.t (i := 4) (bs 19 31) rfl (SP.nil ⟨_, (S141.selT (a := [.row 3 1 v111 n112 cs113, .row 3 1 v32 n33 cs34, .box b0 185 [Value.int .i64 r21.2.2.ring.p, Value.int .i64 r21.2.2.ring.vars, v0_2, v0_3, Value.int .i64 r21.2.2.many], .row 132 1 v0_2 n0_2 k0_2, .row 132 1 v0_3 n0_3 k0_3, .row 3 1 v85 n86 cs87]) (l' := [.box b0 185 [Value.int .i64 r21.2.2.ring.p, Value.int .i64 r21.2.2.ring.vars, v0_2, v0_3, Value.int .i64 r21.2.2.many]]) [2] (by decide) rfl), (Inc.rfl _)⟩) rfl (fun w' hw' => (E.fieldAddr tf185_0 rfl)) ?_
          refine FB.t (i := 5) (bs 19 63) rfl (SP.nil ⟨_, (S141.selT (a := [.row 3 1 v111 n112 cs113, .row 3 1 v32 n33 cs34, .box b0 185 [Value.int .i64 r21.2.2.ring.p, Value.int .i64 r21.2.2.ring.vars, v0_2, v0_3, Value.int .i64 r21.2.2.many], .row 132 1 v0_2 n0_2 k0_2, .row 132 1 v0_3 n0_3 k0_3, .row 3 1 v85 n86 cs87]) (l' := [.box b0 185 [Value.int .i64 r21.2.2.ring.p, Value.int .i64 r21.2.2.ring.vars, v0_2, v0_3, Value.int .i64 r21.2.2.many]]) [2] (by decide) rfl), (Inc.rfl _)⟩) rfl (fun w' hw' => (E.fieldAddrN tf137_0 rfl rfl)) ?_
          refine FB.t (i := 6) (bs 19 127) rfl (SP.nil ⟨_, (S141.selT (a := [.row 3 1 v111 n112 cs113, .row 3 1 v32 n33 cs34, .box b0 185 [Value.int .i64 r21.2.2.ring.p, Value.int .i64 r21.2.2.ring.vars, v0_2, v0_3, Value.int .i64 r21.2.2.many], .row 132 1 v0_2 n0_2 k0_2, .row 132 1 v0_3 n0_3 k0_3, .row 3 1 v85 n86 cs87]) (l' := [.box b0 185 [Value.int .i64 r21.2.2.ring.p, Value.int .i64 r21.2.2.ring.vars, v0_2, v0_3, Value.int .i64 r21.2.2.many]]) [2] (by decide) rfl), (Inc.rfl _)⟩) rfl (fun w' hw' => (E.load rfl (run_load1 Tryz.isAgg3 (SX.box_now hw' (i := 0) rfl) rfl))) ?_
          refine FB.t (i := 7) (bs 19 255) rfl (SP.nil ⟨_, (S141.selT (a := [.row 3 1 v111 n112 cs113, .row 3 1 v32 n33 cs34, .box b0 185 [Value.int .i64 r21.2.2.ring.p, Value.int .i64 r21.2.2.ring.vars, v0_2, v0_3, Value.int .i64 r21.2.2.many], .row 132 1 v0_2 n0_2 k0_2, .row 132 1 v0_3 n0_3 k0_3, .row 3 1 v85 n86 cs87]) (l' := [.box b0 185 [Value.int .i64 r21.2.2.ring.p, Value.int .i64 r21.2.2.ring.vars, v0_2, v0_3, Value.int .i64 r21.2.2.many]]) [2] (by decide) rfl), (Inc.rfl _)⟩) rfl (fun w' hw' => (E.move (v := Value.int .i64 x135) rfl)) ?_
          refine FB.t (i := 8) (bs 19 511) rfl (SP.nil ⟨_, (S141.selT (a := [.row 3 1 v111 n112 cs113, .row 3 1 v32 n33 cs34, .box b0 185 [Value.int .i64 r21.2.2.ring.p, Value.int .i64 r21.2.2.ring.vars, v0_2, v0_3, Value.int .i64 r21.2.2.many], .row 132 1 v0_2 n0_2 k0_2, .row 132 1 v0_3 n0_3 k0_3, .row 3 1 v85 n86 cs87]) (l' := [.box b0 185 [Value.int .i64 r21.2.2.ring.p, Value.int .i64 r21.2.2.ring.vars, v0_2, v0_3, Value.int .i64 r21.2.2.many]]) [2] (by decide) rfl), (Inc.rfl _)⟩) rfl (fun w' hw' => (E.sub rfl rfl)) ?_
          refine FB.t (i := 9) (bs 19 1023) rfl (SP.nil ⟨_, (S141.selT (a := [.row 3 1 v111 n112 cs113, .row 3 1 v32 n33 cs34, .box b0 185 [Value.int .i64 r21.2.2.ring.p, Value.int .i64 r21.2.2.ring.vars, v0_2, v0_3, Value.int .i64 r21.2.2.many], .row 132 1 v0_2 n0_2 k0_2, .row 132 1 v0_3 n0_3 k0_3, .row 3 1 v85 n86 cs87]) (l' := [.box b0 185 [Value.int .i64 r21.2.2.ring.p, Value.int .i64 r21.2.2.ring.vars, v0_2, v0_3, Value.int .i64 r21.2.2.many]]) [2] (by decide) rfl), (Inc.rfl _)⟩) rfl (fun w' hw' => (E.move k124)) ?_
          refine FB.t (i := 10) (bs 19 2047) rfl (SP.nil ⟨_, (S141.selT (a := [.row 3 1 v111 n112 cs113, .row 3 1 v32 n33 cs34, .box b0 185 [Value.int .i64 r21.2.2.ring.p, Value.int .i64 r21.2.2.ring.vars, v0_2, v0_3, Value.int .i64 r21.2.2.many], .row 132 1 v0_2 n0_2 k0_2, .row 132 1 v0_3 n0_3 k0_3, .row 3 1 v85 n86 cs87]) (l' := [.box b0 185 [Value.int .i64 r21.2.2.ring.p, Value.int .i64 r21.2.2.ring.vars, v0_2, v0_3, Value.int .i64 r21.2.2.many]]) [2] (by decide) rfl), (Inc.rfl _)⟩) rfl (fun w' hw' => (E.mul rfl rfl)) ?_
          refine FB.t (i := 11) (bs 19 4095) rfl (SP.nil ⟨_, (S141.selT (a := [.row 3 1 v111 n112 cs113, .row 3 1 v32 n33 cs34, .box b0 185 [Value.int .i64 r21.2.2.ring.p, Value.int .i64 r21.2.2.ring.vars, v0_2, v0_3, Value.int .i64 r21.2.2.many], .row 132 1 v0_2 n0_2 k0_2, .row 132 1 v0_3 n0_3 k0_3, .row 3 1 v85 n86 cs87]) (l' := [.box b0 185 [Value.int .i64 r21.2.2.ring.p, Value.int .i64 r21.2.2.ring.vars, v0_2, v0_3, Value.int .i64 r21.2.2.many]]) [2] (by decide) rfl), (Inc.rfl _)⟩) rfl (fun w' hw' => (E.move k121)) ?_
          refine FB.t (i := 12) (bs 19 8191) rfl (SP.nil ⟨_, (S141.selT (a := [.row 3 1 v111 n112 cs113, .row 3 1 v32 n33 cs34, .box b0 185 [Value.int .i64 r21.2.2.ring.p, Value.int .i64 r21.2.2.ring.vars, v0_2, v0_3, Value.int .i64 r21.2.2.many], .row 132 1 v0_2 n0_2 k0_2, .row 132 1 v0_3 n0_3 k0_3, .row 3 1 v85 n86 cs87]) (l' := [.box b0 185 [Value.int .i64 r21.2.2.ring.p, Value.int .i64 r21.2.2.ring.vars, v0_2, v0_3, Value.int .i64 r21.2.2.many]]) [2] (by decide) rfl), (Inc.rfl _)⟩) rfl (fun w' hw' => (E.nilCheck rfl)) ?_
          refine FB.t (i := 13) (bs 19 16383) rfl (SP.nil ⟨_, (S141.selT (a := [.row 3 1 v111 n112 cs113, .row 3 1 v32 n33 cs34, .box b0 185 [Value.int .i64 r21.2.2.ring.p, Value.int .i64 r21.2.2.ring.vars, v0_2, v0_3, Value.int .i64 r21.2.2.many], .row 132 1 v0_2 n0_2 k0_2, .row 132 1 v0_3 n0_3 k0_3, .row 3 1 v85 n86 cs87]) (l' := [.box b0 185 [Value.int .i64 r21.2.2.ring.p, Value.int .i64 r21.2.2.ring.vars, v0_2, v0_3, Value.int .i64 r21.2.2.many]]) [2] (by decide) rfl), (Inc.rfl _)⟩) rfl (fun w' hw' => (E.fieldAddr tf185_0 rfl)) ?_
          refine FB.t (i := 14) (bs 19 32767) rfl (SP.nil ⟨_, (S141.selT (a := [.row 3 1 v111 n112 cs113, .row 3 1 v32 n33 cs34, .box b0 185 [Value.int .i64 r21.2.2.ring.p, Value.int .i64 r21.2.2.ring.vars, v0_2, v0_3, Value.int .i64 r21.2.2.many], .row 132 1 v0_2 n0_2 k0_2, .row 132 1 v0_3 n0_3 k0_3, .row 3 1 v85 n86 cs87]) (l' := [.box b0 185 [Value.int .i64 r21.2.2.ring.p, Value.int .i64 r21.2.2.ring.vars, v0_2, v0_3, Value.int .i64 r21.2.2.many]]) [2] (by decide) rfl), (Inc.rfl _)⟩) rfl (fun w' hw' => (E.fieldAddrN tf137_0 rfl rfl)) ?_
          refine FB.t (i := 15) (bs 19 65535) rfl (SP.nil ⟨_, (S141.selT (a := [.row 3 1 v111 n112 cs113, .row 3 1 v32 n33 cs34, .box b0 185 [Value.int .i64 r21.2.2.ring.p, Value.int .i64 r21.2.2.ring.vars, v0_2, v0_3, Value.int .i64 r21.2.2.many], .row 132 1 v0_2 n0_2 k0_2, .row 132 1 v0_3 n0_3 k0_3, .row 3 1 v85 n86 cs87]) (l' := [.box b0 185 [Value.int .i64 r21.2.2.ring.p, Value.int .i64 r21.2.2.ring.vars, v0_2, v0_3, Value.int .i64 r21.2.2.many]]) [2] (by decide) rfl), (Inc.rfl _)⟩) rfl (fun w' hw' => (E.load rfl (run_load1 Tryz.isAgg3 (SX.box_now hw' (i := 0) rfl) rfl))) ?_
          refine FB.t (i := 16) (bs 19 131071) rfl (SP.nil ⟨_, (S141.selT (a := [.row 3 1 v111 n112 cs113, .row 3 1 v32 n33 cs34, .box b0 185 [Value.int .i64 r21.2.2.ring.p, Value.int .i64 r21.2.2.ring.vars, v0_2, v0_3, Value.int .i64 r21.2.2.many], .row 132 1 v0_2 n0_2 k0_2, .row 132 1 v0_3 n0_3 k0_3, .row 3 1 v85 n86 cs87]) (l' := [.box b0 185 [Value.int .i64 r21.2.2.ring.p, Value.int .i64 r21.2.2.ring.vars, v0_2, v0_3, Value.int .i64 r21.2.2.many]]) [2] (by decide) rfl), (Inc.rfl _)⟩) rfl (fun w' hw' => (E.rem rfl rfl (nz_ne z142))) ?_
          obtain ⟨p144, cs145, pt146, l147, at148, rel149, hall152⟩ := S141.row_atA (i := 0) rfl els114 (by decide) hx151
          obtain rfl := eI_open rel149
          refine FB.t (i := 17) (bs 19 262143) rfl (SP.nil ⟨_, (S141.selT (a := [.row 3 1 v111 n112 cs113, .row 3 1 v32 n33 cs34, .box b0 185 [Value.int .i64 r21.2.2.ring.p, Value.int .i64 r21.2.2.ring.vars, v0_2, v0_3, Value.int .i64 r21.2.2.many], .row 132 1 v0_2 n0_2 k0_2, .row 132 1 v0_3 n0_3 k0_3, .row 3 1 v85 n86 cs87]) (l' := [.box b0 185 [Value.int .i64 r21.2.2.ring.p, Value.int .i64 r21.2.2.ring.vars, v0_2, v0_3, Value.int .i64 r21.2.2.many]]) [2] (by decide) rfl), (Inc.rfl _)⟩) rfl (fun w' hw' => (E.indexAddr te132 rfl rfl pt146)) ?_
          refine FB.all1 (i := 18) (by kernel_rfl) ?_
          ·
            obtain ⟨w153, cs159, run154, S155, els158, ce160⟩ := S141.putEls (P := Tryz.prog) (t := 3) (i := 0) rfl els114 hput157 pt146 Tryz.sizeOf3 (u := Value.int .i64 ((wr ((wr (r21.2.2.ring.p - x135)) * r51)).tmod r21.2.2.ring.p)) (c := [Value.int .i64 ((wr ((wr (r21.2.2.ring.p - x135)) * r51)).tmod r21.2.2.ring.p)]) rfl rfl (ones_cons rfl ones_nil) rfl
            have S155 : St H0 w0 H115 w153 (.row 3 1 v111 n112 cs159 :: .row 3 1 v32 n33 cs34 :: .box b0 185 [Value.int .i64 r21.2.2.ring.p, Value.int .i64 r21.2.2.ring.vars, v0_2, v0_3, Value.int .i64 r21.2.2.many] :: .row 132 1 v0_2 n0_2 k0_2 :: .row 132 1 v0_3 n0_3 k0_3 :: .row 3 1 v85 n86 cs87 :: L) := S155
            refine FC.act (l' := (bs 19 524287)) rfl (by kernel_rfl) rfl rfl (E.store rfl rfl run154) ?_
            refine ⟨(SP.nil ⟨_, (S155.selT (a := [.row 3 1 v111 n112 cs159, .row 3 1 v32 n33 cs34, .box b0 185 [Value.int .i64 r21.2.2.ring.p, Value.int .i64 r21.2.2.ring.vars, v0_2, v0_3, Value.int .i64 r21.2.2.many], .row 132 1 v0_2 n0_2 k0_2, .row 132 1 v0_3 n0_3 k0_3, .row 3 1 v85 n86 cs87]) (l' := [.box b0 185 [Value.int .i64 r21.2.2.ring.p, Value.int .i64 r21.2.2.ring.vars, v0_2, v0_3, Value.int .i64 r21.2.2.many]]) [2] (by decide) rfl), (Inc.rfl _)⟩), ?_⟩
            exact FB.done (by kernel_rfl) ⟨_, _, _, _, S155, (Inc.rfl _), els158, k121, k122, k123, k124, k125, k126, k127, k120⟩
        ·
          rintro f169 w168 ⟨H165, v161, n162, cs163, S166, i167, els164, k170, k171, k172, k173, k174, k175, k176, k177⟩
          refine FW.region ?_
          refine FL.v (E.add k177 rfl) ?_
          refine FL.v (E.move (v := Value.int .i64 (wr (((i110 : Nat) : Int) + 1))) rfl) ?_
          refine FL.nil ?_
          obtain rfl := Option.some.inj hp
          exact ⟨rfl, ⟨_, _, _, _, S166, (i117.tr i167), els164, (nat_succ rfl hj110 (chk_le hchk110)), k170, k171, k172, k173, k174, k175, k176⟩⟩
      ·
        clear hp hq
        rintro s110 f598 w597 ⟨H594, v111, n112, cs113, S595, i596, els114, k599, k600, k601, k602, k603, k604, k605, k606⟩
        refine FW.seq (FW.region ?_)
        refine FL.v (E.lss k599 k606) ?_
        refine FL.nil (FW.seq ?_)
        refine FW.condF rfl (dlt_maxchk hchk110) ?_
        refine FW.exit ?_
        exact ⟨nofun, rfl, ⟨_, _, _, _, S595, i596, els114, k600, k601, k602, k603, k604⟩⟩
      ·
        clear hq
        intro e f183 w182 hD
        rcases q110 with s110 | x110
        ·
          obtain ⟨rfl, hD⟩ := hD
          obtain ⟨H179, v111, n112, cs113, S180, i181, els114, k184, k186, k187, k188, k189⟩ := hD
          replace hp := el_go hp
          refine FW.seq (FW.region ?_)
          refine FL.v (E.move k189) ?_
          refine FL.v (E.move k184) ?_
          refine FL.v (E.nilCheck rfl) ?_
          refine FL.v (E.fieldAddr tf185_3 rfl) ?_
          refine FL.v (E.load rfl (run_load1 Tryz.isAgg3 (S180.box_now (i := 2) rfl) rfl)) ?_
          refine FL.v (E.move k188) ?_
          obtain ⟨x196, hx197, hp⟩ := bnd hp
          obtain ⟨p190, cs191, pt192, l193, at194, rel195⟩ := S180.row_at (i := 0) rfl els114 (by decide) hx197
          obtain rfl := eI_open rel195
          refine FL.v (E.indexAddr te132 rfl rfl pt192) ?_
          obtain ⟨xs201, hput202, hp⟩ := bnd hp
          obtain ⟨w198, cs204, run199, S200, els203, ce205⟩ := S180.putEls (P := Tryz.prog) (t := 3) (i := 0) rfl els114 hput202 pt192 Tryz.sizeOf3 (u := Value.int .i64 r51) (c := [Value.int .i64 r51]) rfl rfl (ones_cons rfl ones_nil) rfl
          have S200 : St H0 w0 H179 w198 (.row 3 1 v111 n112 cs204 :: .row 3 1 v32 n33 cs34 :: .box b0 185 [Value.int .i64 r21.2.2.ring.p, Value.int .i64 r21.2.2.ring.vars, v0_2, v0_3, Value.int .i64 r21.2.2.many] :: .row 132 1 v0_2 n0_2 k0_2 :: .row 132 1 v0_3 n0_3 k0_3 :: .row 3 1 v85 n86 cs87 :: L) := S200
          refine FL.act rfl rfl (E.store rfl rfl run199) ?_
          refine FL.nil (FW.seq (FW.region ?_))
          refine FL.v (E.move k184) ?_
          refine FL.v (E.nilCheck rfl) ?_
          refine FL.v (E.fieldAddr tf185_3 rfl) ?_
          refine FL.v (E.load rfl (run_load1 Tryz.isAgg3 (S200.box_now (i := 2) rfl) rfl)) ?_
          refine FL.v (E.add rfl rfl) ?_
          refine FL.v (E.nilCheck rfl) ?_
          refine FL.v (E.fieldAddr tf185_3 rfl) ?_
          obtain ⟨w206, run207, S208⟩ := S200.store (P := Tryz.prog) (t := 3) (i := 2) (j := 4) (cs' := [Value.int .i64 r21.2.2.ring.p, Value.int .i64 r21.2.2.ring.vars, v0_2, v0_3, Value.int .i64 (wr (r21.2.2.many + 1))]) (l' := (.row 3 1 v111 n112 cs204 :: .row 3 1 v32 n33 cs34 :: .box b0 185 [Value.int .i64 r21.2.2.ring.p, Value.int .i64 r21.2.2.ring.vars, v0_2, v0_3, Value.int .i64 (wr (r21.2.2.many + 1))] :: .row 132 1 v0_2 n0_2 k0_2 :: .row 132 1 v0_3 n0_3 k0_3 :: .row 3 1 v85 n86 cs87 :: L)) (v := Value.int .i64 (wr (r21.2.2.many + 1))) (c := [Value.int .i64 (wr (r21.2.2.many + 1))]) rfl Tryz.sizeOf3 rfl rfl (ones_cons rfl ones_nil) (Nat.le_of_ble_eq_true rfl) rfl rfl
          refine FL.act rfl rfl (E.store rfl rfl run207) ?_
          refine FL.nil (FW.seq (FW.seq (FW.region ?_)))
          refine FL.v (E.move k184) ?_
          refine FL.v (E.nilCheck rfl) ?_
          refine FL.v (E.fieldAddr tf185_1 rfl) ?_
          refine FL.v (E.load rfl (run_load1 Tryz.isAgg138 (S208.box_now (i := 2) rfl) rfl)) ?_
          refine FL.v (E.lenO te138 rfl S208 (i := 3) rfl p0_2 (by decide)) ?_
          refine FL.v (E.move (v := Value.int .i64 0) rfl) ?_
          refine FL.nil ?_
          obtain ⟨m209, hchk210, hp⟩ := bnd hp
          obtain ⟨q210, hq, hp⟩ := bndR hp
          refine FW.block ?_
          refine FW.mono (FW.forR (S := ((List (List Int)) × (List (List Int)) × Int × Int × Int)) (X := Empty) (fun (i210 : Nat) (s210 : ((List (List Int)) × (List (List Int)) × Int × Int × Int)) f w => ∃ H : GH, ∃ cs211 : List Value, ∃ cs214 : List Value, St H0 w0 H w (.row 3 1 v111 n112 cs204 :: .box b0 185 [Value.int .i64 s210.2.2.1, Value.int .i64 s210.2.2.2.1, v0_2, v0_3, Value.int .i64 s210.2.2.2.2] :: .row 132 1 v0_2 n0_2 cs211 :: .row 132 1 v0_3 n0_3 cs214 :: .row 3 1 v85 n86 cs87 :: L) ∧ Inc H179 H ∧ Els (up w0.heap.size H) (eL eI 1) 1 cs211 s210.1 ∧ Els (up w0.heap.size H) (eL eI 1) 1 cs214 s210.2.1 ∧ (bl cs211).Nodup ∧ f 99 = Value.int .i64 ((i210 : Nat) : Int) ∧ f 0 = Value.pointer (some (⟨b0, 0, none⟩ : Addr)) ∧ f 5 = v85 ∧ f 7 = Value.int .i64 r36 ∧ f 9 = v111 ∧ f 97 = v0_2 ∧ f 98 = Value.int .i64 (len a0.rows)) (fun (q : Rs ((List (List Int)) × (List (List Int)) × Int × Int × Int) Empty) e f w => match q with | .go s210 => e = Exit.exit 2 ∧ (∃ H : GH, ∃ cs211 : List Value, ∃ cs214 : List Value, St H0 w0 H w (.row 3 1 v111 n112 cs204 :: .box b0 185 [Value.int .i64 s210.2.2.1, Value.int .i64 s210.2.2.2.1, v0_2, v0_3, Value.int .i64 s210.2.2.2.2] :: .row 132 1 v0_2 n0_2 cs211 :: .row 132 1 v0_3 n0_3 cs214 :: .row 3 1 v85 n86 cs87 :: L) ∧ Inc H179 H ∧ Els (up w0.heap.size H) (eL eI 1) 1 cs211 s210.1 ∧ Els (up w0.heap.size H) (eL eI 1) 1 cs214 s210.2.1 ∧ (bl cs211).Nodup ∧ f 0 = Value.pointer (some (⟨b0, 0, none⟩ : Addr)) ∧ f 5 = v85 ∧ f 9 = v111) | .rt x => x.elim) hq ⟨_, _, _, (S208.selT (a := [.row 3 1 v111 n112 cs204, .row 3 1 v32 n33 cs34, .box b0 185 [Value.int .i64 r21.2.2.ring.p, Value.int .i64 r21.2.2.ring.vars, v0_2, v0_3, Value.int .i64 (wr (r21.2.2.many + 1))], .row 132 1 v0_2 n0_2 k0_2, .row 132 1 v0_3 n0_3 k0_3, .row 3 1 v85 n86 cs87]) (l' := [.row 3 1 v111 n112 cs204, .box b0 185 [Value.int .i64 r21.2.2.ring.p, Value.int .i64 r21.2.2.ring.vars, v0_2, v0_3, Value.int .i64 (wr (r21.2.2.many + 1))], .row 132 1 v0_2 n0_2 k0_2, .row 132 1 v0_3 n0_3 k0_3, .row 3 1 v85 n86 cs87]) [0, 2, 3, 4, 5] (by decide) rfl), (Inc.rfl _), (p0_2.mono (up_mono ((i29.tr i91).tr i181))), (p0_3.mono (up_mono ((i29.tr i91).tr i181))), d0_2, rfl, k184, k186, k187, k189, rfl, rfl⟩ ?_ ?_) ?_
          ·
            clear hp hq
            rintro i210 s210 f220 w219 ⟨H216, cs211, cs214, S217, i218, els212, els215, nd213, k221, k222, k223, k224, k225, k226, k227⟩ hi210 hj210 o522 hp
            refine FW.seq (FW.region ?_)
            refine FL.v (E.lssT k221 k227 (lss_chk hj210 hchk210)) ?_
            refine FL.nil (FW.seq ?_)
            refine FW.condT rfl rfl ?_
            refine FW.skip (FW.seq (FW.block (FW.seq (FW.region ?_))))
            refine FL.v (E.move k221) ?_
            obtain ⟨x234, hx235, hp⟩ := bnd hp
            obtain ⟨p228, cs229, pt230, l231, at232, rel233⟩ := S217.row_at (i := 2) rfl els212 (by decide) hx235
            obtain ⟨v236, rfl, h237⟩ := eL_open rel233
            refine FL.v (E.indexAddr te138 k226 k221 pt230) ?_
            refine FL.v (E.load rfl (run_load0 Tryz.isAgg132 at232 rfl)) ?_
            refine FL.v (E.assign (v := Value.int .i64 ((i210 : Nat) : Int)) rfl) ?_
            refine FL.v (E.assign (v := v236) rfl) ?_
            refine FL.nil (FW.seq ?_)
            obtain ⟨x247, hx248, hp⟩ := bnd hp
            obtain ⟨r252, hr253, hp⟩ := bnd hp
            obtain ⟨x268, hx269, hp⟩ := bnd hp
            obtain ⟨xs273, hz274, hp⟩ := bnd hp
            obtain ⟨x288, hx289, hp⟩ := bnd hp
            refine FW.drawB (Sl H216) (fun f w => ∃ H : GH, ∃ cs298 : List Value, ∃ v299 : Value, ∃ n300 : Nat, ∃ cs301 : List Value, St H0 w0 H w (.row 3 1 v111 n112 cs204 :: .box b0 185 [Value.int .i64 s210.2.2.1, Value.int .i64 s210.2.2.2.1, v0_2, v0_3, Value.int .i64 s210.2.2.2.2] :: .row 132 1 v0_2 n0_2 cs211 :: .row 132 1 v0_3 n0_3 cs298 :: .row 3 1 v85 n86 cs87 :: .row 3 1 v299 n300 cs301 :: L) ∧ Inc H216 H ∧ Els (up w0.heap.size H) eI 1 cs301 xs273 ∧ Pend (up w0.heap.size H) (eL eI 1) cs298 s210.2.1 ((i210 : Nat) : Int) v299 ∧ f 0 = Value.pointer (some (⟨b0, 0, none⟩ : Addr)) ∧ f 5 = v85 ∧ f 7 = Value.int .i64 r36 ∧ f 9 = v111 ∧ f 12 = Value.int .i64 ((i210 : Nat) : Int) ∧ f 13 = v236 ∧ f 97 = v0_2 ∧ f 98 = Value.int .i64 (len a0.rows) ∧ f 99 = Value.int .i64 ((i210 : Nat) : Int)) (by kernel_rfl) S217.sl ?_ ?_
            ·
              intro w238 r239
              have S240 := S217.call r239
              refine FB.phase [] (fun w => WAt w (Addr.add ⟨b0, 0, none⟩ 4) [Value.int .i64 s210.2.2.2.2]) ?_
              refine FB.phase [28] (fun w => WAt w (Addr.add ⟨b0, 0, none⟩ 3) [v0_3]) ?_
              refine FB.t (i := 0) (bs 29 1) rfl (SP.on ((S240.box_now (i := 1) rfl).sub (j := 3) (n := 1) (c := [v0_3]) rfl) (SP.on ((S240.box_now (i := 1) rfl).sub (j := 4) (n := 1) (c := [Value.int .i64 s210.2.2.2.2]) rfl) (SP.nil S240.sl))) rfl (fun w' hw' => (E.move k222)) ?_
              refine FB.t (i := 1) (bs 29 3) rfl (SP.on ((S240.box_now (i := 1) rfl).sub (j := 3) (n := 1) (c := [v0_3]) rfl) (SP.on ((S240.box_now (i := 1) rfl).sub (j := 4) (n := 1) (c := [Value.int .i64 s210.2.2.2.2]) rfl) (SP.nil S240.sl))) rfl (fun w' hw' => (E.nilCheck rfl)) ?_
              refine FB.t (i := 2) (bs 29 7) rfl (SP.on ((S240.box_now (i := 1) rfl).sub (j := 3) (n := 1) (c := [v0_3]) rfl) (SP.on ((S240.box_now (i := 1) rfl).sub (j := 4) (n := 1) (c := [Value.int .i64 s210.2.2.2.2]) rfl) (SP.nil S240.sl))) rfl (fun w' hw' => (E.fieldAddr tf185_2 rfl)) ?_
              refine FB.p (i := 3) (bs 29 15) 0 [27, 28] rfl (SP.on ((S240.box_now (i := 1) rfl).sub (j := 3) (n := 1) (c := [v0_3]) rfl) (SP.on ((S240.box_now (i := 1) rfl).sub (j := 4) (n := 1) (c := [Value.int .i64 s210.2.2.2.2]) rfl) (SP.nil S240.sl))) rfl rfl (fun w' hw' => (E.load rfl (run_load0 Tryz.isAgg138 hw' rfl))) ?_
              refine FB.t (i := 4) (bs 29 31) rfl (SP.on ((S240.box_now (i := 1) rfl).sub (j := 3) (n := 1) (c := [v0_3]) rfl) (SP.on ((S240.box_now (i := 1) rfl).sub (j := 4) (n := 1) (c := [Value.int .i64 s210.2.2.2.2]) rfl) (SP.nil S240.sl))) rfl (fun w' hw' => (E.move (v := Value.int .i64 ((i210 : Nat) : Int)) rfl)) ?_
              refine FB.t (i := 5) (bs 29 63) rfl (SP.on ((S240.box_now (i := 1) rfl).sub (j := 3) (n := 1) (c := [v0_3]) rfl) (SP.on ((S240.box_now (i := 1) rfl).sub (j := 4) (n := 1) (c := [Value.int .i64 s210.2.2.2.2]) rfl) (SP.nil S240.sl))) rfl (fun w' hw' => (E.move k222)) ?_
              refine FB.t (i := 6) (bs 29 127) rfl (SP.on ((S240.box_now (i := 1) rfl).sub (j := 3) (n := 1) (c := [v0_3]) rfl) (SP.on ((S240.box_now (i := 1) rfl).sub (j := 4) (n := 1) (c := [Value.int .i64 s210.2.2.2.2]) rfl) (SP.nil S240.sl))) rfl (fun w' hw' => (E.nilCheck rfl)) ?_
              refine FB.t (i := 7) (bs 29 255) rfl (SP.on ((S240.box_now (i := 1) rfl).sub (j := 3) (n := 1) (c := [v0_3]) rfl) (SP.on ((S240.box_now (i := 1) rfl).sub (j := 4) (n := 1) (c := [Value.int .i64 s210.2.2.2.2]) rfl) (SP.nil S240.sl))) rfl (fun w' hw' => (E.fieldAddr tf185_2 rfl)) ?_
              refine FB.p (i := 8) (bs 29 511) 0 [10, 11, 12, 26, 27, 28] rfl (SP.on ((S240.box_now (i := 1) rfl).sub (j := 3) (n := 1) (c := [v0_3]) rfl) (SP.on ((S240.box_now (i := 1) rfl).sub (j := 4) (n := 1) (c := [Value.int .i64 s210.2.2.2.2]) rfl) (SP.nil S240.sl))) rfl rfl (fun w' hw' => (E.load rfl (run_load0 Tryz.isAgg138 hw' rfl))) ?_
              refine FB.t (i := 9) (bs 29 1023) rfl (SP.on ((S240.box_now (i := 1) rfl).sub (j := 3) (n := 1) (c := [v0_3]) rfl) (SP.on ((S240.box_now (i := 1) rfl).sub (j := 4) (n := 1) (c := [Value.int .i64 s210.2.2.2.2]) rfl) (SP.nil S240.sl))) rfl (fun w' hw' => (E.move (v := Value.int .i64 ((i210 : Nat) : Int)) rfl)) ?_
              obtain ⟨p241, cs242, pt243, l244, at245, rel246, hall249⟩ := S240.row_atA (i := 3) rfl els215 (by decide) hx248
              obtain ⟨v250, rfl, h251⟩ := eL_open rel246
              refine FB.t (i := 10) (bs 29 2047) rfl (SP.on ((S240.box_now (i := 1) rfl).sub (j := 3) (n := 1) (c := [v0_3]) rfl) (SP.on ((S240.box_now (i := 1) rfl).sub (j := 4) (n := 1) (c := [Value.int .i64 s210.2.2.2.2]) rfl) (SP.nil S240.sl))) rfl (fun w' hw' => (E.indexAddr te138 rfl rfl pt243)) ?_
              refine FB.phase [28] (fun w' => WAt w' p241 [v250]) ?_
              refine FB.p (i := 11) (bs 29 4095) 0 [12, 26, 27, 28] rfl (SP.on (hall249 _ _ _ 3 S240 rfl) (SP.on ((S240.box_now (i := 1) rfl).sub (j := 3) (n := 1) (c := [v0_3]) rfl) (SP.on ((S240.box_now (i := 1) rfl).sub (j := 4) (n := 1) (c := [Value.int .i64 s210.2.2.2.2]) rfl) (SP.nil S240.sl)))) rfl rfl (fun w' hw' => (E.load rfl (run_load0 Tryz.isAgg132 hw' rfl))) ?_
              refine FB.t (i := 13) (bs 29 12287) rfl (SP.on (hall249 _ _ _ 3 S240 rfl) (SP.on ((S240.box_now (i := 1) rfl).sub (j := 3) (n := 1) (c := [v0_3]) rfl) (SP.on ((S240.box_now (i := 1) rfl).sub (j := 4) (n := 1) (c := [Value.int .i64 s210.2.2.2.2]) rfl) (SP.nil S240.sl)))) rfl (fun w' hw' => (E.move k222)) ?_
              refine FB.t (i := 14) (bs 29 28671) rfl (SP.on (hall249 _ _ _ 3 S240 rfl) (SP.on ((S240.box_now (i := 1) rfl).sub (j := 3) (n := 1) (c := [v0_3]) rfl) (SP.on ((S240.box_now (i := 1) rfl).sub (j := 4) (n := 1) (c := [Value.int .i64 s210.2.2.2.2]) rfl) (SP.nil S240.sl)))) rfl (fun w' hw' => (E.nilCheck rfl)) ?_
              refine FB.t (i := 15) (bs 29 61439) rfl (SP.on (hall249 _ _ _ 3 S240 rfl) (SP.on ((S240.box_now (i := 1) rfl).sub (j := 3) (n := 1) (c := [v0_3]) rfl) (SP.on ((S240.box_now (i := 1) rfl).sub (j := 4) (n := 1) (c := [Value.int .i64 s210.2.2.2.2]) rfl) (SP.nil S240.sl)))) rfl (fun w' hw' => (E.fieldAddr tf185_3 rfl)) ?_
              refine FB.p (i := 16) (bs 29 126975) 2 [25, 26, 27, 28] rfl (SP.on (hall249 _ _ _ 3 S240 rfl) (SP.on ((S240.box_now (i := 1) rfl).sub (j := 3) (n := 1) (c := [v0_3]) rfl) (SP.on ((S240.box_now (i := 1) rfl).sub (j := 4) (n := 1) (c := [Value.int .i64 s210.2.2.2.2]) rfl) (SP.nil S240.sl)))) rfl rfl (fun w' hw' => (E.load rfl (run_load0 Tryz.isAgg3 hw' rfl))) ?_
              refine FB.t (i := 17) (bs 29 258047) rfl (SP.on (hall249 _ _ _ 3 S240 rfl) (SP.on ((S240.box_now (i := 1) rfl).sub (j := 3) (n := 1) (c := [v0_3]) rfl) (SP.on ((S240.box_now (i := 1) rfl).sub (j := 4) (n := 1) (c := [Value.int .i64 s210.2.2.2.2]) rfl) (SP.nil S240.sl)))) rfl (fun w' hw' => (E.move k222)) ?_
              refine FB.t (i := 18) (bs 29 520191) rfl (SP.on (hall249 _ _ _ 3 S240 rfl) (SP.on ((S240.box_now (i := 1) rfl).sub (j := 3) (n := 1) (c := [v0_3]) rfl) (SP.on ((S240.box_now (i := 1) rfl).sub (j := 4) (n := 1) (c := [Value.int .i64 s210.2.2.2.2]) rfl) (SP.nil S240.sl)))) rfl (fun w' hw' => (E.nilCheck rfl)) ?_
              refine FB.t (i := 19) (bs 29 1044479) rfl (SP.on (hall249 _ _ _ 3 S240 rfl) (SP.on ((S240.box_now (i := 1) rfl).sub (j := 3) (n := 1) (c := [v0_3]) rfl) (SP.on ((S240.box_now (i := 1) rfl).sub (j := 4) (n := 1) (c := [Value.int .i64 s210.2.2.2.2]) rfl) (SP.nil S240.sl)))) rfl (fun w' hw' => (E.fieldAddr tf185_2 rfl)) ?_
              refine FB.p (i := 20) (bs 29 2093055) 1 [22, 23, 24, 25, 26, 27, 28] rfl (SP.on (hall249 _ _ _ 3 S240 rfl) (SP.on ((S240.box_now (i := 1) rfl).sub (j := 3) (n := 1) (c := [v0_3]) rfl) (SP.on ((S240.box_now (i := 1) rfl).sub (j := 4) (n := 1) (c := [Value.int .i64 s210.2.2.2.2]) rfl) (SP.nil S240.sl)))) rfl rfl (fun w' hw' => (E.load rfl (run_load0 Tryz.isAgg138 hw' rfl))) ?_
              refine FB.t (i := 21) (bs 29 4190207) rfl (SP.on (hall249 _ _ _ 3 S240 rfl) (SP.on ((S240.box_now (i := 1) rfl).sub (j := 3) (n := 1) (c := [v0_3]) rfl) (SP.on ((S240.box_now (i := 1) rfl).sub (j := 4) (n := 1) (c := [Value.int .i64 s210.2.2.2.2]) rfl) (SP.nil S240.sl)))) rfl (fun w' hw' => (E.move (v := Value.int .i64 ((i210 : Nat) : Int)) rfl)) ?_
              obtain ⟨p262, cs263, pt264, l265, at266, rel267, hall270⟩ := S240.row_atA (i := 3) rfl els215 (by decide) hx269
              obtain ⟨v271, rfl, h272⟩ := eL_open rel267
              refine FB.t (i := 22) (bs 29 8384511) rfl (SP.on (hall249 _ _ _ 3 S240 rfl) (SP.on ((S240.box_now (i := 1) rfl).sub (j := 3) (n := 1) (c := [v0_3]) rfl) (SP.on ((S240.box_now (i := 1) rfl).sub (j := 4) (n := 1) (c := [Value.int .i64 s210.2.2.2.2]) rfl) (SP.nil S240.sl)))) rfl (fun w' hw' => (E.indexAddr te138 rfl rfl pt264)) ?_
              refine FB.phase [28] (fun w' => WAt w' p262 [v271]) ?_
              refine FB.p (i := 23) (bs 29 16773119) 0 [24, 25, 26, 27, 28] rfl (SP.on (hall270 _ _ _ 3 S240 rfl) (SP.on (hall249 _ _ _ 3 S240 rfl) (SP.on ((S240.box_now (i := 1) rfl).sub (j := 3) (n := 1) (c := [v0_3]) rfl) (SP.on ((S240.box_now (i := 1) rfl).sub (j := 4) (n := 1) (c := [Value.int .i64 s210.2.2.2.2]) rfl) (SP.nil S240.sl))))) rfl rfl (fun w' hw' => (E.load rfl (run_load0 Tryz.isAgg132 hw' rfl))) ?_
              refine FB.t (i := 24) (bs 29 33550335) rfl (SP.on (hall270 _ _ _ 3 S240 rfl) (SP.on (hall249 _ _ _ 3 S240 rfl) (SP.on ((S240.box_now (i := 1) rfl).sub (j := 3) (n := 1) (c := [v0_3]) rfl) (SP.on ((S240.box_now (i := 1) rfl).sub (j := 4) (n := 1) (c := [Value.int .i64 s210.2.2.2.2]) rfl) (SP.nil S240.sl))))) rfl (fun w' hw' => (E.lenP te132 rfl h272)) ?_
              refine FB.t (i := 25) (bs 29 67104767) rfl (SP.on (hall270 _ _ _ 3 S240 rfl) (SP.on (hall249 _ _ _ 3 S240 rfl) (SP.on ((S240.box_now (i := 1) rfl).sub (j := 3) (n := 1) (c := [v0_3]) rfl) (SP.on ((S240.box_now (i := 1) rfl).sub (j := 4) (n := 1) (c := [Value.int .i64 s210.2.2.2.2]) rfl) (SP.nil S240.sl))))) rfl (fun w' hw' => (E.sub rfl rfl)) ?_
              refine FB.all1 (i := 12) (by kernel_rfl) ?_
              ·
                refine FC.call (l' := (bs 29 67108863)) rfl (by kernel_rfl) rfl rfl rfl (E.call Tryz.call196 (A1 rfl)) (w_slices_Clone_impl_dense_int S240.sl v250 x247 (h251.mono upI) hr253) ?_
                rintro e w255 ⟨H254, v258, n259, cs260, rfl, r257, els261⟩
                refine ⟨_, rfl, ?_⟩
                have els261 := els261.mono (up_le S240.size)
                have S256 := S240.join (l' := (.row 3 1 v258 n259 cs260 :: .row 3 1 v111 n112 cs204 :: .box b0 185 [Value.int .i64 s210.2.2.1, Value.int .i64 s210.2.2.2.1, v0_2, v0_3, Value.int .i64 s210.2.2.2.2] :: .row 132 1 v0_2 n0_2 cs211 :: .row 132 1 v0_3 n0_3 cs214 :: .row 3 1 v85 n86 cs87 :: L)) r257 rfl
                refine ⟨(SP.on (hall270 _ _ _ 4 S256 rfl) (SP.on (hall249 _ _ _ 4 S256 rfl) (SP.on ((S256.box_now (i := 2) rfl).sub (j := 3) (n := 1) (c := [v0_3]) rfl) (SP.on ((S256.box_now (i := 2) rfl).sub (j := 4) (n := 1) (c := [Value.int .i64 s210.2.2.2.2]) rfl) (SP.nil (Sl.of_inc r257.run.inc S256.sl)))))), ?_⟩
                refine FB.all1 (i := 26) (by kernel_rfl) ?_
                ·
                  obtain ⟨v275, w278, n276, cs277, run279, S280, els281⟩ := S256.appendZ (P := Tryz.prog) te132 Tryz.underlying3 (i := 0) rfl els261 hz274
                  have S280 : St H0 w0 H254 w278 (.row 3 1 v275 n276 cs277 :: .row 3 1 v111 n112 cs204 :: .box b0 185 [Value.int .i64 s210.2.2.1, Value.int .i64 s210.2.2.2.1, v0_2, v0_3, Value.int .i64 s210.2.2.2.2] :: .row 132 1 v0_2 n0_2 cs211 :: .row 132 1 v0_3 n0_3 cs214 :: .row 3 1 v85 n86 cs87 :: L) := S280
                  refine FC.val (l' := (bs 29 134217727)) rfl (by kernel_rfl) rfl rfl rfl (E.appendZ rfl rfl run279) ?_
                  refine ⟨(SP.on (hall270 _ _ _ 4 S280 rfl) (SP.on (hall249 _ _ _ 4 S280 rfl) (SP.on ((S280.box_now (i := 2) rfl).sub (j := 3) (n := 1) (c := [v0_3]) rfl) (SP.on ((S280.box_now (i := 2) rfl).sub (j := 4) (n := 1) (c := [Value.int .i64 s210.2.2.2.2]) rfl) (SP.nil (Sl.of_inc r257.run.inc S280.sl)))))), ?_⟩
                  obtain ⟨p282, cs283, pt284, l285, at286, rel287, hall290⟩ := S280.row_atA (i := 4) rfl els215 (by decide) hx289
                  obtain ⟨v291, rfl, h292⟩ := eL_open rel287
                  refine FB.t (i := 27) (bs 29 268435455) rfl (SP.on (hall270 _ _ _ 4 S280 rfl) (SP.on (hall249 _ _ _ 4 S280 rfl) (SP.on ((S280.box_now (i := 2) rfl).sub (j := 3) (n := 1) (c := [v0_3]) rfl) (SP.on ((S280.box_now (i := 2) rfl).sub (j := 4) (n := 1) (c := [Value.int .i64 s210.2.2.2.2]) rfl) (SP.nil (Sl.of_inc r257.run.inc S280.sl)))))) rfl (fun w' hw' => (E.indexAddr te138 rfl rfl pt284)) ?_
                  refine FB.all1 (i := 28) (by kernel_rfl) ?_
                  ·
                    obtain ⟨w293, cs294, run295, S296, pd297⟩ := S280.pend (P := Tryz.prog) (t := 132) (i := 4) rfl els215 hx289 pt284 Tryz.sizeOf132 (u := v275) (Ln.cells (S280.row_ln (i := 0) rfl)) (ones_cons (Ln.one (S280.row_ln (i := 0) rfl)) ones_nil)
                    have S296 : St H0 w0 H254 w293 (.row 3 1 v275 n276 cs277 :: .row 3 1 v111 n112 cs204 :: .box b0 185 [Value.int .i64 s210.2.2.1, Value.int .i64 s210.2.2.2.1, v0_2, v0_3, Value.int .i64 s210.2.2.2.2] :: .row 132 1 v0_2 n0_2 cs211 :: .row 132 1 v0_3 n0_3 cs294 :: .row 3 1 v85 n86 cs87 :: L) := S296
                    refine FC.act (l' := (bs 29 536870911)) rfl (by kernel_rfl) rfl rfl (E.store rfl rfl run295) ?_
                    refine ⟨(SP.o (SP.o (SP.o (SP.on ((S296.box_now (i := 2) rfl).sub (j := 4) (n := 1) (c := [Value.int .i64 s210.2.2.2.2]) rfl) (SP.nil (Sl.of_inc r257.run.inc S296.sl)))))), ?_⟩
                    exact FB.done (by kernel_rfl) ⟨_, _, _, _, _, (S296.selT (a := [.row 3 1 v275 n276 cs277, .row 3 1 v111 n112 cs204, .box b0 185 [Value.int .i64 s210.2.2.1, Value.int .i64 s210.2.2.2.1, v0_2, v0_3, Value.int .i64 s210.2.2.2.2], .row 132 1 v0_2 n0_2 cs211, .row 132 1 v0_3 n0_3 cs294, .row 3 1 v85 n86 cs87]) (l' := [.row 3 1 v111 n112 cs204, .box b0 185 [Value.int .i64 s210.2.2.1, Value.int .i64 s210.2.2.2.1, v0_2, v0_3, Value.int .i64 s210.2.2.2.2], .row 132 1 v0_2 n0_2 cs211, .row 132 1 v0_3 n0_3 cs294, .row 3 1 v85 n86 cs87, .row 3 1 v275 n276 cs277]) [1, 2, 3, 4, 5, 0] (by decide) rfl), r257.run.inc, els281, (pd297.mono (up_mono r257.run.inc)), k222, k223, k224, k225, rfl, rfl, k226, k227, k221⟩
            ·
              rintro f308 w307 ⟨H304, cs298, v299, n300, cs301, S305, i306, els302, pd303, k309, k310, k311, k312, k313, k314, k315, k316, k317⟩
              refine FW.seq (FW.region ?_)
              refine FL.v (E.move k314) ?_
              refine FL.v (E.move k311) ?_
              obtain ⟨x324, hx325, hp⟩ := bnd hp
              obtain ⟨p318, cs319, pt320, l321, at322, rel323⟩ := h237.at hx325
              obtain rfl := eI_open rel323
              refine FL.v (E.indexAddr te132 rfl rfl pt320) ?_
              refine FL.v (E.load rfl (run_load0 Tryz.isAgg3 ((at322.mono (upI.tr i306)).now S305.sl) rfl)) ?_
              refine FL.v (E.assign (v := Value.int .i64 x324) rfl) ?_
              refine FL.nil (FW.seq (FW.region ?_))
              refine FL.v (E.move (v := Value.int .i64 x324) rfl) ?_
              refine FL.v (E.neq rfl rfl) ?_
              refine FL.nil ?_
              rcases ifB hp with ⟨c326, hp⟩ | ⟨c326, hp⟩
              ·
                refine FW.condT rfl c326 ?_
                refine FW.seq ?_
                obtain ⟨r335, hr336, hp⟩ := bnd hp
                obtain ⟨x353, hx354, hp⟩ := bnd hp
                obtain ⟨xs366, hput367, hp⟩ := bnd hp
                refine FW.drawB (Sl H304) (fun f w => ∃ H : GH, ∃ cs372 : List Value, St H0 w0 H w (.row 3 1 v111 n112 cs204 :: .box b0 185 [Value.int .i64 s210.2.2.1, Value.int .i64 s210.2.2.2.1, v0_2, v0_3, Value.int .i64 s210.2.2.2.2] :: .row 132 1 v0_2 n0_2 cs372 :: .row 132 1 v0_3 n0_3 cs298 :: .row 3 1 v85 n86 cs87 :: .row 3 1 v299 n300 cs301 :: L) ∧ Inc H304 H ∧ Els (up w0.heap.size H) (eL eI 1) 1 cs372 xs366 ∧ (bl cs372).Nodup ∧ f 0 = Value.pointer (some (⟨b0, 0, none⟩ : Addr)) ∧ f 5 = v85 ∧ f 7 = Value.int .i64 r36 ∧ f 9 = v111 ∧ f 12 = Value.int .i64 ((i210 : Nat) : Int) ∧ f 14 = Value.int .i64 x324 ∧ f 97 = v0_2 ∧ f 98 = Value.int .i64 (len a0.rows) ∧ f 99 = Value.int .i64 ((i210 : Nat) : Int)) (by kernel_rfl) S305.sl ?_ ?_
                ·
                  intro w327 r328
                  have S329 := S305.call r328
                  refine FB.phase [] (fun w => WAt w (Addr.add ⟨b0, 0, none⟩ 0) [Value.int .i64 s210.2.2.1]) ?_
                  refine FB.phase [] (fun w => WAt w (Addr.add ⟨b0, 0, none⟩ 0) [Value.int .i64 s210.2.2.1, Value.int .i64 s210.2.2.2.1]) ?_
                  refine FB.phase [20] (fun w => WAt w (Addr.add ⟨b0, 0, none⟩ 2) [v0_2]) ?_
                  refine FB.t (i := 0) (bs 21 1) rfl (SP.on ((S329.box_now (i := 1) rfl).sub (j := 2) (n := 1) (c := [v0_2]) rfl) (SP.on ((S329.box_now (i := 1) rfl).sub (j := 0) (n := 2) (c := [Value.int .i64 s210.2.2.1, Value.int .i64 s210.2.2.2.1]) rfl) (SP.on ((S329.box_now (i := 1) rfl).sub (j := 0) (n := 1) (c := [Value.int .i64 s210.2.2.1]) rfl) (SP.nil S329.sl)))) rfl (fun w' hw' => (E.move k309)) ?_
                  refine FB.t (i := 1) (bs 21 3) rfl (SP.on ((S329.box_now (i := 1) rfl).sub (j := 2) (n := 1) (c := [v0_2]) rfl) (SP.on ((S329.box_now (i := 1) rfl).sub (j := 0) (n := 2) (c := [Value.int .i64 s210.2.2.1, Value.int .i64 s210.2.2.2.1]) rfl) (SP.on ((S329.box_now (i := 1) rfl).sub (j := 0) (n := 1) (c := [Value.int .i64 s210.2.2.1]) rfl) (SP.nil S329.sl)))) rfl (fun w' hw' => (E.nilCheck rfl)) ?_
                  refine FB.t (i := 2) (bs 21 7) rfl (SP.on ((S329.box_now (i := 1) rfl).sub (j := 2) (n := 1) (c := [v0_2]) rfl) (SP.on ((S329.box_now (i := 1) rfl).sub (j := 0) (n := 2) (c := [Value.int .i64 s210.2.2.1, Value.int .i64 s210.2.2.2.1]) rfl) (SP.on ((S329.box_now (i := 1) rfl).sub (j := 0) (n := 1) (c := [Value.int .i64 s210.2.2.1]) rfl) (SP.nil S329.sl)))) rfl (fun w' hw' => (E.fieldAddr tf185_1 rfl)) ?_
                  refine FB.p (i := 3) (bs 21 15) 0 [19, 20] rfl (SP.on ((S329.box_now (i := 1) rfl).sub (j := 2) (n := 1) (c := [v0_2]) rfl) (SP.on ((S329.box_now (i := 1) rfl).sub (j := 0) (n := 2) (c := [Value.int .i64 s210.2.2.1, Value.int .i64 s210.2.2.2.1]) rfl) (SP.on ((S329.box_now (i := 1) rfl).sub (j := 0) (n := 1) (c := [Value.int .i64 s210.2.2.1]) rfl) (SP.nil S329.sl)))) rfl rfl (fun w' hw' => (E.load rfl (run_load0 Tryz.isAgg138 hw' rfl))) ?_
                  refine FB.t (i := 4) (bs 21 31) rfl (SP.on ((S329.box_now (i := 1) rfl).sub (j := 2) (n := 1) (c := [v0_2]) rfl) (SP.on ((S329.box_now (i := 1) rfl).sub (j := 0) (n := 2) (c := [Value.int .i64 s210.2.2.1, Value.int .i64 s210.2.2.2.1]) rfl) (SP.on ((S329.box_now (i := 1) rfl).sub (j := 0) (n := 1) (c := [Value.int .i64 s210.2.2.1]) rfl) (SP.nil S329.sl)))) rfl (fun w' hw' => (E.move k313)) ?_
                  refine FB.t (i := 5) (bs 21 63) rfl (SP.on ((S329.box_now (i := 1) rfl).sub (j := 2) (n := 1) (c := [v0_2]) rfl) (SP.on ((S329.box_now (i := 1) rfl).sub (j := 0) (n := 2) (c := [Value.int .i64 s210.2.2.1, Value.int .i64 s210.2.2.2.1]) rfl) (SP.on ((S329.box_now (i := 1) rfl).sub (j := 0) (n := 1) (c := [Value.int .i64 s210.2.2.1]) rfl) (SP.nil S329.sl)))) rfl (fun w' hw' => (E.move k309)) ?_
                  refine FB.t (i := 6) (bs 21 127) rfl (SP.on ((S329.box_now (i := 1) rfl).sub (j := 2) (n := 1) (c := [v0_2]) rfl) (SP.on ((S329.box_now (i := 1) rfl).sub (j := 0) (n := 2) (c := [Value.int .i64 s210.2.2.1, Value.int .i64 s210.2.2.2.1]) rfl) (SP.on ((S329.box_now (i := 1) rfl).sub (j := 0) (n := 1) (c := [Value.int .i64 s210.2.2.1]) rfl) (SP.nil S329.sl)))) rfl (fun w' hw' => (E.nilCheck rfl)) ?_
                  refine FB.t (i := 7) (bs 21 255) rfl (SP.on ((S329.box_now (i := 1) rfl).sub (j := 2) (n := 1) (c := [v0_2]) rfl) (SP.on ((S329.box_now (i := 1) rfl).sub (j := 0) (n := 2) (c := [Value.int .i64 s210.2.2.1, Value.int .i64 s210.2.2.2.1]) rfl) (SP.on ((S329.box_now (i := 1) rfl).sub (j := 0) (n := 1) (c := [Value.int .i64 s210.2.2.1]) rfl) (SP.nil S329.sl)))) rfl (fun w' hw' => (E.fieldAddr tf185_0 rfl)) ?_
                  refine FB.p (i := 8) (bs 21 511) 1 [18, 19, 20] rfl (SP.on ((S329.box_now (i := 1) rfl).sub (j := 2) (n := 1) (c := [v0_2]) rfl) (SP.on ((S329.box_now (i := 1) rfl).sub (j := 0) (n := 2) (c := [Value.int .i64 s210.2.2.1, Value.int .i64 s210.2.2.2.1]) rfl) (SP.on ((S329.box_now (i := 1) rfl).sub (j := 0) (n := 1) (c := [Value.int .i64 s210.2.2.1]) rfl) (SP.nil S329.sl)))) rfl rfl (fun w' hw' => (E.load rfl (run_loadA Tryz.isAgg137 Tryz.sizeOf137 hw' rfl))) ?_
                  refine FB.t (i := 9) (bs 21 1023) rfl (SP.on ((S329.box_now (i := 1) rfl).sub (j := 2) (n := 1) (c := [v0_2]) rfl) (SP.on ((S329.box_now (i := 1) rfl).sub (j := 0) (n := 2) (c := [Value.int .i64 s210.2.2.1, Value.int .i64 s210.2.2.2.1]) rfl) (SP.on ((S329.box_now (i := 1) rfl).sub (j := 0) (n := 1) (c := [Value.int .i64 s210.2.2.1]) rfl) (SP.nil S329.sl)))) rfl (fun w' hw' => (E.move k314)) ?_
                  refine FB.t (i := 10) (bs 21 2047) rfl (SP.on ((S329.box_now (i := 1) rfl).sub (j := 2) (n := 1) (c := [v0_2]) rfl) (SP.on ((S329.box_now (i := 1) rfl).sub (j := 0) (n := 2) (c := [Value.int .i64 s210.2.2.1, Value.int .i64 s210.2.2.2.1]) rfl) (SP.on ((S329.box_now (i := 1) rfl).sub (j := 0) (n := 1) (c := [Value.int .i64 s210.2.2.1]) rfl) (SP.nil S329.sl)))) rfl (fun w' hw' => (E.move k310)) ?_
                  refine FB.t (i := 11) (bs 21 4095) rfl (SP.on ((S329.box_now (i := 1) rfl).sub (j := 2) (n := 1) (c := [v0_2]) rfl) (SP.on ((S329.box_now (i := 1) rfl).sub (j := 0) (n := 2) (c := [Value.int .i64 s210.2.2.1, Value.int .i64 s210.2.2.2.1]) rfl) (SP.on ((S329.box_now (i := 1) rfl).sub (j := 0) (n := 1) (c := [Value.int .i64 s210.2.2.1]) rfl) (SP.nil S329.sl)))) rfl (fun w' hw' => (E.move k309)) ?_
                  refine FB.t (i := 12) (bs 21 8191) rfl (SP.on ((S329.box_now (i := 1) rfl).sub (j := 2) (n := 1) (c := [v0_2]) rfl) (SP.on ((S329.box_now (i := 1) rfl).sub (j := 0) (n := 2) (c := [Value.int .i64 s210.2.2.1, Value.int .i64 s210.2.2.2.1]) rfl) (SP.on ((S329.box_now (i := 1) rfl).sub (j := 0) (n := 1) (c := [Value.int .i64 s210.2.2.1]) rfl) (SP.nil S329.sl)))) rfl (fun w' hw' => (E.nilCheck rfl)) ?_
                  refine FB.t (i := 13) (bs 21 16383) rfl (SP.on ((S329.box_now (i := 1) rfl).sub (j := 2) (n := 1) (c := [v0_2]) rfl) (SP.on ((S329.box_now (i := 1) rfl).sub (j := 0) (n := 2) (c := [Value.int .i64 s210.2.2.1, Value.int .i64 s210.2.2.2.1]) rfl) (SP.on ((S329.box_now (i := 1) rfl).sub (j := 0) (n := 1) (c := [Value.int .i64 s210.2.2.1]) rfl) (SP.nil S329.sl)))) rfl (fun w' hw' => (E.fieldAddr tf185_0 rfl)) ?_
                  refine FB.t (i := 14) (bs 21 32767) rfl (SP.on ((S329.box_now (i := 1) rfl).sub (j := 2) (n := 1) (c := [v0_2]) rfl) (SP.on ((S329.box_now (i := 1) rfl).sub (j := 0) (n := 2) (c := [Value.int .i64 s210.2.2.1, Value.int .i64 s210.2.2.2.1]) rfl) (SP.on ((S329.box_now (i := 1) rfl).sub (j := 0) (n := 1) (c := [Value.int .i64 s210.2.2.1]) rfl) (SP.nil S329.sl)))) rfl (fun w' hw' => (E.fieldAddrN tf137_0 rfl rfl)) ?_
                  refine FB.p (i := 15) (bs 21 65535) 2 [17, 18, 19, 20] rfl (SP.on ((S329.box_now (i := 1) rfl).sub (j := 2) (n := 1) (c := [v0_2]) rfl) (SP.on ((S329.box_now (i := 1) rfl).sub (j := 0) (n := 2) (c := [Value.int .i64 s210.2.2.1, Value.int .i64 s210.2.2.2.1]) rfl) (SP.on ((S329.box_now (i := 1) rfl).sub (j := 0) (n := 1) (c := [Value.int .i64 s210.2.2.1]) rfl) (SP.nil S329.sl)))) rfl rfl (fun w' hw' => (E.load rfl (run_load0 Tryz.isAgg3 hw' rfl))) ?_
                  refine FB.t (i := 16) (bs 21 131071) rfl (SP.on ((S329.box_now (i := 1) rfl).sub (j := 2) (n := 1) (c := [v0_2]) rfl) (SP.on ((S329.box_now (i := 1) rfl).sub (j := 0) (n := 2) (c := [Value.int .i64 s210.2.2.1, Value.int .i64 s210.2.2.2.1]) rfl) (SP.on ((S329.box_now (i := 1) rfl).sub (j := 0) (n := 1) (c := [Value.int .i64 s210.2.2.1]) rfl) (SP.nil S329.sl)))) rfl (fun w' hw' => (E.move (v := Value.int .i64 x324) rfl)) ?_
                  refine FB.t (i := 17) (bs 21 262143) rfl (SP.on ((S329.box_now (i := 1) rfl).sub (j := 2) (n := 1) (c := [v0_2]) rfl) (SP.on ((S329.box_now (i := 1) rfl).sub (j := 0) (n := 2) (c := [Value.int .i64 s210.2.2.1, Value.int .i64 s210.2.2.2.1]) rfl) (SP.on ((S329.box_now (i := 1) rfl).sub (j := 0) (n := 1) (c := [Value.int .i64 s210.2.2.1]) rfl) (SP.nil S329.sl)))) rfl (fun w' hw' => (E.sub rfl rfl)) ?_
                  refine FB.all1 (i := 18) (by kernel_rfl) ?_
                  ·
                    obtain ⟨H330, S331, i332, h333, nv334⟩ := S329.sealRowU (i := 4) (l' := (.row 3 1 v111 n112 cs204 :: .box b0 185 [Value.int .i64 s210.2.2.1, Value.int .i64 s210.2.2.2.1, v0_2, v0_3, Value.int .i64 s210.2.2.2.2] :: .row 132 1 v0_2 n0_2 cs211 :: .row 132 1 v0_3 n0_3 cs298 :: .row 3 1 v299 n300 cs301 :: L)) rfl (els88.mono (up_mono ((i181.tr i218).tr i306))) (by decide) rfl
                    refine FC.call (l' := (bs 21 524287)) rfl (by kernel_rfl) rfl rfl rfl (E.call Tryz.call144 (A4 rfl rfl rfl rfl)) (w_impl_ring_plus S331.sl (ring.mk s210.2.2.1 s210.2.2.2.1) v236 x234 (h237.mono (upI.tr (i306.tr i332))) v85 r73 (h333.mono upI) (wr (s210.2.2.1 - x324)) hr336) ?_
                    rintro e w338 ⟨H337, v343, n344, cs345, rfl, r340, els346⟩
                    refine ⟨_, rfl, ?_⟩
                    obtain ⟨H341, r340, hU342⟩ := St.lendX i332 S329.sl r340
                    have els346 := els346.mono (hU342.tr (up_le S329.size))
                    have S339 := S329.join (l' := (.row 3 1 v343 n344 cs345 :: .row 3 1 v111 n112 cs204 :: .box b0 185 [Value.int .i64 s210.2.2.1, Value.int .i64 s210.2.2.2.1, v0_2, v0_3, Value.int .i64 s210.2.2.2.2] :: .row 132 1 v0_2 n0_2 cs211 :: .row 132 1 v0_3 n0_3 cs298 :: .row 3 1 v85 n86 cs87 :: .row 3 1 v299 n300 cs301 :: L)) r340 rfl
                    refine ⟨(SP.on ((S339.box_now (i := 2) rfl).sub (j := 2) (n := 1) (c := [v0_2]) rfl) (SP.on ((S339.box_now (i := 2) rfl).sub (j := 0) (n := 2) (c := [Value.int .i64 s210.2.2.1, Value.int .i64 s210.2.2.2.1]) rfl) (SP.on ((S339.box_now (i := 2) rfl).sub (j := 0) (n := 1) (c := [Value.int .i64 s210.2.2.1]) rfl) (SP.nil (Sl.of_inc r340.run.inc S339.sl))))), ?_⟩
                    obtain ⟨p347, cs348, pt349, l350, at351, rel352, hall355⟩ := S339.row_atA (i := 3) rfl els212 (by decide) hx354
                    obtain ⟨v356, rfl, h357⟩ := eL_open rel352
                    refine FB.t (i := 19) (bs 21 1048575) rfl (SP.on ((S339.box_now (i := 2) rfl).sub (j := 2) (n := 1) (c := [v0_2]) rfl) (SP.on ((S339.box_now (i := 2) rfl).sub (j := 0) (n := 2) (c := [Value.int .i64 s210.2.2.1, Value.int .i64 s210.2.2.2.1]) rfl) (SP.on ((S339.box_now (i := 2) rfl).sub (j := 0) (n := 1) (c := [Value.int .i64 s210.2.2.1]) rfl) (SP.nil (Sl.of_inc r340.run.inc S339.sl))))) rfl (fun w' hw' => (E.indexAddr te138 rfl rfl pt349)) ?_
                    refine FB.all1 (i := 20) (by kernel_rfl) ?_
                    ·
                      obtain ⟨H358, S359, i360, h361, nv362⟩ := S339.sealRowU (i := 0) (l' := (.row 3 1 v111 n112 cs204 :: .box b0 185 [Value.int .i64 s210.2.2.1, Value.int .i64 s210.2.2.2.1, v0_2, v0_3, Value.int .i64 s210.2.2.2.2] :: .row 132 1 v0_2 n0_2 cs211 :: .row 132 1 v0_3 n0_3 cs298 :: .row 3 1 v85 n86 cs87 :: .row 3 1 v299 n300 cs301 :: L)) rfl els346 (by decide) rfl
                      obtain ⟨w363, cs369, run364, S365, els368, ce370⟩ := S359.putEls (P := Tryz.prog) (t := 132) (i := 2) rfl (els212.mono (up_mono ((i306.tr r340.run.inc).tr i360))) hput367 pt349 Tryz.sizeOf132 (u := v343) (c := [v343]) h361.cells rfl (ones_cons h361.one ones_nil) ⟨_, rfl, h361⟩
                      have S365 : St H0 w0 H358 w363 (.row 3 1 v111 n112 cs204 :: .box b0 185 [Value.int .i64 s210.2.2.1, Value.int .i64 s210.2.2.2.1, v0_2, v0_3, Value.int .i64 s210.2.2.2.2] :: .row 132 1 v0_2 n0_2 cs369 :: .row 132 1 v0_3 n0_3 cs298 :: .row 3 1 v85 n86 cs87 :: .row 3 1 v299 n300 cs301 :: L) := S365
                      have nd371 : (bl cs369).Nodup := by rw [ce370]; exact nd_put (Nat.le_add_right _ _) nd213 (by exact nd_one v343) (Els.dom (els212.mono (upI.tr (i306.tr r340.run.inc)))) (by exact nv362)
                      refine FC.act (l' := (bs 21 2097151)) rfl (by kernel_rfl) rfl rfl (E.store rfl rfl run364) ?_
                      refine ⟨(SP.o (SP.on ((S365.box_now (i := 1) rfl).sub (j := 0) (n := 2) (c := [Value.int .i64 s210.2.2.1, Value.int .i64 s210.2.2.2.1]) rfl) (SP.on ((S365.box_now (i := 1) rfl).sub (j := 0) (n := 1) (c := [Value.int .i64 s210.2.2.1]) rfl) (SP.nil (Sl.of_inc (r340.run.inc.tr i360) S365.sl))))), ?_⟩
                      exact FB.done (by kernel_rfl) ⟨_, _, S365, (r340.run.inc.tr i360), els368, nd371, k309, k310, k311, k312, k313, rfl, k315, k316, k317⟩
                ·
                  rintro f379 w378 ⟨H375, cs372, S376, i377, els373, nd374, k380, k381, k382, k383, k384, k385, k386, k387, k388⟩
                  refine FW.seq (FW.region ?_)
                  refine FL.v (E.move k383) ?_
                  refine FL.v (E.lenO te132 rfl S376 (i := 0) rfl els203 (by decide)) ?_
                  refine FL.v (E.move (v := Value.int .i64 0) rfl) ?_
                  refine FL.nil ?_
                  obtain ⟨m389, hchk390, hp⟩ := bnd hp
                  obtain ⟨q390, hq, hp⟩ := bndR hp
                  refine FW.block ?_
                  refine FW.mono (FW.forR (S := (List Int)) (X := Empty) (fun (i390 : Nat) (s390 : (List Int)) f w => ∃ H : GH, ∃ cs391 : List Value, St H0 w0 H w (.row 3 1 v111 n112 cs204 :: .box b0 185 [Value.int .i64 s210.2.2.1, Value.int .i64 s210.2.2.2.1, v0_2, v0_3, Value.int .i64 s210.2.2.2.2] :: .row 132 1 v0_2 n0_2 cs372 :: .row 132 1 v0_3 n0_3 cs298 :: .row 3 1 v85 n86 cs87 :: .row 3 1 v299 n300 cs391 :: L) ∧ Inc H375 H ∧ Els (up w0.heap.size H) eI 1 cs391 s390 ∧ f 160 = Value.int .i64 ((i390 : Nat) : Int) ∧ f 0 = Value.pointer (some (⟨b0, 0, none⟩ : Addr)) ∧ f 5 = v85 ∧ f 7 = Value.int .i64 r36 ∧ f 9 = v111 ∧ f 12 = Value.int .i64 ((i210 : Nat) : Int) ∧ f 14 = Value.int .i64 x324 ∧ f 97 = v0_2 ∧ f 98 = Value.int .i64 (len a0.rows) ∧ f 99 = Value.int .i64 ((i210 : Nat) : Int) ∧ f 158 = v111 ∧ f 159 = Value.int .i64 (len xs201)) (fun (q : Rs (List Int) Empty) e f w => match q with | .go s390 => e = Exit.exit 4 ∧ (∃ H : GH, ∃ cs391 : List Value, St H0 w0 H w (.row 3 1 v111 n112 cs204 :: .box b0 185 [Value.int .i64 s210.2.2.1, Value.int .i64 s210.2.2.2.1, v0_2, v0_3, Value.int .i64 s210.2.2.2.2] :: .row 132 1 v0_2 n0_2 cs372 :: .row 132 1 v0_3 n0_3 cs298 :: .row 3 1 v85 n86 cs87 :: .row 3 1 v299 n300 cs391 :: L) ∧ Inc H375 H ∧ Els (up w0.heap.size H) eI 1 cs391 s390 ∧ f 0 = Value.pointer (some (⟨b0, 0, none⟩ : Addr)) ∧ f 5 = v85 ∧ f 7 = Value.int .i64 r36 ∧ f 9 = v111 ∧ f 97 = v0_2 ∧ f 98 = Value.int .i64 (len a0.rows) ∧ f 99 = Value.int .i64 ((i210 : Nat) : Int)) | .rt x => x.elim) hq ⟨_, _, S376, (Inc.rfl _), (els302.mono (up_mono i377)), rfl, k380, k381, k382, k383, k384, k385, k386, k387, k388, rfl, rfl⟩ ?_ ?_) ?_
                  ·
                    clear hp hq
                    rintro i390 s390 f397 w396 ⟨H393, cs391, S394, i395, els392, k398, k399, k400, k401, k402, k403, k404, k405, k406, k407, k408, k409⟩ hi390 hj390 o476 hp
                    refine FW.seq (FW.region ?_)
                    refine FL.v (E.lssT k398 k409 (lss_chk hj390 hchk390)) ?_
                    refine FL.nil (FW.seq ?_)
                    refine FW.condT rfl rfl ?_
                    refine FW.skip (FW.seq (FW.block (FW.seq (FW.region ?_))))
                    refine FL.v (E.move k398) ?_
                    obtain ⟨x416, hx417, hp⟩ := bnd hp
                    obtain ⟨p410, cs411, pt412, l413, at414, rel415⟩ := S394.row_at (i := 0) rfl els203 (by decide) hx417
                    obtain rfl := eI_open rel415
                    refine FL.v (E.indexAddr te132 k408 k398 pt412) ?_
                    refine FL.v (E.load rfl (run_load0 Tryz.isAgg3 at414 rfl)) ?_
                    refine FL.v (E.assign (v := Value.int .i64 ((i390 : Nat) : Int)) rfl) ?_
                    refine FL.v (E.assign (v := Value.int .i64 x416) rfl) ?_
                    refine FL.nil ?_
                    obtain ⟨x435, hx436, hp⟩ := bnd hp
                    obtain ⟨u439, z438, hp⟩ := bnd hp
                    obtain ⟨x446, hx447, hp⟩ := bnd hp
                    obtain ⟨xs452, hput453, hp⟩ := bnd hp
                    refine FW.drawB (SX H0 w0 H393 (.box b0 185 [Value.int .i64 s210.2.2.1, Value.int .i64 s210.2.2.2.1, v0_2, v0_3, Value.int .i64 s210.2.2.2.2] :: .row 132 1 v0_3 n0_3 cs298 :: L)) (fun f w => ∃ H : GH, ∃ cs457 : List Value, St H0 w0 H w (.row 3 1 v111 n112 cs204 :: .box b0 185 [Value.int .i64 s210.2.2.1, Value.int .i64 s210.2.2.2.1, v0_2, v0_3, Value.int .i64 s210.2.2.2.2] :: .row 132 1 v0_2 n0_2 cs372 :: .row 132 1 v0_3 n0_3 cs298 :: .row 3 1 v85 n86 cs87 :: .row 3 1 v299 n300 cs457 :: L) ∧ Inc H393 H ∧ Els (up w0.heap.size H) eI 1 cs457 xs452 ∧ f 0 = Value.pointer (some (⟨b0, 0, none⟩ : Addr)) ∧ f 5 = v85 ∧ f 7 = Value.int .i64 r36 ∧ f 9 = v111 ∧ f 12 = Value.int .i64 ((i210 : Nat) : Int) ∧ f 14 = Value.int .i64 x324 ∧ f 97 = v0_2 ∧ f 98 = Value.int .i64 (len a0.rows) ∧ f 99 = Value.int .i64 ((i210 : Nat) : Int) ∧ f 158 = v111 ∧ f 159 = Value.int .i64 (len xs201) ∧ f 160 = Value.int .i64 ((i390 : Nat) : Int)) (by kernel_rfl) S394.sl ?_ ?_
                    ·
                      intro w418 r419
                      have S420 := S394.call r419
                      refine FB.t (i := 0) (bs 36 1) rfl (SP.nil ⟨_, (S420.selT (a := [.row 3 1 v111 n112 cs204, .box b0 185 [Value.int .i64 s210.2.2.1, Value.int .i64 s210.2.2.2.1, v0_2, v0_3, Value.int .i64 s210.2.2.2.2], .row 132 1 v0_2 n0_2 cs372, .row 132 1 v0_3 n0_3 cs298, .row 3 1 v85 n86 cs87, .row 3 1 v299 n300 cs391]) (l' := [.box b0 185 [Value.int .i64 s210.2.2.1, Value.int .i64 s210.2.2.2.1, v0_2, v0_3, Value.int .i64 s210.2.2.2.2], .row 132 1 v0_3 n0_3 cs298]) [1, 3] (by decide) rfl), (Inc.rfl _)⟩) rfl (fun w' hw' => (E.move k399)) ?_
                      refine FB.t (i := 1) (bs 36 3) rfl (SP.nil ⟨_, (S420.selT (a := [.row 3 1 v111 n112 cs204, .box b0 185 [Value.int .i64 s210.2.2.1, Value.int .i64 s210.2.2.2.1, v0_2, v0_3, Value.int .i64 s210.2.2.2.2], .row 132 1 v0_2 n0_2 cs372, .row 132 1 v0_3 n0_3 cs298, .row 3 1 v85 n86 cs87, .row 3 1 v299 n300 cs391]) (l' := [.box b0 185 [Value.int .i64 s210.2.2.1, Value.int .i64 s210.2.2.2.1, v0_2, v0_3, Value.int .i64 s210.2.2.2.2], .row 132 1 v0_3 n0_3 cs298]) [1, 3] (by decide) rfl), (Inc.rfl _)⟩) rfl (fun w' hw' => (E.nilCheck rfl)) ?_
                      refine FB.t (i := 2) (bs 36 7) rfl (SP.nil ⟨_, (S420.selT (a := [.row 3 1 v111 n112 cs204, .box b0 185 [Value.int .i64 s210.2.2.1, Value.int .i64 s210.2.2.2.1, v0_2, v0_3, Value.int .i64 s210.2.2.2.2], .row 132 1 v0_2 n0_2 cs372, .row 132 1 v0_3 n0_3 cs298, .row 3 1 v85 n86 cs87, .row 3 1 v299 n300 cs391]) (l' := [.box b0 185 [Value.int .i64 s210.2.2.1, Value.int .i64 s210.2.2.2.1, v0_2, v0_3, Value.int .i64 s210.2.2.2.2], .row 132 1 v0_3 n0_3 cs298]) [1, 3] (by decide) rfl), (Inc.rfl _)⟩) rfl (fun w' hw' => (E.fieldAddr tf185_2 rfl)) ?_
                      refine FB.t (i := 3) (bs 36 15) rfl (SP.nil ⟨_, (S420.selT (a := [.row 3 1 v111 n112 cs204, .box b0 185 [Value.int .i64 s210.2.2.1, Value.int .i64 s210.2.2.2.1, v0_2, v0_3, Value.int .i64 s210.2.2.2.2], .row 132 1 v0_2 n0_2 cs372, .row 132 1 v0_3 n0_3 cs298, .row 3 1 v85 n86 cs87, .row 3 1 v299 n300 cs391]) (l' := [.box b0 185 [Value.int .i64 s210.2.2.1, Value.int .i64 s210.2.2.2.1, v0_2, v0_3, Value.int .i64 s210.2.2.2.2], .row 132 1 v0_3 n0_3 cs298]) [1, 3] (by decide) rfl), (Inc.rfl _)⟩) rfl (fun w' hw' => (E.load rfl (run_load1 Tryz.isAgg138 (SX.box_now hw' (i := 0) rfl) rfl))) ?_
                      refine FB.t (i := 4) (bs 36 31) rfl (SP.nil ⟨_, (S420.selT (a := [.row 3 1 v111 n112 cs204, .box b0 185 [Value.int .i64 s210.2.2.1, Value.int .i64 s210.2.2.2.1, v0_2, v0_3, Value.int .i64 s210.2.2.2.2], .row 132 1 v0_2 n0_2 cs372, .row 132 1 v0_3 n0_3 cs298, .row 3 1 v85 n86 cs87, .row 3 1 v299 n300 cs391]) (l' := [.box b0 185 [Value.int .i64 s210.2.2.1, Value.int .i64 s210.2.2.2.1, v0_2, v0_3, Value.int .i64 s210.2.2.2.2], .row 132 1 v0_3 n0_3 cs298]) [1, 3] (by decide) rfl), (Inc.rfl _)⟩) rfl (fun w' hw' => (E.move k403)) ?_
                      obtain ⟨p421, pt422, at423, hall424⟩ := S420.pend_atA (i := 3) rfl pd303
                      refine FB.t (i := 5) (bs 36 63) rfl (SP.nil ⟨_, (S420.selT (a := [.row 3 1 v111 n112 cs204, .box b0 185 [Value.int .i64 s210.2.2.1, Value.int .i64 s210.2.2.2.1, v0_2, v0_3, Value.int .i64 s210.2.2.2.2], .row 132 1 v0_2 n0_2 cs372, .row 132 1 v0_3 n0_3 cs298, .row 3 1 v85 n86 cs87, .row 3 1 v299 n300 cs391]) (l' := [.box b0 185 [Value.int .i64 s210.2.2.1, Value.int .i64 s210.2.2.2.1, v0_2, v0_3, Value.int .i64 s210.2.2.2.2], .row 132 1 v0_3 n0_3 cs298]) [1, 3] (by decide) rfl), (Inc.rfl _)⟩) rfl (fun w' hw' => (E.indexAddr te138 rfl rfl pt422)) ?_
                      refine FB.t (i := 6) (bs 36 127) rfl (SP.nil ⟨_, (S420.selT (a := [.row 3 1 v111 n112 cs204, .box b0 185 [Value.int .i64 s210.2.2.1, Value.int .i64 s210.2.2.2.1, v0_2, v0_3, Value.int .i64 s210.2.2.2.2], .row 132 1 v0_2 n0_2 cs372, .row 132 1 v0_3 n0_3 cs298, .row 3 1 v85 n86 cs87, .row 3 1 v299 n300 cs391]) (l' := [.box b0 185 [Value.int .i64 s210.2.2.1, Value.int .i64 s210.2.2.2.1, v0_2, v0_3, Value.int .i64 s210.2.2.2.2], .row 132 1 v0_3 n0_3 cs298]) [1, 3] (by decide) rfl), (Inc.rfl _)⟩) rfl (fun w' hw' => (E.load rfl (run_load0 Tryz.isAgg132 (hw'.use fun _ st => hall424 _ _ _ 1 st rfl) rfl))) ?_
                      refine FB.t (i := 7) (bs 36 255) rfl (SP.nil ⟨_, (S420.selT (a := [.row 3 1 v111 n112 cs204, .box b0 185 [Value.int .i64 s210.2.2.1, Value.int .i64 s210.2.2.2.1, v0_2, v0_3, Value.int .i64 s210.2.2.2.2], .row 132 1 v0_2 n0_2 cs372, .row 132 1 v0_3 n0_3 cs298, .row 3 1 v85 n86 cs87, .row 3 1 v299 n300 cs391]) (l' := [.box b0 185 [Value.int .i64 s210.2.2.1, Value.int .i64 s210.2.2.2.1, v0_2, v0_3, Value.int .i64 s210.2.2.2.2], .row 132 1 v0_3 n0_3 cs298]) [1, 3] (by decide) rfl), (Inc.rfl _)⟩) rfl (fun w' hw' => (E.move (v := Value.int .i64 ((i390 : Nat) : Int)) rfl)) ?_
                      refine FB.t (i := 8) (bs 36 511) rfl (SP.nil ⟨_, (S420.selT (a := [.row 3 1 v111 n112 cs204, .box b0 185 [Value.int .i64 s210.2.2.1, Value.int .i64 s210.2.2.2.1, v0_2, v0_3, Value.int .i64 s210.2.2.2.2], .row 132 1 v0_2 n0_2 cs372, .row 132 1 v0_3 n0_3 cs298, .row 3 1 v85 n86 cs87, .row 3 1 v299 n300 cs391]) (l' := [.box b0 185 [Value.int .i64 s210.2.2.1, Value.int .i64 s210.2.2.2.1, v0_2, v0_3, Value.int .i64 s210.2.2.2.2], .row 132 1 v0_3 n0_3 cs298]) [1, 3] (by decide) rfl), (Inc.rfl _)⟩) rfl (fun w' hw' => (E.move k399)) ?_
                      refine FB.t (i := 9) (bs 36 1023) rfl (SP.nil ⟨_, (S420.selT (a := [.row 3 1 v111 n112 cs204, .box b0 185 [Value.int .i64 s210.2.2.1, Value.int .i64 s210.2.2.2.1, v0_2, v0_3, Value.int .i64 s210.2.2.2.2], .row 132 1 v0_2 n0_2 cs372, .row 132 1 v0_3 n0_3 cs298, .row 3 1 v85 n86 cs87, .row 3 1 v299 n300 cs391]) (l' := [.box b0 185 [Value.int .i64 s210.2.2.1, Value.int .i64 s210.2.2.2.1, v0_2, v0_3, Value.int .i64 s210.2.2.2.2], .row 132 1 v0_3 n0_3 cs298]) [1, 3] (by decide) rfl), (Inc.rfl _)⟩) rfl (fun w' hw' => (E.nilCheck rfl)) ?_
                      refine FB.t (i := 10) (bs 36 2047) rfl (SP.nil ⟨_, (S420.selT (a := [.row 3 1 v111 n112 cs204, .box b0 185 [Value.int .i64 s210.2.2.1, Value.int .i64 s210.2.2.2.1, v0_2, v0_3, Value.int .i64 s210.2.2.2.2], .row 132 1 v0_2 n0_2 cs372, .row 132 1 v0_3 n0_3 cs298, .row 3 1 v85 n86 cs87, .row 3 1 v299 n300 cs391]) (l' := [.box b0 185 [Value.int .i64 s210.2.2.1, Value.int .i64 s210.2.2.2.1, v0_2, v0_3, Value.int .i64 s210.2.2.2.2], .row 132 1 v0_3 n0_3 cs298]) [1, 3] (by decide) rfl), (Inc.rfl _)⟩) rfl (fun w' hw' => (E.fieldAddr tf185_2 rfl)) ?_
                      refine FB.t (i := 11) (bs 36 4095) rfl (SP.nil ⟨_, (S420.selT (a := [.row 3 1 v111 n112 cs204, .box b0 185 [Value.int .i64 s210.2.2.1, Value.int .i64 s210.2.2.2.1, v0_2, v0_3, Value.int .i64 s210.2.2.2.2], .row 132 1 v0_2 n0_2 cs372, .row 132 1 v0_3 n0_3 cs298, .row 3 1 v85 n86 cs87, .row 3 1 v299 n300 cs391]) (l' := [.box b0 185 [Value.int .i64 s210.2.2.1, Value.int .i64 s210.2.2.2.1, v0_2, v0_3, Value.int .i64 s210.2.2.2.2], .row 132 1 v0_3 n0_3 cs298]) [1, 3] (by decide) rfl), (Inc.rfl _)⟩) rfl (fun w' hw' => (E.load rfl (run_load1 Tryz.isAgg138 (SX.box_now hw' (i := 0) rfl) rfl))) ?_
                      refine FB.t (i := 12) (bs 36 8191) rfl (SP.nil ⟨_, (S420.selT (a := [.row 3 1 v111 n112 cs204, .box b0 185 [Value.int .i64 s210.2.2.1, Value.int .i64 s210.2.2.2.1, v0_2, v0_3, Value.int .i64 s210.2.2.2.2], .row 132 1 v0_2 n0_2 cs372, .row 132 1 v0_3 n0_3 cs298, .row 3 1 v85 n86 cs87, .row 3 1 v299 n300 cs391]) (l' := [.box b0 185 [Value.int .i64 s210.2.2.1, Value.int .i64 s210.2.2.2.1, v0_2, v0_3, Value.int .i64 s210.2.2.2.2], .row 132 1 v0_3 n0_3 cs298]) [1, 3] (by decide) rfl), (Inc.rfl _)⟩) rfl (fun w' hw' => (E.move k403)) ?_
                      obtain ⟨p425, pt426, at427, hall428⟩ := S420.pend_atA (i := 3) rfl pd303
                      refine FB.t (i := 13) (bs 36 16383) rfl (SP.nil ⟨_, (S420.selT (a := [.row 3 1 v111 n112 cs204, .box b0 185 [Value.int .i64 s210.2.2.1, Value.int .i64 s210.2.2.2.1, v0_2, v0_3, Value.int .i64 s210.2.2.2.2], .row 132 1 v0_2 n0_2 cs372, .row 132 1 v0_3 n0_3 cs298, .row 3 1 v85 n86 cs87, .row 3 1 v299 n300 cs391]) (l' := [.box b0 185 [Value.int .i64 s210.2.2.1, Value.int .i64 s210.2.2.2.1, v0_2, v0_3, Value.int .i64 s210.2.2.2.2], .row 132 1 v0_3 n0_3 cs298]) [1, 3] (by decide) rfl), (Inc.rfl _)⟩) rfl (fun w' hw' => (E.indexAddr te138 rfl rfl pt426)) ?_
                      refine FB.t (i := 14) (bs 36 32767) rfl (SP.nil ⟨_, (S420.selT (a := [.row 3 1 v111 n112 cs204, .box b0 185 [Value.int .i64 s210.2.2.1, Value.int .i64 s210.2.2.2.1, v0_2, v0_3, Value.int .i64 s210.2.2.2.2], .row 132 1 v0_2 n0_2 cs372, .row 132 1 v0_3 n0_3 cs298, .row 3 1 v85 n86 cs87, .row 3 1 v299 n300 cs391]) (l' := [.box b0 185 [Value.int .i64 s210.2.2.1, Value.int .i64 s210.2.2.2.1, v0_2, v0_3, Value.int .i64 s210.2.2.2.2], .row 132 1 v0_3 n0_3 cs298]) [1, 3] (by decide) rfl), (Inc.rfl _)⟩) rfl (fun w' hw' => (E.load rfl (run_load0 Tryz.isAgg132 (hw'.use fun _ st => hall428 _ _ _ 1 st rfl) rfl))) ?_
                      refine FB.t (i := 15) (bs 36 65535) rfl (SP.nil ⟨_, (S420.selT (a := [.row 3 1 v111 n112 cs204, .box b0 185 [Value.int .i64 s210.2.2.1, Value.int .i64 s210.2.2.2.1, v0_2, v0_3, Value.int .i64 s210.2.2.2.2], .row 132 1 v0_2 n0_2 cs372, .row 132 1 v0_3 n0_3 cs298, .row 3 1 v85 n86 cs87, .row 3 1 v299 n300 cs391]) (l' := [.box b0 185 [Value.int .i64 s210.2.2.1, Value.int .i64 s210.2.2.2.1, v0_2, v0_3, Value.int .i64 s210.2.2.2.2], .row 132 1 v0_3 n0_3 cs298]) [1, 3] (by decide) rfl), (Inc.rfl _)⟩) rfl (fun w' hw' => (E.move (v := Value.int .i64 ((i390 : Nat) : Int)) rfl)) ?_
                      obtain ⟨p429, cs430, pt431, l432, at433, rel434, hall437⟩ := S420.row_atA (i := 5) rfl els392 (by decide) hx436
                      obtain rfl := eI_open rel434
                      refine FB.t (i := 16) (bs 36 131071) rfl (SP.nil ⟨_, (S420.selT (a := [.row 3 1 v111 n112 cs204, .box b0 185 [Value.int .i64 s210.2.2.1, Value.int .i64 s210.2.2.2.1, v0_2, v0_3, Value.int .i64 s210.2.2.2.2], .row 132 1 v0_2 n0_2 cs372, .row 132 1 v0_3 n0_3 cs298, .row 3 1 v85 n86 cs87, .row 3 1 v299 n300 cs391]) (l' := [.box b0 185 [Value.int .i64 s210.2.2.1, Value.int .i64 s210.2.2.2.1, v0_2, v0_3, Value.int .i64 s210.2.2.2.2], .row 132 1 v0_3 n0_3 cs298]) [1, 3] (by decide) rfl), (Inc.rfl _)⟩) rfl (fun w' hw' => (E.indexAddr te132 rfl rfl pt431)) ?_
                      refine FB.phase [35] (fun w' => WAt w' p429 [Value.int .i64 x435]) ?_
                      refine FB.p (i := 17) (bs 36 262143) 0 [27, 33, 34, 35] rfl (SP.on (hall437 _ _ _ 5 S420 rfl) (SP.nil ⟨_, (S420.selT (a := [.row 3 1 v111 n112 cs204, .box b0 185 [Value.int .i64 s210.2.2.1, Value.int .i64 s210.2.2.2.1, v0_2, v0_3, Value.int .i64 s210.2.2.2.2], .row 132 1 v0_2 n0_2 cs372, .row 132 1 v0_3 n0_3 cs298, .row 3 1 v85 n86 cs87, .row 3 1 v299 n300 cs391]) (l' := [.box b0 185 [Value.int .i64 s210.2.2.1, Value.int .i64 s210.2.2.2.1, v0_2, v0_3, Value.int .i64 s210.2.2.2.2], .row 132 1 v0_3 n0_3 cs298]) [1, 3] (by decide) rfl), (Inc.rfl _)⟩)) rfl rfl (fun w' hw' => (E.load rfl (run_load0 Tryz.isAgg3 hw' rfl))) ?_
                      refine FB.t (i := 18) (bs 36 524287) rfl (SP.on (hall437 _ _ _ 5 S420 rfl) (SP.nil ⟨_, (S420.selT (a := [.row 3 1 v111 n112 cs204, .box b0 185 [Value.int .i64 s210.2.2.1, Value.int .i64 s210.2.2.2.1, v0_2, v0_3, Value.int .i64 s210.2.2.2.2], .row 132 1 v0_2 n0_2 cs372, .row 132 1 v0_3 n0_3 cs298, .row 3 1 v85 n86 cs87, .row 3 1 v299 n300 cs391]) (l' := [.box b0 185 [Value.int .i64 s210.2.2.1, Value.int .i64 s210.2.2.2.1, v0_2, v0_3, Value.int .i64 s210.2.2.2.2], .row 132 1 v0_3 n0_3 cs298]) [1, 3] (by decide) rfl), (Inc.rfl _)⟩)) rfl (fun w' hw' => (E.move k399)) ?_
                      refine FB.t (i := 19) (bs 36 1048575) rfl (SP.on (hall437 _ _ _ 5 S420 rfl) (SP.nil ⟨_, (S420.selT (a := [.row 3 1 v111 n112 cs204, .box b0 185 [Value.int .i64 s210.2.2.1, Value.int .i64 s210.2.2.2.1, v0_2, v0_3, Value.int .i64 s210.2.2.2.2], .row 132 1 v0_2 n0_2 cs372, .row 132 1 v0_3 n0_3 cs298, .row 3 1 v85 n86 cs87, .row 3 1 v299 n300 cs391]) (l' := [.box b0 185 [Value.int .i64 s210.2.2.1, Value.int .i64 s210.2.2.2.1, v0_2, v0_3, Value.int .i64 s210.2.2.2.2], .row 132 1 v0_3 n0_3 cs298]) [1, 3] (by decide) rfl), (Inc.rfl _)⟩)) rfl (fun w' hw' => (E.nilCheck rfl)) ?_
                      refine FB.t (i := 20) (bs 36 2097151) rfl (SP.on (hall437 _ _ _ 5 S420 rfl) (SP.nil ⟨_, (S420.selT (a := [.row 3 1 v111 n112 cs204, .box b0 185 [Value.int .i64 s210.2.2.1, Value.int .i64 s210.2.2.2.1, v0_2, v0_3, Value.int .i64 s210.2.2.2.2], .row 132 1 v0_2 n0_2 cs372, .row 132 1 v0_3 n0_3 cs298, .row 3 1 v85 n86 cs87, .row 3 1 v299 n300 cs391]) (l' := [.box b0 185 [Value.int .i64 s210.2.2.1, Value.int .i64 s210.2.2.2.1, v0_2, v0_3, Value.int .i64 s210.2.2.2.2], .row 132 1 v0_3 n0_3 cs298]) [1, 3] (by decide) rfl), (Inc.rfl _)⟩)) rfl (fun w' hw' => (E.fieldAddr tf185_0 rfl)) ?_
                      refine FB.t (i := 21) (bs 36 4194303) rfl (SP.on (hall437 _ _ _ 5 S420 rfl) (SP.nil ⟨_, (S420.selT (a := [.row 3 1 v111 n112 cs204, .box b0 185 [Value.int .i64 s210.2.2.1, Value.int .i64 s210.2.2.2.1, v0_2, v0_3, Value.int .i64 s210.2.2.2.2], .row 132 1 v0_2 n0_2 cs372, .row 132 1 v0_3 n0_3 cs298, .row 3 1 v85 n86 cs87, .row 3 1 v299 n300 cs391]) (l' := [.box b0 185 [Value.int .i64 s210.2.2.1, Value.int .i64 s210.2.2.2.1, v0_2, v0_3, Value.int .i64 s210.2.2.2.2], .row 132 1 v0_3 n0_3 cs298]) [1, 3] (by decide) rfl), (Inc.rfl _)⟩)) rfl (fun w' hw' => (E.fieldAddrN tf137_0 rfl rfl)) ?_
                      refine FB.t (i := 22) (bs 36 8388607) rfl (SP.on (hall437 _ _ _ 5 S420 rfl) (SP.nil ⟨_, (S420.selT (a := [.row 3 1 v111 n112 cs204, .box b0 185 [Value.int .i64 s210.2.2.1, Value.int .i64 s210.2.2.2.1, v0_2, v0_3, Value.int .i64 s210.2.2.2.2], .row 132 1 v0_2 n0_2 cs372, .row 132 1 v0_3 n0_3 cs298, .row 3 1 v85 n86 cs87, .row 3 1 v299 n300 cs391]) (l' := [.box b0 185 [Value.int .i64 s210.2.2.1, Value.int .i64 s210.2.2.2.1, v0_2, v0_3, Value.int .i64 s210.2.2.2.2], .row 132 1 v0_3 n0_3 cs298]) [1, 3] (by decide) rfl), (Inc.rfl _)⟩)) rfl (fun w' hw' => (E.load rfl (run_load1 Tryz.isAgg3 (SX.box_now hw' (i := 0) rfl) rfl))) ?_
                      refine FB.t (i := 23) (bs 36 16777215) rfl (SP.on (hall437 _ _ _ 5 S420 rfl) (SP.nil ⟨_, (S420.selT (a := [.row 3 1 v111 n112 cs204, .box b0 185 [Value.int .i64 s210.2.2.1, Value.int .i64 s210.2.2.2.1, v0_2, v0_3, Value.int .i64 s210.2.2.2.2], .row 132 1 v0_2 n0_2 cs372, .row 132 1 v0_3 n0_3 cs298, .row 3 1 v85 n86 cs87, .row 3 1 v299 n300 cs391]) (l' := [.box b0 185 [Value.int .i64 s210.2.2.1, Value.int .i64 s210.2.2.2.1, v0_2, v0_3, Value.int .i64 s210.2.2.2.2], .row 132 1 v0_3 n0_3 cs298]) [1, 3] (by decide) rfl), (Inc.rfl _)⟩)) rfl (fun w' hw' => (E.move k404)) ?_
                      refine FB.t (i := 24) (bs 36 33554431) rfl (SP.on (hall437 _ _ _ 5 S420 rfl) (SP.nil ⟨_, (S420.selT (a := [.row 3 1 v111 n112 cs204, .box b0 185 [Value.int .i64 s210.2.2.1, Value.int .i64 s210.2.2.2.1, v0_2, v0_3, Value.int .i64 s210.2.2.2.2], .row 132 1 v0_2 n0_2 cs372, .row 132 1 v0_3 n0_3 cs298, .row 3 1 v85 n86 cs87, .row 3 1 v299 n300 cs391]) (l' := [.box b0 185 [Value.int .i64 s210.2.2.1, Value.int .i64 s210.2.2.2.1, v0_2, v0_3, Value.int .i64 s210.2.2.2.2], .row 132 1 v0_3 n0_3 cs298]) [1, 3] (by decide) rfl), (Inc.rfl _)⟩)) rfl (fun w' hw' => (E.sub rfl rfl)) ?_
                      refine FB.t (i := 25) (bs 36 67108863) rfl (SP.on (hall437 _ _ _ 5 S420 rfl) (SP.nil ⟨_, (S420.selT (a := [.row 3 1 v111 n112 cs204, .box b0 185 [Value.int .i64 s210.2.2.1, Value.int .i64 s210.2.2.2.1, v0_2, v0_3, Value.int .i64 s210.2.2.2.2], .row 132 1 v0_2 n0_2 cs372, .row 132 1 v0_3 n0_3 cs298, .row 3 1 v85 n86 cs87, .row 3 1 v299 n300 cs391]) (l' := [.box b0 185 [Value.int .i64 s210.2.2.1, Value.int .i64 s210.2.2.2.1, v0_2, v0_3, Value.int .i64 s210.2.2.2.2], .row 132 1 v0_3 n0_3 cs298]) [1, 3] (by decide) rfl), (Inc.rfl _)⟩)) rfl (fun w' hw' => (E.move (v := Value.int .i64 x416) rfl)) ?_
                      refine FB.t (i := 26) (bs 36 134217727) rfl (SP.on (hall437 _ _ _ 5 S420 rfl) (SP.nil ⟨_, (S420.selT (a := [.row 3 1 v111 n112 cs204, .box b0 185 [Value.int .i64 s210.2.2.1, Value.int .i64 s210.2.2.2.1, v0_2, v0_3, Value.int .i64 s210.2.2.2.2], .row 132 1 v0_2 n0_2 cs372, .row 132 1 v0_3 n0_3 cs298, .row 3 1 v85 n86 cs87, .row 3 1 v299 n300 cs391]) (l' := [.box b0 185 [Value.int .i64 s210.2.2.1, Value.int .i64 s210.2.2.2.1, v0_2, v0_3, Value.int .i64 s210.2.2.2.2], .row 132 1 v0_3 n0_3 cs298]) [1, 3] (by decide) rfl), (Inc.rfl _)⟩)) rfl (fun w' hw' => (E.mul rfl rfl)) ?_
                      refine FB.t (i := 27) (bs 36 268435455) rfl (SP.on (hall437 _ _ _ 5 S420 rfl) (SP.nil ⟨_, (S420.selT (a := [.row 3 1 v111 n112 cs204, .box b0 185 [Value.int .i64 s210.2.2.1, Value.int .i64 s210.2.2.2.1, v0_2, v0_3, Value.int .i64 s210.2.2.2.2], .row 132 1 v0_2 n0_2 cs372, .row 132 1 v0_3 n0_3 cs298, .row 3 1 v85 n86 cs87, .row 3 1 v299 n300 cs391]) (l' := [.box b0 185 [Value.int .i64 s210.2.2.1, Value.int .i64 s210.2.2.2.1, v0_2, v0_3, Value.int .i64 s210.2.2.2.2], .row 132 1 v0_3 n0_3 cs298]) [1, 3] (by decide) rfl), (Inc.rfl _)⟩)) rfl (fun w' hw' => (E.add rfl rfl)) ?_
                      refine FB.t (i := 28) (bs 36 536870911) rfl (SP.on (hall437 _ _ _ 5 S420 rfl) (SP.nil ⟨_, (S420.selT (a := [.row 3 1 v111 n112 cs204, .box b0 185 [Value.int .i64 s210.2.2.1, Value.int .i64 s210.2.2.2.1, v0_2, v0_3, Value.int .i64 s210.2.2.2.2], .row 132 1 v0_2 n0_2 cs372, .row 132 1 v0_3 n0_3 cs298, .row 3 1 v85 n86 cs87, .row 3 1 v299 n300 cs391]) (l' := [.box b0 185 [Value.int .i64 s210.2.2.1, Value.int .i64 s210.2.2.2.1, v0_2, v0_3, Value.int .i64 s210.2.2.2.2], .row 132 1 v0_3 n0_3 cs298]) [1, 3] (by decide) rfl), (Inc.rfl _)⟩)) rfl (fun w' hw' => (E.move k399)) ?_
                      refine FB.t (i := 29) (bs 36 1073741823) rfl (SP.on (hall437 _ _ _ 5 S420 rfl) (SP.nil ⟨_, (S420.selT (a := [.row 3 1 v111 n112 cs204, .box b0 185 [Value.int .i64 s210.2.2.1, Value.int .i64 s210.2.2.2.1, v0_2, v0_3, Value.int .i64 s210.2.2.2.2], .row 132 1 v0_2 n0_2 cs372, .row 132 1 v0_3 n0_3 cs298, .row 3 1 v85 n86 cs87, .row 3 1 v299 n300 cs391]) (l' := [.box b0 185 [Value.int .i64 s210.2.2.1, Value.int .i64 s210.2.2.2.1, v0_2, v0_3, Value.int .i64 s210.2.2.2.2], .row 132 1 v0_3 n0_3 cs298]) [1, 3] (by decide) rfl), (Inc.rfl _)⟩)) rfl (fun w' hw' => (E.nilCheck rfl)) ?_
                      refine FB.t (i := 30) (bs 36 2147483647) rfl (SP.on (hall437 _ _ _ 5 S420 rfl) (SP.nil ⟨_, (S420.selT (a := [.row 3 1 v111 n112 cs204, .box b0 185 [Value.int .i64 s210.2.2.1, Value.int .i64 s210.2.2.2.1, v0_2, v0_3, Value.int .i64 s210.2.2.2.2], .row 132 1 v0_2 n0_2 cs372, .row 132 1 v0_3 n0_3 cs298, .row 3 1 v85 n86 cs87, .row 3 1 v299 n300 cs391]) (l' := [.box b0 185 [Value.int .i64 s210.2.2.1, Value.int .i64 s210.2.2.2.1, v0_2, v0_3, Value.int .i64 s210.2.2.2.2], .row 132 1 v0_3 n0_3 cs298]) [1, 3] (by decide) rfl), (Inc.rfl _)⟩)) rfl (fun w' hw' => (E.fieldAddr tf185_0 rfl)) ?_
                      refine FB.t (i := 31) (bs 36 4294967295) rfl (SP.on (hall437 _ _ _ 5 S420 rfl) (SP.nil ⟨_, (S420.selT (a := [.row 3 1 v111 n112 cs204, .box b0 185 [Value.int .i64 s210.2.2.1, Value.int .i64 s210.2.2.2.1, v0_2, v0_3, Value.int .i64 s210.2.2.2.2], .row 132 1 v0_2 n0_2 cs372, .row 132 1 v0_3 n0_3 cs298, .row 3 1 v85 n86 cs87, .row 3 1 v299 n300 cs391]) (l' := [.box b0 185 [Value.int .i64 s210.2.2.1, Value.int .i64 s210.2.2.2.1, v0_2, v0_3, Value.int .i64 s210.2.2.2.2], .row 132 1 v0_3 n0_3 cs298]) [1, 3] (by decide) rfl), (Inc.rfl _)⟩)) rfl (fun w' hw' => (E.fieldAddrN tf137_0 rfl rfl)) ?_
                      refine FB.t (i := 32) (bs 36 8589934591) rfl (SP.on (hall437 _ _ _ 5 S420 rfl) (SP.nil ⟨_, (S420.selT (a := [.row 3 1 v111 n112 cs204, .box b0 185 [Value.int .i64 s210.2.2.1, Value.int .i64 s210.2.2.2.1, v0_2, v0_3, Value.int .i64 s210.2.2.2.2], .row 132 1 v0_2 n0_2 cs372, .row 132 1 v0_3 n0_3 cs298, .row 3 1 v85 n86 cs87, .row 3 1 v299 n300 cs391]) (l' := [.box b0 185 [Value.int .i64 s210.2.2.1, Value.int .i64 s210.2.2.2.1, v0_2, v0_3, Value.int .i64 s210.2.2.2.2], .row 132 1 v0_3 n0_3 cs298]) [1, 3] (by decide) rfl), (Inc.rfl _)⟩)) rfl (fun w' hw' => (E.load rfl (run_load1 Tryz.isAgg3 (SX.box_now hw' (i := 0) rfl) rfl))) ?_
                      refine FB.t (i := 33) (bs 36 17179869183) rfl (SP.on (hall437 _ _ _ 5 S420 rfl) (SP.nil ⟨_, (S420.selT (a := [.row 3 1 v111 n112 cs204, .box b0 185 [Value.int .i64 s210.2.2.1, Value.int .i64 s210.2.2.2.1, v0_2, v0_3, Value.int .i64 s210.2.2.2.2], .row 132 1 v0_2 n0_2 cs372, .row 132 1 v0_3 n0_3 cs298, .row 3 1 v85 n86 cs87, .row 3 1 v299 n300 cs391]) (l' := [.box b0 185 [Value.int .i64 s210.2.2.1, Value.int .i64 s210.2.2.2.1, v0_2, v0_3, Value.int .i64 s210.2.2.2.2], .row 132 1 v0_3 n0_3 cs298]) [1, 3] (by decide) rfl), (Inc.rfl _)⟩)) rfl (fun w' hw' => (E.rem rfl rfl (nz_ne z438))) ?_
                      obtain ⟨p440, cs441, pt442, l443, at444, rel445, hall448⟩ := S420.row_atA (i := 5) rfl els392 (by decide) hx447
                      obtain rfl := eI_open rel445
                      refine FB.t (i := 34) (bs 36 34359738367) rfl (SP.on (hall437 _ _ _ 5 S420 rfl) (SP.nil ⟨_, (S420.selT (a := [.row 3 1 v111 n112 cs204, .box b0 185 [Value.int .i64 s210.2.2.1, Value.int .i64 s210.2.2.2.1, v0_2, v0_3, Value.int .i64 s210.2.2.2.2], .row 132 1 v0_2 n0_2 cs372, .row 132 1 v0_3 n0_3 cs298, .row 3 1 v85 n86 cs87, .row 3 1 v299 n300 cs391]) (l' := [.box b0 185 [Value.int .i64 s210.2.2.1, Value.int .i64 s210.2.2.2.1, v0_2, v0_3, Value.int .i64 s210.2.2.2.2], .row 132 1 v0_3 n0_3 cs298]) [1, 3] (by decide) rfl), (Inc.rfl _)⟩)) rfl (fun w' hw' => (E.indexAddr te132 rfl rfl pt442)) ?_
                      refine FB.all1 (i := 35) (by kernel_rfl) ?_
                      ·
                        obtain ⟨w449, cs455, run450, S451, els454, ce456⟩ := S420.putEls (P := Tryz.prog) (t := 3) (i := 5) rfl els392 hput453 pt442 Tryz.sizeOf3 (u := Value.int .i64 ((wr (x435 + (wr ((wr (s210.2.2.1 - x324)) * x416)))).tmod s210.2.2.1)) (c := [Value.int .i64 ((wr (x435 + (wr ((wr (s210.2.2.1 - x324)) * x416)))).tmod s210.2.2.1)]) rfl rfl (ones_cons rfl ones_nil) rfl
                        have S451 : St H0 w0 H393 w449 (.row 3 1 v111 n112 cs204 :: .box b0 185 [Value.int .i64 s210.2.2.1, Value.int .i64 s210.2.2.2.1, v0_2, v0_3, Value.int .i64 s210.2.2.2.2] :: .row 132 1 v0_2 n0_2 cs372 :: .row 132 1 v0_3 n0_3 cs298 :: .row 3 1 v85 n86 cs87 :: .row 3 1 v299 n300 cs455 :: L) := S451
                        refine FC.act (l' := (bs 36 68719476735)) rfl (by kernel_rfl) rfl rfl (E.store rfl rfl run450) ?_
                        refine ⟨(SP.o (SP.nil ⟨_, (S451.selT (a := [.row 3 1 v111 n112 cs204, .box b0 185 [Value.int .i64 s210.2.2.1, Value.int .i64 s210.2.2.2.1, v0_2, v0_3, Value.int .i64 s210.2.2.2.2], .row 132 1 v0_2 n0_2 cs372, .row 132 1 v0_3 n0_3 cs298, .row 3 1 v85 n86 cs87, .row 3 1 v299 n300 cs455]) (l' := [.box b0 185 [Value.int .i64 s210.2.2.1, Value.int .i64 s210.2.2.2.1, v0_2, v0_3, Value.int .i64 s210.2.2.2.2], .row 132 1 v0_3 n0_3 cs298]) [1, 3] (by decide) rfl), (Inc.rfl _)⟩)), ?_⟩
                        exact FB.done (by kernel_rfl) ⟨_, _, S451, (Inc.rfl _), els454, k399, k400, k401, k402, k403, k404, k405, k406, k407, k408, k409, k398⟩
                    ·
                      rintro f463 w462 ⟨H459, cs457, S460, i461, els458, k464, k465, k466, k467, k468, k469, k470, k471, k472, k473, k474, k475⟩
                      refine FW.region ?_
                      refine FL.v (E.add k475 rfl) ?_
                      refine FL.v (E.move (v := Value.int .i64 (wr (((i390 : Nat) : Int) + 1))) rfl) ?_
                      refine FL.nil ?_
                      obtain rfl := Option.some.inj hp
                      exact ⟨rfl, ⟨_, _, S460, (i395.tr i461), els458, (nat_succ rfl hj390 (chk_le hchk390)), k464, k465, k466, k467, k468, k469, k470, k471, k472, k473, k474⟩⟩
                  ·
                    clear hp hq
                    rintro s390 f501 w500 ⟨H497, cs391, S498, i499, els392, k502, k503, k504, k505, k506, k507, k508, k509, k510, k511, k512, k513⟩
                    refine FW.seq (FW.region ?_)
                    refine FL.v (E.lss k502 k513) ?_
                    refine FL.nil (FW.seq ?_)
                    refine FW.condF rfl (dlt_maxchk hchk390) ?_
                    refine FW.exit ?_
                    exact ⟨nofun, rfl, ⟨_, _, S498, i499, els392, k503, k504, k505, k506, k509, k510, k511⟩⟩
                  ·
                    clear hq
                    intro e f481 w480 hD
                    rcases q390 with s390 | x390
                    ·
                      obtain ⟨rfl, hD⟩ := hD
                      obtain ⟨H477, cs391, S478, i479, els392, k482, k483, k484, k485, k486, k487, k488⟩ := hD
                      replace hp := el_go hp
                      refine FW.region ?_
                      refine FL.v (E.add k488 rfl) ?_
                      refine FL.v (E.move (v := Value.int .i64 (wr (((i210 : Nat) : Int) + 1))) rfl) ?_
                      refine FL.nil ?_
                      obtain ⟨H489, S490, i491, h492, nv493⟩ := S478.sealRowU (i := 5) (l' := (.row 3 1 v111 n112 cs204 :: .box b0 185 [Value.int .i64 s210.2.2.1, Value.int .i64 s210.2.2.2.1, v0_2, v0_3, Value.int .i64 s210.2.2.2.2] :: .row 132 1 v0_2 n0_2 cs372 :: .row 132 1 v0_3 n0_3 cs298 :: .row 3 1 v85 n86 cs87 :: L)) rfl els392 (by decide) rfl
                      obtain ⟨xs494, hput495, hp⟩ := bnd hp
                      have els496 : Els (up w0.heap.size H489) (eL eI 1) 1 cs298 xs494 := (pd303.mono (up_mono ((i377.tr i479).tr i491))).close ⟨_, rfl, h492⟩ hput495
                      obtain rfl := Option.some.inj hp
                      exact ⟨rfl, ⟨_, _, _, S490, ((((i218.tr i306).tr i377).tr i479).tr i491), (els373.mono (up_mono (i479.tr i491))), els496, nd374, (nat_succ rfl hj210 (chk_le hchk210)), k482, k483, k484, k485, k486, k487⟩⟩
                    · exact x390.elim
              ·
                refine FW.condF rfl c326 ?_
                refine FW.skip (FW.region ?_)
                refine FL.v (E.add k317 rfl) ?_
                refine FL.v (E.move (v := Value.int .i64 (wr (((i210 : Nat) : Int) + 1))) rfl) ?_
                refine FL.nil ?_
                obtain ⟨H514, S515, i516, h517, nv518⟩ := S305.sealRowU (i := 5) (l' := (.row 3 1 v111 n112 cs204 :: .box b0 185 [Value.int .i64 s210.2.2.1, Value.int .i64 s210.2.2.2.1, v0_2, v0_3, Value.int .i64 s210.2.2.2.2] :: .row 132 1 v0_2 n0_2 cs211 :: .row 132 1 v0_3 n0_3 cs298 :: .row 3 1 v85 n86 cs87 :: L)) rfl els302 (by decide) rfl
                obtain ⟨xs519, hput520, hp⟩ := bnd hp
                have els521 : Els (up w0.heap.size H514) (eL eI 1) 1 cs298 xs519 := (pd303.mono (up_mono i516)).close ⟨_, rfl, h517⟩ hput520
                obtain rfl := Option.some.inj hp
                exact ⟨rfl, ⟨_, _, _, S515, ((i218.tr i306).tr i516), (els212.mono (up_mono (i306.tr i516))), els521, nd213, (nat_succ rfl hj210 (chk_le hchk210)), k309, k310, k311, k312, k315, k316⟩⟩
          ·
            clear hp hq
            rintro s210 f586 w585 ⟨H582, cs211, cs214, S583, i584, els212, els215, nd213, k587, k588, k589, k590, k591, k592, k593⟩
            refine FW.seq (FW.region ?_)
            refine FL.v (E.lss k587 k593) ?_
            refine FL.nil (FW.seq ?_)
            refine FW.condF rfl (dlt_maxchk hchk210) ?_
            refine FW.exit ?_
            exact ⟨nofun, rfl, ⟨_, _, _, S583, i584, els212, els215, nd213, k588, k589, k591⟩⟩
          ·
            clear hq
            intro e f527 w526 hD
            rcases q210 with s210 | x210
            ·
              obtain ⟨rfl, hD⟩ := hD
              obtain ⟨H523, cs211, cs214, S524, i525, els212, els215, nd213, k528, k529, k530⟩ := hD
              replace hp := el_go hp
              refine FW.seq (FW.region ?_)
              refine FL.v (E.move k528) ?_
              refine FL.v (E.move k528) ?_
              refine FL.v (E.nilCheck rfl) ?_
              refine FL.v (E.fieldAddr tf185_1 rfl) ?_
              refine FL.v (E.load rfl (run_load1 Tryz.isAgg138 (S524.box_now (i := 1) rfl) rfl)) ?_
              refine FL.v (E.move k529) ?_
              obtain ⟨H531, S532, i533, h534, nv535⟩ := S524.sealRowU (i := 4) (l' := (.row 3 1 v111 n112 cs204 :: .box b0 185 [Value.int .i64 s210.2.2.1, Value.int .i64 s210.2.2.2.1, v0_2, v0_3, Value.int .i64 s210.2.2.2.2] :: .row 132 1 v0_2 n0_2 cs211 :: .row 132 1 v0_3 n0_3 cs214 :: L)) rfl (els88.mono (up_mono (i181.tr i525))) (by decide) rfl
              obtain ⟨v536, w537, run538, S539⟩ := S532.buildSlice (P := Tryz.prog) te138 [v85] (parts := #[(0, v85)]) (cells := [v85]) rfl (szs_cons (cells_size h534.cells) szs_nil) (fc_cons h534.cells fc_nil) (ones_cons h534.one ones_nil) (Nat.le_of_ble_eq_true rfl)
              have els540 : Els (up w0.heap.size H531) (eL eI 1) 1 [v85] [r73] := (Els.snoc (H := (up w0.heap.size H531)) (E := (eL eI 1)) (k := 1) (c := [v85]) (x := r73) Els.nil rfl ⟨_, rfl, h534⟩)
              have nd541 : (bl [v85]).Nodup := by exact nd_one v85
              refine FL.v (E.buildSlice (B1 rfl) run538) ?_
              obtain ⟨xs542, hz543, hp⟩ := bnd hp
              obtain ⟨v544, w547, n545, cs546, run548, S549, els550, ce551⟩ := S539.appendO (P := Tryz.prog) te138 (i := 3) (j := 0) rfl (els212.mono (up_mono i533)) rfl els540 hz543
              have S549 : St H0 w0 H531 w547 (.row 132 1 v536 1 [v85] :: .row 3 1 v111 n112 cs204 :: .box b0 185 [Value.int .i64 s210.2.2.1, Value.int .i64 s210.2.2.2.1, v0_2, v0_3, Value.int .i64 s210.2.2.2.2] :: .row 132 1 v544 n545 cs546 :: .row 132 1 v0_3 n0_3 cs214 :: L) := S549
              have nd552 : (bl cs546).Nodup := by rw [ce551]; exact nd_app nd213 nd541 (Els.dom (els212.mono (upI.tr (Inc.rfl _)))) (by exact nv535)
              have S553 : St H0 w0 H531 w547 (.row 3 1 v111 n112 cs204 :: .box b0 185 [Value.int .i64 s210.2.2.1, Value.int .i64 s210.2.2.2.1, v0_2, v0_3, Value.int .i64 s210.2.2.2.2] :: .row 132 1 v544 n545 cs546 :: .row 132 1 v0_3 n0_3 cs214 :: L) := S549.drop 0
              refine FL.v (E.append rfl rfl run548) ?_
              refine FL.v (E.nilCheck rfl) ?_
              refine FL.v (E.fieldAddr tf185_1 rfl) ?_
              obtain ⟨w554, run555, S556⟩ := S553.store (P := Tryz.prog) (t := 138) (i := 1) (j := 2) (cs' := [Value.int .i64 s210.2.2.1, Value.int .i64 s210.2.2.2.1, v544, v0_3, Value.int .i64 s210.2.2.2.2]) (l' := (.row 3 1 v111 n112 cs204 :: .box b0 185 [Value.int .i64 s210.2.2.1, Value.int .i64 s210.2.2.2.1, v544, v0_3, Value.int .i64 s210.2.2.2.2] :: .row 132 1 v544 n545 cs546 :: .row 132 1 v0_3 n0_3 cs214 :: L)) (v := v544) (c := [v544]) rfl Tryz.sizeOf138 (Ln.cells (S553.row_ln (i := 2) rfl)) rfl (ones_cons (Ln.one (S553.row_ln (i := 2) rfl)) ones_nil) (Nat.le_of_ble_eq_true rfl) rfl rfl
              refine FL.act rfl rfl (E.store rfl rfl run555) ?_
              refine FL.nil (FW.seq (FW.region ?_))
              refine FL.v (E.move k528) ?_
              refine FL.v (E.move k528) ?_
              refine FL.v (E.nilCheck rfl) ?_
              refine FL.v (E.fieldAddr tf185_2 rfl) ?_
              refine FL.v (E.load rfl (run_load1 Tryz.isAgg138 (S556.box_now (i := 1) rfl) rfl)) ?_
              refine FL.v (E.move k530) ?_
              obtain ⟨H557, S558, i559, h560, nv561⟩ := S556.sealRowU (i := 0) (l' := (.box b0 185 [Value.int .i64 s210.2.2.1, Value.int .i64 s210.2.2.2.1, v544, v0_3, Value.int .i64 s210.2.2.2.2] :: .row 132 1 v544 n545 cs546 :: .row 132 1 v0_3 n0_3 cs214 :: L)) rfl (els203.mono (up_mono (i525.tr i533))) (by decide) rfl
              obtain ⟨v562, w563, run564, S565⟩ := S558.buildSlice (P := Tryz.prog) te138 [v111] (parts := #[(0, v111)]) (cells := [v111]) rfl (szs_cons (cells_size h560.cells) szs_nil) (fc_cons h560.cells fc_nil) (ones_cons h560.one ones_nil) (Nat.le_of_ble_eq_true rfl)
              have els566 : Els (up w0.heap.size H557) (eL eI 1) 1 [v111] [xs201] := (Els.snoc (H := (up w0.heap.size H557)) (E := (eL eI 1)) (k := 1) (c := [v111]) (x := xs201) Els.nil rfl ⟨_, rfl, h560⟩)
              have nd567 : (bl [v111]).Nodup := by exact nd_one v111
              refine FL.v (E.buildSlice (B1 rfl) run564) ?_
              obtain ⟨xs568, hz569, hp⟩ := bnd hp
              obtain ⟨v570, w573, n571, cs572, run574, S575, els576, ce577⟩ := S565.appendO (P := Tryz.prog) te138 (i := 3) (j := 0) rfl (els215.mono (up_mono (i533.tr i559))) rfl els566 hz569
              have S575 : St H0 w0 H557 w573 (.row 132 1 v562 1 [v111] :: .box b0 185 [Value.int .i64 s210.2.2.1, Value.int .i64 s210.2.2.2.1, v544, v0_3, Value.int .i64 s210.2.2.2.2] :: .row 132 1 v544 n545 cs546 :: .row 132 1 v570 n571 cs572 :: L) := S575
              have S578 : St H0 w0 H557 w573 (.box b0 185 [Value.int .i64 s210.2.2.1, Value.int .i64 s210.2.2.2.1, v544, v0_3, Value.int .i64 s210.2.2.2.2] :: .row 132 1 v544 n545 cs546 :: .row 132 1 v570 n571 cs572 :: L) := S575.drop 0
              refine FL.v (E.append rfl rfl run574) ?_
              refine FL.v (E.nilCheck rfl) ?_
              refine FL.v (E.fieldAddr tf185_2 rfl) ?_
              obtain ⟨w579, run580, S581⟩ := S578.store (P := Tryz.prog) (t := 138) (i := 0) (j := 3) (cs' := [Value.int .i64 s210.2.2.1, Value.int .i64 s210.2.2.2.1, v544, v570, Value.int .i64 s210.2.2.2.2]) (l' := (.box b0 185 [Value.int .i64 s210.2.2.1, Value.int .i64 s210.2.2.2.1, v544, v570, Value.int .i64 s210.2.2.2.2] :: .row 132 1 v544 n545 cs546 :: .row 132 1 v570 n571 cs572 :: L)) (v := v570) (c := [v570]) rfl Tryz.sizeOf138 (Ln.cells (S578.row_ln (i := 2) rfl)) rfl (ones_cons (Ln.one (S578.row_ln (i := 2) rfl)) ones_nil) (Nat.le_of_ble_eq_true rfl) rfl rfl
              refine FL.act rfl rfl (E.store rfl rfl run580) ?_
              refine FL.nil (FW.seq (FW.region ?_))
              refine FL.v (E.assign (v := Value.bool true) rfl) ?_
              refine FL.nil ?_
              refine FW.ret ?_
              obtain rfl := Option.some.inj hp
              exact ⟨.inr rfl, res1 rfl rfl ⟨_, _, _, _, _, _, _, rfl, ⟨S581, (((((i29.tr i91).tr i181).tr i525).tr i533).tr i559)⟩, (els550.mono (up_mono i559)), nd552, els576⟩⟩
            · exact x210.elim
        · exact x110.elim

theorem w_impl_dense_degree {Ha : GH} {wa : World} (hs : Sl Ha wa) (v0 : Value) (a0 : List Int) (p0 : RSl Ha eI 1 v0 a0) {r : Int} (hp : (PF.impl_dense_degree a0) = some r) :
    Calls Tryz.prog 148 #[v0] wa (Sc Ha wa (Value.int .i64 r)) := by
  unfold PF.impl_dense_degree at hp
  have S0 := St.init hs
  refine calls_go (N := 21) (args := [v0]) Tryz.func148 rfl rfl rfl ?_
  refine FW.seq (FW.region ?_)
  refine FL.v (E.assign (v := Value.int .i64 0) rfl) ?_
  refine FL.nil (FW.seq (FW.region ?_))
  refine FL.v (E.assign (v := Value.int .i64 (-1)) rfl) ?_
  refine FL.nil (FW.seq (FW.seq (FW.region ?_)))
  refine FL.v (E.move (v := v0) rfl) ?_
  refine FL.v (E.lenP te132 rfl p0) ?_
  refine FL.v (E.move (v := Value.int .i64 0) rfl) ?_
  refine FL.nil ?_
  obtain ⟨q22, hq, hp⟩ := bndR hp
  refine FW.block ?_
  refine FW.mono (FW.forL (S := Int) (X := Empty) (fun (i22 : Nat) (s22 : Int) f w => ∃ H : GH, St Ha wa H w [] ∧ Inc Ha H ∧ f 8 = Value.int .i64 ((i22 : Nat) : Int) ∧ f 3 = Value.int .i64 s22 ∧ f 6 = v0 ∧ f 7 = Value.int .i64 (len a0)) (fun (q : Rs Int Empty) e f w => match q with | .go s22 => e = Exit.exit 0 ∧ (∃ H : GH, St Ha wa H w [] ∧ Inc Ha H ∧ f 3 = Value.int .i64 s22) | .rt x => x.elim) hq ⟨_, S0, (Inc.rfl _), rfl, rfl, rfl, rfl⟩ ?_ ?_) ?_
  ·
    clear hp hq
    rintro i22 y21 s22 f46 w45 ⟨H42, S43, i44, k47, k48, k49, k50⟩ hx22 o61 hp
    refine FW.seq (FW.region ?_)
    refine FL.v (E.lssT k47 k50 (lss_len hx22)) ?_
    refine FL.nil (FW.seq ?_)
    refine FW.condT rfl rfl ?_
    refine FW.skip (FW.seq (FW.block (FW.seq (FW.region ?_))))
    refine FL.v (E.move k47) ?_
    obtain ⟨p51, cs52, pt53, l54, at55, rel56⟩ := p0.at (ix_nat hx22)
    obtain rfl := eI_open rel56
    refine FL.v (E.indexAddr te132 k49 k47 pt53) ?_
    refine FL.v (E.load rfl (run_load0 Tryz.isAgg3 ((at55.mono i44).now S43.sl) rfl)) ?_
    refine FL.v (E.assign (v := Value.int .i64 ((i22 : Nat) : Int)) rfl) ?_
    refine FL.v (E.assign (v := Value.int .i64 y21) rfl) ?_
    refine FL.nil (FW.seq (FW.region ?_))
    refine FL.v (E.move (v := Value.int .i64 y21) rfl) ?_
    refine FL.v (E.neq rfl rfl) ?_
    refine FL.nil ?_
    rcases ifB hp with ⟨c57, hp⟩ | ⟨c57, hp⟩
    ·
      refine FW.condT rfl c57 ?_
      refine FW.region ?_
      refine FL.v (E.move k48) ?_
      refine FL.v (E.move (v := Value.int .i64 ((i22 : Nat) : Int)) rfl) ?_
      refine FL.call rfl rfl rfl (E.call Tryz.call198 (A1 rfl)) (w_impl_degreeOf S43.sl ((i22 : Nat) : Int)) ?_
      rintro e w58 ⟨rfl, r59⟩
      refine ⟨_, rfl, ?_⟩
      have S60 := S43.call r59
      refine FL.v (E.max2 rfl rfl) ?_
      refine FL.v (E.assign (v := Value.int .i64 (mx s22 (PF.impl_degreeOf ((i22 : Nat) : Int)))) rfl) ?_
      refine FL.nil (FW.region ?_)
      refine FL.v (E.add k47 rfl) ?_
      refine FL.v (E.move (v := Value.int .i64 (wr (((i22 : Nat) : Int) + 1))) rfl) ?_
      refine FL.nil ?_
      obtain rfl := Option.some.inj hp
      exact ⟨rfl, ⟨_, S60, i44, (nat_succ rfl (lt_of_get hx22) (p0.mono i44).le), rfl, k49, k50⟩⟩
    ·
      refine FW.condF rfl c57 ?_
      refine FW.skip (FW.region ?_)
      refine FL.v (E.add k47 rfl) ?_
      refine FL.v (E.move (v := Value.int .i64 (wr (((i22 : Nat) : Int) + 1))) rfl) ?_
      refine FL.nil ?_
      obtain rfl := Option.some.inj hp
      exact ⟨rfl, ⟨_, S43, i44, (nat_succ rfl (lt_of_get hx22) (p0.mono i44).le), k48, k49, k50⟩⟩
  ·
    clear hp hq
    rintro s22 f72 w71 ⟨H68, S69, i70, k73, k74, k75, k76⟩
    refine FW.seq (FW.region ?_)
    refine FL.v (E.lss k73 k76) ?_
    refine FL.nil (FW.seq ?_)
    refine FW.condF rfl dlt_len ?_
    refine FW.exit ?_
    exact ⟨nofun, rfl, ⟨_, S69, i70, k74⟩⟩
  ·
    clear hq
    intro e f66 w65 hD
    rcases q22 with s22 | x22
    ·
      obtain ⟨rfl, hD⟩ := hD
      obtain ⟨H62, S63, i64, k67⟩ := hD
      replace hp := el_go hp
      refine FW.seq (FW.region ?_)
      refine FL.v (E.move k67) ?_
      refine FL.v (E.assign (v := Value.int .i64 s22) rfl) ?_
      refine FL.nil ?_
      refine FW.ret ?_
      obtain rfl := Option.some.inj hp
      exact ⟨.inr rfl, res1 rfl rfl ⟨rfl, S63.back⟩⟩
    · exact x22.elim

@[reducible] def p_slices_SortFunc_impl_dense_impl_dense (H0 : GH) (w0 : World) (Ha : GH) (L : List MO) (v0 : Value) (n0 : Nat) (r : (List (List Int))) : Ending → World → Prop :=
 fun e w' => ∃ H' : GH, ∃ c0k : List Value, e = .returned (Value.tuple #[]) ∧ (St H0 w0 H' w' (.row 132 1 v0 n0 c0k :: L) ∧ Inc Ha H') ∧ Els H' (eL eI 1) 1 c0k r
theorem w_slices_SortFunc_impl_dense_impl_dense {H0 Ha : GH} {w0 wa : World} {L : List MO} {v0 : Value} {n0 : Nat} {k0 : List Value} (S0 : St H0 w0 Ha wa (.row 132 1 v0 n0 k0 :: L)) (a0 : List (List Int)) (p0 : Els Ha (eL eI 1) 1 k0 a0) (v1 : Value) (a1 : (List Int) → (List Int) → Option Int) (p1 : Fn_List_Int_List_Int_to_I Tryz.prog Ha v1 a1) {r : (List (List Int))} (hp : (PF.slices_SortFunc_impl_dense_impl_dense a0 a1) = some r) :
  Calls Tryz.prog 193 #[v0, v1] wa (p_slices_SortFunc_impl_dense_impl_dense H0 w0 Ha L v0 n0 r) := by
 refine (St.sortF (l := .row 132 1 v0 n0 k0 :: L) (i := 0) (Inc.rfl _) S0 rfl p0 (fun H2 w2 hi hs2 c x hc d y hd r hr => by obtain ⟨y0, e0, z0⟩ := eL_open hc; cases e0; obtain ⟨y1, e1, z1⟩ := eL_open hd; cases e1; exact p1 H2 w2 hi hs2 x c z0 y d z1 r hr) (fun p cap fv w => AnyF.slices_SortFunc_none (P := Tryz.prog) (ρ := Tryz.sort193_ren) { Tryz.sort193 with } p cap fv w) (fun α _ enc h1 cf hO g cb blk off cap d w eg hc hH hb hs => Any.slices_SortFunc Tryz.sort193 enc h1 cf hO g cb blk off cap d w eg hc hH hb hs) hp).mono ?_
 rintro e w' ⟨rfl, c', h1, h2, hq⟩
 exact ⟨_, _, rfl, ⟨h1, Inc.rfl _⟩, h2⟩

theorem w_impl_algebra_span_2 {Ha : GH} {wa : World} (hs : Sl Ha wa) (v0 : Value) (a0 : List Int) (p0 : RSl Ha eI 1 v0 a0) (v1 : Value) (a1 : List Int) (p1 : RSl Ha eI 1 v1 a1) {r : Int} (hp : (PF.impl_algebra_span_2 a0 a1) = some r) :
  Calls Tryz.prog 194 #[v0, v1] wa (Sc Ha wa (Value.int .i64 r)) := by
 unfold PF.impl_algebra_span_2 at hp
 have S0 := St.init hs
 refine calls_go (N := 10) (args := [v0, v1]) Tryz.func194 rfl rfl rfl ?_
 refine FW.seq (FW.region ?_)
 refine FL.v (E.assign (v := Value.int .i64 0) rfl) ?_
 refine FL.nil (FW.seq (FW.region ?_))
 refine FL.v (E.move (v := v0) rfl) ?_
 obtain ⟨r21, hr22, hp⟩ := bnd hp
 refine FL.call rfl rfl rfl (E.call Tryz.call143 (A1 rfl)) (w_impl_leading S0.sl v0 a0 p0 hr22) ?_
 rintro e w23 ⟨rfl, r24⟩
 refine ⟨_, rfl, ?_⟩
 have S25 := S0.call r24
 refine FL.v (E.move (v := v1) rfl) ?_
 obtain ⟨r26, hr27, hp⟩ := bnd hp
 refine FL.call rfl rfl rfl (E.call Tryz.call143 (A1 rfl)) (w_impl_leading S25.sl v1 a1 p1 hr27) ?_
 rintro e w28 ⟨rfl, r29⟩
 refine ⟨_, rfl, ?_⟩
 have S30 := S25.call r29
 obtain ⟨r31, hr32, hp⟩ := bnd hp
 refine FL.call rfl rfl rfl (E.call Tryz.call195 (A2 rfl rfl)) (w_impl_compareMonos S30.sl r21 r26 hr32) ?_
 rintro e w33 ⟨rfl, r34⟩
 refine ⟨_, rfl, ?_⟩
 have S35 := S30.call r34
 refine FL.v (E.assign (v := Value.int .i64 r31) rfl) ?_
 refine FL.nil ?_
 refine FW.ret ?_
 obtain rfl := Option.some.inj hp
 exact ⟨.inr rfl, res1 rfl rfl ⟨rfl, S35.back⟩⟩

@[reducible] def p_impl_algebra_span (Ha : GH) (wa : World) (r : (Option echelon)) : Ending → World → Prop :=
  fun e w' => ∃ H' : GH, ∃ v0 : Value, e = .returned (v0) ∧ Run wa.heap.size Ha wa H' w' ∧ OP (fun (q : Addr) (x : echelon) => ∃ v0R_2 : Value, ∃ v0R_3 : Value, RSl H' (eL eI 1) 1 v0R_2 x.rows ∧ (∃ c, Nest (up wa.heap.size H') (eL eI 1) 1 v0R_3 x.made c) ∧ CAt H' q [Value.int .i64 x.ring.p, Value.int .i64 x.ring.vars, v0R_2, v0R_3, Value.int .i64 x.many]) v0 r
set_option maxHeartbeats 4000000 in
theorem w_impl_algebra_span {Ha : GH} {wa : World} (hs : Sl Ha wa) (q0P : Addr) (a0 : algebra) (v0P_3 : Value) (v0P_4 : Value) (p0P_3 : RSl Ha (eL eI 1) 1 v0P_3 a0.f.clauses) (p0P_4 : RSl Ha (eL eI 1) 1 v0P_4 a0.q) (c0P : CAt Ha q0P [Value.int .i64 a0.ring.p, Value.int .i64 a0.ring.vars, Value.int .i64 a0.f.vars, v0P_3, v0P_4]) (a1 : Int) {r : (Option echelon)} (hp : (PF.impl_algebra_span a0 a1) = some r) :
    Calls Tryz.prog 142 #[Value.pointer (some q0P), Value.int .i64 a1] wa (p_impl_algebra_span Ha wa r) := by
  unfold PF.impl_algebra_span at hp
  have S0 := St.init hs
  refine calls_go (N := 66) (args := [Value.pointer (some q0P), Value.int .i64 a1]) Tryz.func142 rfl rfl rfl ?_
  refine FW.seq (FW.region ?_)
  refine FL.v (E.assign (v := Value.pointer none) rfl) ?_
  refine FL.nil (FW.seq (FW.region ?_))
  refine FL.v (E.move (v := Value.pointer (some q0P)) rfl) ?_
  refine FL.v (E.nilCheck rfl) ?_
  refine FL.v (E.fieldAddr tf140_0 rfl) ?_
  refine FL.v (E.load rfl (run_loadA Tryz.isAgg137 Tryz.sizeOf137 ((c0P.now S0.sl).sub (j := 0) (n := 2) (c := [Value.int .i64 a0.ring.p, Value.int .i64 a0.ring.vars]) rfl) rfl)) ?_
  refine FL.v (E.build (B1 rfl) (run_build _ 185 #[(0, Value.agg #[Value.int .i64 a0.ring.p, Value.int .i64 a0.ring.vars])] #[Value.int .i64 a0.ring.p, Value.int .i64 a0.ring.vars, Value.slice none 0 0, Value.slice none 0 0, Value.int .i64 0] (by rfl))) ?_
  have S25 := S0.nil 132 1
  have els26 : Els (up wa.heap.size Ha) (eL eI 1) 1 [] [] := Els.nil
  have S27 := S25.nil 132 1
  have els28 : Els (up wa.heap.size Ha) (eL eI 1) 1 [] [] := Els.nil
  obtain ⟨b21, w22, run23, S24⟩ := S27.box (P := Tryz.prog) 185 [Value.int .i64 a0.ring.p, Value.int .i64 a0.ring.vars, (Value.slice none 0 0), (Value.slice none 0 0), Value.int .i64 0] (v := Value.agg #[Value.int .i64 a0.ring.p, Value.int .i64 a0.ring.vars, Value.slice none 0 0, Value.slice none 0 0, Value.int .i64 0]) rfl (ones_cons rfl (ones_cons rfl (ones_cons (Ln.one (S27.row_ln (i := 1) rfl)) (ones_cons (Ln.one (S27.row_ln (i := 0) rfl)) (ones_cons rfl ones_nil)))))
  refine FL.v (E.box rfl run23) ?_
  obtain ⟨b29, w30, run31, S32⟩ := S24.alloc (P := Tryz.prog) 128 [(Value.pointer none)] Tryz.zeroValue128 rfl (ones_cons rfl ones_nil)
  refine FL.v (E.alloc run31) ?_
  obtain ⟨w33, run34, S35⟩ := S32.store0 (P := Tryz.prog) (t := 128) (i := 0) (cs' := [Value.pointer (some (⟨b21, 0, none⟩ : Addr))]) (l' := [.box b29 128 [Value.pointer (some (⟨b21, 0, none⟩ : Addr))], .box b21 185 [Value.int .i64 a0.ring.p, Value.int .i64 a0.ring.vars, (Value.slice none 0 0), (Value.slice none 0 0), Value.int .i64 0], .row 132 1 (Value.slice none 0 0) 0 [], .row 132 1 (Value.slice none 0 0) 0 []]) (v := Value.pointer (some (⟨b21, 0, none⟩ : Addr))) (c := [Value.pointer (some (⟨b21, 0, none⟩ : Addr))]) rfl Tryz.sizeOf128 rfl rfl (ones_cons rfl ones_nil) (Nat.le_of_ble_eq_true rfl) rfl rfl
  refine FL.act rfl rfl (E.store rfl rfl run34) ?_
  obtain ⟨H36, S37, i38, at39⟩ := S35.sealBox (i := 0) (l' := [.box b21 185 [Value.int .i64 a0.ring.p, Value.int .i64 a0.ring.vars, (Value.slice none 0 0), (Value.slice none 0 0), Value.int .i64 0], .row 132 1 (Value.slice none 0 0) 0 [], .row 132 1 (Value.slice none 0 0) 0 []]) rfl rfl
  refine FL.nil (FW.seq (FW.seq (FW.region ?_)))
  refine FL.v (E.move (v := Value.pointer (some q0P)) rfl) ?_
  refine FL.v (E.nilCheck rfl) ?_
  refine FL.v (E.fieldAddr tf140_1 rfl) ?_
  refine FL.v (E.fieldAddrN tf30_1 rfl rfl) ?_
  refine FL.v (E.load rfl (run_load1 Tryz.isAgg22 ((c0P.mono i38).now S37.sl) rfl)) ?_
  refine FL.v (E.lenP te22 rfl p0P_3) ?_
  refine FL.v (E.move (v := Value.int .i64 0) rfl) ?_
  refine FL.nil ?_
  obtain ⟨q41, hq, hp⟩ := bndR hp
  refine FW.block ?_
  refine FW.mono (FW.forL (S := ((List (List Int)) × (List (List Int)) × Int × Int × Int)) (X := Empty) (fun (i41 : Nat) (s41 : ((List (List Int)) × (List (List Int)) × Int × Int × Int)) f w => ∃ H : GH, ∃ v42 : Value, ∃ n43 : Nat, ∃ cs44 : List Value, ∃ v46 : Value, ∃ n47 : Nat, ∃ cs48 : List Value, St Ha wa H w [.box b21 185 [Value.int .i64 s41.2.2.1, Value.int .i64 s41.2.2.2.1, v46, v42, Value.int .i64 s41.2.2.2.2], .row 132 1 v42 n43 cs44, .row 132 1 v46 n47 cs48] ∧ Inc H36 H ∧ Els (up wa.heap.size H) (eL eI 1) 1 cs44 s41.1 ∧ Els (up wa.heap.size H) (eL eI 1) 1 cs48 s41.2.1 ∧ (bl cs48).Nodup ∧ f 21 = Value.int .i64 ((i41 : Nat) : Int) ∧ f 0 = Value.pointer (some q0P) ∧ f 1 = Value.int .i64 a1 ∧ f 5 = Value.pointer (some ⟨b29, 0, none⟩) ∧ f 19 = v0P_3 ∧ f 20 = Value.int .i64 (len a0.f.clauses)) (fun (q : Rs ((List (List Int)) × (List (List Int)) × Int × Int × Int) Empty) e f w => match q with | .go s41 => e = Exit.exit 0 ∧ (∃ H : GH, ∃ v42 : Value, ∃ n43 : Nat, ∃ cs44 : List Value, ∃ v46 : Value, ∃ n47 : Nat, ∃ cs48 : List Value, St Ha wa H w [.box b21 185 [Value.int .i64 s41.2.2.1, Value.int .i64 s41.2.2.2.1, v46, v42, Value.int .i64 s41.2.2.2.2], .row 132 1 v42 n43 cs44, .row 132 1 v46 n47 cs48] ∧ Inc H36 H ∧ Els (up wa.heap.size H) (eL eI 1) 1 cs44 s41.1 ∧ Els (up wa.heap.size H) (eL eI 1) 1 cs48 s41.2.1 ∧ (bl cs48).Nodup ∧ f 0 = Value.pointer (some q0P) ∧ f 1 = Value.int .i64 a1 ∧ f 5 = Value.pointer (some ⟨b29, 0, none⟩)) | .rt x => x.elim) hq ⟨_, _, _, _, _, _, _, S37, (Inc.rfl _), (els28.mono (up_mono i38)), (els26.mono (up_mono i38)), (show (bl []).Nodup from List.nodup_nil), rfl, rfl, rfl, rfl, rfl, rfl⟩ ?_ ?_) ?_
  ·
    clear hp hq
    rintro i41 y40 s41 f55 w54 ⟨H51, v42, n43, cs44, v46, n47, cs48, S52, i53, els45, els49, nd50, k56, k57, k58, k59, k60, k61⟩ hx41 o123 hp
    refine FW.seq (FW.region ?_)
    refine FL.v (E.lssT k56 k61 (lss_len hx41)) ?_
    refine FL.nil (FW.seq ?_)
    refine FW.condT rfl rfl ?_
    refine FW.skip (FW.seq (FW.block (FW.seq (FW.region ?_))))
    refine FL.v (E.move k56) ?_
    obtain ⟨p62, cs63, pt64, l65, at66, rel67⟩ := p0P_3.at (ix_nat hx41)
    obtain ⟨v68, rfl, h69⟩ := eL_open rel67
    refine FL.v (E.indexAddr te22 k60 k56 pt64) ?_
    refine FL.v (E.load rfl (run_load0 Tryz.isAgg84 ((at66.mono (i38.tr i53)).now S52.sl) rfl)) ?_
    refine FL.v (E.assign (v := Value.int .i64 ((i41 : Nat) : Int)) rfl) ?_
    refine FL.v (E.assign (v := v68) rfl) ?_
    refine FL.nil (FW.seq (FW.region ?_))
    refine FL.v (E.move (v := v68) rfl) ?_
    refine FL.v (E.lenP te84 rfl h69) ?_
    refine FL.v (E.move k58) ?_
    refine FL.v (E.leq rfl rfl) ?_
    refine FL.nil ?_
    rcases ifB hp with ⟨c70, hp⟩ | ⟨c70, hp⟩
    ·
      refine FW.condT rfl c70 ?_
      obtain ⟨x80, hx81, hp⟩ := bnd hp
      obtain ⟨r85, hr86, hp⟩ := bnd hp
      refine FW.drawB (Sl H51) (fun f w => ∃ H : GH, ∃ v103 : Value, ∃ n104 : Nat, ∃ cs105 : List Value, ∃ v107 : Value, ∃ n108 : Nat, ∃ cs109 : List Value, St Ha wa H w [.box b21 185 [Value.int .i64 r85.2.ring.p, Value.int .i64 r85.2.ring.vars, v107, v103, Value.int .i64 r85.2.many], .row 132 1 v103 n104 cs105, .row 132 1 v107 n108 cs109] ∧ Inc H51 H ∧ Els (up wa.heap.size H) (eL eI 1) 1 cs105 r85.2.made ∧ Els (up wa.heap.size H) (eL eI 1) 1 cs109 r85.2.rows ∧ (bl cs109).Nodup ∧ f 0 = Value.pointer (some q0P) ∧ f 1 = Value.int .i64 a1 ∧ f 5 = Value.pointer (some ⟨b29, 0, none⟩) ∧ f 19 = v0P_3 ∧ f 20 = Value.int .i64 (len a0.f.clauses) ∧ f 21 = Value.int .i64 ((i41 : Nat) : Int)) (by kernel_rfl) S52.sl ?_ ?_
      ·
        intro w71 r72
        have S73 := S52.call r72
        refine FB.t (i := 0) (bs 9 1) rfl (SP.nil S73.sl) rfl (fun w' hw' => (E.load k59 (run_load0 Tryz.isAgg128 ((at39.mono i53).now hw') rfl))) ?_
        refine FB.t (i := 1) (bs 9 3) rfl (SP.nil S73.sl) rfl (fun w' hw' => (E.move k57)) ?_
        refine FB.t (i := 2) (bs 9 7) rfl (SP.nil S73.sl) rfl (fun w' hw' => (E.nilCheck rfl)) ?_
        refine FB.t (i := 3) (bs 9 15) rfl (SP.nil S73.sl) rfl (fun w' hw' => (E.fieldAddr tf140_2 rfl)) ?_
        refine FB.t (i := 4) (bs 9 31) rfl (SP.nil S73.sl) rfl (fun w' hw' => (E.load rfl (run_load1 Tryz.isAgg138 ((c0P.mono (i38.tr i53)).now hw') rfl))) ?_
        refine FB.t (i := 5) (bs 9 63) rfl (SP.nil S73.sl) rfl (fun w' hw' => (E.move (v := Value.int .i64 ((i41 : Nat) : Int)) rfl)) ?_
        obtain ⟨p74, cs75, pt76, l77, at78, rel79⟩ := p0P_4.at hx81
        obtain ⟨v82, rfl, h83⟩ := eL_open rel79
        refine FB.t (i := 6) (bs 9 127) rfl (SP.nil S73.sl) rfl (fun w' hw' => (E.indexAddr te138 rfl rfl pt76)) ?_
        refine FB.t (i := 7) (bs 9 255) rfl (SP.nil S73.sl) rfl (fun w' hw' => (E.load rfl (run_load0 Tryz.isAgg132 ((at78.mono (i38.tr i53)).now hw') rfl))) ?_
        refine FB.all1 (i := 8) (by kernel_rfl) ?_
        ·
          have S87 : St Ha wa H51 w71 [.row 132 1 v42 n43 cs44, .box b21 185 [Value.int .i64 s41.2.2.1, Value.int .i64 s41.2.2.2.1, v46, v42, Value.int .i64 s41.2.2.2.2], .row 132 1 v46 n47 cs48] := S73.front 1 rfl rfl
          have S88 : St Ha wa H51 w71 [.row 132 1 v46 n47 cs48, .row 132 1 v42 n43 cs44, .box b21 185 [Value.int .i64 s41.2.2.1, Value.int .i64 s41.2.2.2.1, v46, v42, Value.int .i64 s41.2.2.2.2]] := S87.front 2 rfl rfl
          have S89 : St Ha wa H51 w71 [.box b21 185 [Value.int .i64 s41.2.2.1, Value.int .i64 s41.2.2.2.1, v46, v42, Value.int .i64 s41.2.2.2.2], .row 132 1 v46 n47 cs48, .row 132 1 v42 n43 cs44] := S88.front 2 rfl rfl
          refine FC.call (l' := (bs 9 511)) rfl (by kernel_rfl) rfl rfl rfl (E.call Tryz.call189 (A2 rfl rfl)) (w_impl_echelon_add (L := []) S89 (a0 := (echelon.mk (ring.mk s41.2.2.1 s41.2.2.2.1) s41.2.1 s41.1 s41.2.2.2.2)) els49 nd50 els45 v82 x80 (h83.mono (i38.tr i53)) hr86) ?_
          rintro e w91 ⟨H90, v94, n95, cs96, v99, n100, cs101, rfl, ⟨S92, i93⟩, els97, nd98, els102⟩
          refine ⟨_, rfl, ?_⟩
          have S92 : St Ha wa H90 w91 [.box b21 185 [Value.int .i64 r85.2.ring.p, Value.int .i64 r85.2.ring.vars, v94, v99, Value.int .i64 r85.2.many], .row 132 1 v94 n95 cs96, .row 132 1 v99 n100 cs101] := S92
          refine ⟨(SP.nil (Sl.of_inc i93 S92.sl)), ?_⟩
          exact FB.done (by kernel_rfl) ⟨_, _, _, _, _, _, _, (S92.sel [0, 2, 1] (by decide) rfl), i93, els102, els97, nd98, k57, k58, k59, k60, k61, k56⟩
      ·
        rintro f116 w115 ⟨H112, v103, n104, cs105, v107, n108, cs109, S113, i114, els106, els110, nd111, k117, k118, k119, k120, k121, k122⟩
        refine FW.region ?_
        refine FL.v (E.add k122 rfl) ?_
        refine FL.v (E.move (v := Value.int .i64 (wr (((i41 : Nat) : Int) + 1))) rfl) ?_
        refine FL.nil ?_
        obtain rfl := Option.some.inj hp
        exact ⟨rfl, ⟨_, _, _, _, _, _, _, S113, (i53.tr i114), els106, els110, nd111, (nat_succ rfl (lt_of_get hx41) (p0P_3.mono ((i38.tr i53).tr i114)).le), k117, k118, k119, k120, k121⟩⟩
    ·
      refine FW.condF rfl c70 ?_
      refine FW.skip (FW.region ?_)
      refine FL.v (E.add k56 rfl) ?_
      refine FL.v (E.move (v := Value.int .i64 (wr (((i41 : Nat) : Int) + 1))) rfl) ?_
      refine FL.nil ?_
      obtain rfl := Option.some.inj hp
      exact ⟨rfl, ⟨_, _, _, _, _, _, _, S52, i53, els45, els49, nd50, (nat_succ rfl (lt_of_get hx41) (p0P_3.mono (i38.tr i53)).le), k57, k58, k59, k60, k61⟩⟩
  ·
    clear hp hq
    rintro s41 f490 w489 ⟨H486, v42, n43, cs44, v46, n47, cs48, S487, i488, els45, els49, nd50, k491, k492, k493, k494, k495, k496⟩
    refine FW.seq (FW.region ?_)
    refine FL.v (E.lss k491 k496) ?_
    refine FL.nil (FW.seq ?_)
    refine FW.condF rfl dlt_len ?_
    refine FW.exit ?_
    exact ⟨nofun, rfl, ⟨_, _, _, _, _, _, _, S487, i488, els45, els49, nd50, k492, k493, k494⟩⟩
  ·
    clear hq
    intro e f128 w127 hD
    rcases q41 with s41 | x41
    ·
      obtain ⟨rfl, hD⟩ := hD
      obtain ⟨H124, v42, n43, cs44, v46, n47, cs48, S125, i126, els45, els49, nd50, k129, k130, k131⟩ := hD
      replace hp := el_go hp
      refine FW.seq (FW.seq (FW.region ?_))
      obtain ⟨b132, w133, run134, S135⟩ := S125.alloc (P := Tryz.prog) 4 [Value.bool false] Tryz.zeroValue4 rfl (ones_cons rfl ones_nil)
      refine FL.v (E.alloc run134) ?_
      obtain ⟨w136, run139, S141⟩ := S135.store0 (P := Tryz.prog) (t := 4) (i := 0) (cs' := [Value.bool true]) (l' := [.box b132 4 [Value.bool true], .box b21 185 [Value.int .i64 s41.2.2.1, Value.int .i64 s41.2.2.2.1, v46, v42, Value.int .i64 s41.2.2.2.2], .row 132 1 v42 n43 cs44, .row 132 1 v46 n47 cs48]) (v := Value.bool true) (c := [Value.bool true]) rfl Tryz.sizeOf4 rfl rfl (ones_cons rfl ones_nil) (Nat.le_of_ble_eq_true rfl) rfl rfl
      refine FL.act rfl rfl (E.store rfl rfl run139) ?_
      refine FL.nil ?_
      obtain ⟨q142, hq, hp⟩ := bndR hp
      refine FW.block ?_
      refine FW.mono (FW.iter (S := ((List (List Int)) × (List (List Int)) × Int × Int × Int × Bool)) (X := Empty) (fun (s142 : ((List (List Int)) × (List (List Int)) × Int × Int × Int × Bool)) f w => ∃ H : GH, ∃ v143 : Value, ∃ n144 : Nat, ∃ cs145 : List Value, ∃ v147 : Value, ∃ n148 : Nat, ∃ cs149 : List Value, ∃ b152 : Nat, St Ha wa H w [.box b21 185 [Value.int .i64 s142.2.2.1, Value.int .i64 s142.2.2.2.1, v147, v143, Value.int .i64 s142.2.2.2.2.1], .row 132 1 v143 n144 cs145, .row 132 1 v147 n148 cs149, .box b152 4 [Value.bool s142.2.2.2.2.2]] ∧ Inc H124 H ∧ Els (up wa.heap.size H) (eL eI 1) 1 cs145 s142.1 ∧ Els (up wa.heap.size H) (eL eI 1) 1 cs149 s142.2.1 ∧ (bl cs149).Nodup ∧ f 0 = Value.pointer (some q0P) ∧ f 1 = Value.int .i64 a1 ∧ f 5 = Value.pointer (some ⟨b29, 0, none⟩) ∧ f 8 = Value.pointer (some (⟨b152, 0, none⟩ : Addr))) (fun (q : Rs ((List (List Int)) × (List (List Int)) × Int × Int × Int × Bool) Empty) e f w => match q with | .go s142 => e = Exit.exit 2 ∧ (∃ H : GH, ∃ v143 : Value, ∃ n144 : Nat, ∃ cs145 : List Value, ∃ v147 : Value, ∃ n148 : Nat, ∃ cs149 : List Value, ∃ b152 : Nat, St Ha wa H w [.box b21 185 [Value.int .i64 s142.2.2.1, Value.int .i64 s142.2.2.2.1, v147, v143, Value.int .i64 s142.2.2.2.2.1], .row 132 1 v143 n144 cs145, .row 132 1 v147 n148 cs149, .box b152 4 [Value.bool s142.2.2.2.2.2]] ∧ Inc H124 H ∧ Els (up wa.heap.size H) (eL eI 1) 1 cs145 s142.1 ∧ Els (up wa.heap.size H) (eL eI 1) 1 cs149 s142.2.1 ∧ (bl cs149).Nodup ∧ f 5 = Value.pointer (some ⟨b29, 0, none⟩)) | .rt x => x.elim) hq ⟨_, _, _, _, _, _, _, _, (S141.sel [1, 2, 3, 0] (by decide) rfl), (Inc.rfl _), els45, els49, nd50, k129, k130, k131, rfl⟩ ?_) ?_
      ·
        clear hp hq
        rintro s142 f157 w156 ⟨H153, v143, n144, cs145, v147, n148, cs149, b152, S154, i155, els146, els150, nd151, k158, k159, k160, k161⟩ o424 hp
        refine FW.seq (FW.seq (FW.region ?_))
        refine FL.v (E.load k161 (run_load0 Tryz.isAgg4 (S154.box_now (i := 3) rfl) rfl)) ?_
        refine FL.nil ?_
        rcases ifB hp with ⟨c162, hp⟩ | ⟨c162, hp⟩
        ·
          refine FW.condT rfl c162 ?_
          refine FW.skip (FW.seq (FW.block (FW.seq (FW.region ?_))))
          obtain ⟨w163, run164, S165⟩ := S154.store0 (P := Tryz.prog) (t := 4) (i := 3) (cs' := [Value.bool false]) (l' := [.box b21 185 [Value.int .i64 s142.2.2.1, Value.int .i64 s142.2.2.2.1, v147, v143, Value.int .i64 s142.2.2.2.2.1], .row 132 1 v143 n144 cs145, .row 132 1 v147 n148 cs149, .box b152 4 [Value.bool false]]) (v := Value.bool false) (c := [Value.bool false]) rfl Tryz.sizeOf4 rfl rfl (ones_cons rfl ones_nil) (Nat.le_of_ble_eq_true rfl) rfl rfl
          refine FL.act rfl rfl (E.store k161 rfl run164) ?_
          refine FL.nil (FW.region ?_)
          refine FL.v (E.move k158) ?_
          refine FL.v (E.load k160 (run_load0 Tryz.isAgg128 ((at39.mono (i126.tr i155)).now S165.sl) rfl)) ?_
          refine FL.v (E.nilCheck rfl) ?_
          refine FL.v (E.fieldAddr tf185_1 rfl) ?_
          refine FL.v (E.load rfl (run_load1 Tryz.isAgg138 (S165.box_now (i := 0) rfl) rfl)) ?_
          obtain ⟨s166, hq166, hp⟩ := bnd hp
          obtain ⟨R166, hR166⟩ : ∃ R166 : (List (List Int)) → Ending → World → Prop, R166 = (fun s166 e w => ∃ H : GH, ∃ v167 : Value, ∃ n168 : Nat, ∃ cs169 : List Value, e = Ending.returned (v167) ∧ St Ha wa H w [.box b21 185 [Value.int .i64 s142.2.2.1, Value.int .i64 s142.2.2.2.1, v147, v143, Value.int .i64 s142.2.2.2.2.1], .row 132 1 v143 n144 cs145, .row 132 1 v147 n148 cs149, .box b152 4 [Value.bool false], .row 132 1 v167 n168 cs169] ∧ Inc H153 H ∧ Els (up wa.heap.size H) (eL eI 1) 1 cs169 s166) := ⟨_, rfl⟩
          have hc166 : Calls Tryz.prog 191 #[v147] w163 (R166 s166) := by
            clear hp; have hp := hq166; clear hq166
            refine calls_go (N := 8) (args := [v147]) Tryz.func191 rfl rfl rfl ?_
            refine FW.seq (FW.region ?_)
            refine FL.v (E.assign (v := Value.slice none 0 0) rfl) ?_
            refine FL.nil (FW.seq (FW.seq (FW.region ?_)))
            refine FL.v (E.move (v := v147) rfl) ?_
            obtain ⟨nb171, run172, hn173⟩ := S165.nilTest te138 (i := 2) rfl els150 (by decide)
            refine FL.v (run172 _ _ _ _ _ _ _ _ _ _ _ _ rfl rfl) ?_
            refine FL.nil ?_
            rcases bcase nb171 with c174 | c174
            ·
              refine FW.condT (b := nb171) rfl c174 ?_
              rw [hn173 c174, app_nil2] at hp
              refine FW.seq (FW.region ?_)
              refine FL.v (E.assign (v := Value.slice none 0 0) rfl) ?_
              refine FL.nil ?_
              refine FW.ret ?_
              obtain rfl := Option.some.inj hp
              exact ⟨.inr rfl, res1 rfl rfl (by rw [hR166]; exact ⟨_, _, _, _, rfl, ((S165.nil 132 1).sel [1, 2, 3, 4, 0] (by decide) rfl), (Inc.rfl _), Els.nil⟩)⟩
            ·
              refine FW.condF (b := nb171) rfl c174 ?_
              refine FW.skip (FW.seq (FW.region ?_))
              obtain ⟨v175, w176, run177, S178⟩ := S165.buildSlice (P := Tryz.prog) te138 [] (parts := #[]) (cells := []) rfl szs_nil fc_nil ones_nil (Nat.le_of_ble_eq_true rfl)
              have els179 : Els (up wa.heap.size H153) (eL eI 1) 1 [] [] := Els.nil
              refine FL.v (E.buildSlice (B0) run177) ?_
              refine FL.v (E.move (v := v147) rfl) ?_
              obtain ⟨xs180, hz181, hp⟩ := bnd hp
              obtain ⟨v182, w186, n183, cs184, run187, S188, els189, ce190⟩ := S178.appendO (P := Tryz.prog) te138 (i := 0) (j := 3) rfl els179 rfl els150 hz181
              have S188 : St Ha wa H153 w186 [.row 132 1 v182 n183 cs184, .box b21 185 [Value.int .i64 s142.2.2.1, Value.int .i64 s142.2.2.2.1, v147, v143, Value.int .i64 s142.2.2.2.2.1], .row 132 1 v143 n144 cs145, .row 132 1 v147 n148 cs149, .box b152 4 [Value.bool false]] := S188
              refine FL.v (E.append rfl rfl run187) ?_
              refine FL.v (E.assign (v := v182) rfl) ?_
              refine FL.nil ?_
              refine FW.ret ?_
              obtain rfl := Option.some.inj hp
              exact ⟨.inr rfl, res1 rfl rfl (by rw [hR166]; exact ⟨_, _, _, _, rfl, (S188.sel [1, 2, 3, 4, 0] (by decide) rfl), (Inc.rfl _), els189⟩)⟩
          clear hq166
          refine FL.call rfl rfl rfl (E.call Tryz.call191 (A1 rfl)) hc166 ?_
          intro e w194 hQ166
          rw [hR166] at hQ166
          obtain ⟨H191, v167, n168, cs169, rfl, S192, i193, els170⟩ := hQ166
          refine ⟨_, rfl, ?_⟩
          refine FL.v (E.move k159) ?_
          refine FL.v (E.makeFunc A0 (A2 k160 k161)) ?_
          obtain ⟨s195, hq195, hp⟩ := bnd hp
          obtain ⟨R195, hR195⟩ : ∃ R195 : ((List (List Int)) × (List (List Int)) × Int × Int × Int × Bool × Bool) → Ending → World → Prop, R195 = (fun s195 e w => ∃ H : GH, ∃ v196 : Value, ∃ n197 : Nat, ∃ cs198 : List Value, ∃ v200 : Value, ∃ n201 : Nat, ∃ cs202 : List Value, e = Ending.returned (Value.bool s195.2.2.2.2.2.2) ∧ St Ha wa H w [.box b21 185 [Value.int .i64 s195.2.2.1, Value.int .i64 s195.2.2.2.1, v200, v196, Value.int .i64 s195.2.2.2.2.1], .row 132 1 v196 n197 cs198, .row 132 1 v200 n201 cs202, .box b152 4 [Value.bool s195.2.2.2.2.2.1], .row 132 1 v167 n168 cs169] ∧ Inc H191 H ∧ Els (up wa.heap.size H) (eL eI 1) 1 cs198 s195.1 ∧ Els (up wa.heap.size H) (eL eI 1) 1 cs202 s195.2.1 ∧ (bl cs202).Nodup) := ⟨_, rfl⟩
          have hc195 : Calls Tryz.prog 190 #[Value.pointer (some q0P), v167, Value.int .i64 a1, Value.func (.func 192) #[] #[Value.pointer (some ⟨b29, 0, none⟩), Value.pointer (some (⟨b152, 0, none⟩ : Addr))]] w194 (R195 s195) := by
            clear hp; have hp := hq195; clear hq195
            refine calls_go (N := 49) (args := [Value.pointer (some q0P), v167, Value.int .i64 a1, Value.func (.func 192) #[] #[Value.pointer (some ⟨b29, 0, none⟩), Value.pointer (some (⟨b152, 0, none⟩ : Addr))]]) Tryz.func190 rfl rfl rfl ?_
            refine FW.seq (FW.region ?_)
            refine FL.v (E.assign (v := Value.bool false) rfl) ?_
            refine FL.nil (FW.seq (FW.seq (FW.region ?_)))
            refine FL.v (E.move (v := v167) rfl) ?_
            refine FL.v (E.lenO te138 rfl S192 (i := 4) rfl els170 (by decide)) ?_
            refine FL.v (E.move (v := Value.int .i64 0) rfl) ?_
            refine FL.nil ?_
            obtain ⟨m205, hchk206, hp⟩ := bnd hp
            obtain ⟨q206, hq, hp⟩ := bndR hp
            refine FW.block ?_
            refine FW.mono (FW.forR (S := ((List (List Int)) × (List (List Int)) × Int × Int × Int × Bool)) (X := ((List (List Int)) × (List (List Int)) × Int × Int × Int × Bool × Bool)) (fun (i206 : Nat) (s206 : ((List (List Int)) × (List (List Int)) × Int × Int × Int × Bool)) f w => ∃ H : GH, ∃ v207 : Value, ∃ n208 : Nat, ∃ cs209 : List Value, ∃ v211 : Value, ∃ n212 : Nat, ∃ cs213 : List Value, St Ha wa H w [.box b21 185 [Value.int .i64 s206.2.2.1, Value.int .i64 s206.2.2.2.1, v211, v207, Value.int .i64 s206.2.2.2.2.1], .row 132 1 v207 n208 cs209, .row 132 1 v211 n212 cs213, .box b152 4 [Value.bool s206.2.2.2.2.2], .row 132 1 v167 n168 cs169] ∧ Inc H191 H ∧ Els (up wa.heap.size H) (eL eI 1) 1 cs209 s206.1 ∧ Els (up wa.heap.size H) (eL eI 1) 1 cs213 s206.2.1 ∧ (bl cs213).Nodup ∧ f 14 = Value.int .i64 ((i206 : Nat) : Int) ∧ f 0 = Value.pointer (some q0P) ∧ f 2 = Value.int .i64 a1 ∧ f 3 = Value.func (.func 192) #[] #[Value.pointer (some ⟨b29, 0, none⟩), Value.pointer (some (⟨b152, 0, none⟩ : Addr))] ∧ f 12 = v167 ∧ f 13 = Value.int .i64 (len s166)) (fun q e f w => match q with | .go s206 => e = Exit.exit 0 ∧ (∃ H : GH, ∃ v207 : Value, ∃ n208 : Nat, ∃ cs209 : List Value, ∃ v211 : Value, ∃ n212 : Nat, ∃ cs213 : List Value, St Ha wa H w [.box b21 185 [Value.int .i64 s206.2.2.1, Value.int .i64 s206.2.2.2.1, v211, v207, Value.int .i64 s206.2.2.2.2.1], .row 132 1 v207 n208 cs209, .row 132 1 v211 n212 cs213, .box b152 4 [Value.bool s206.2.2.2.2.2], .row 132 1 v167 n168 cs169] ∧ Inc H191 H ∧ Els (up wa.heap.size H) (eL eI 1) 1 cs209 s206.1 ∧ Els (up wa.heap.size H) (eL eI 1) 1 cs213 s206.2.1 ∧ (bl cs213).Nodup) | .rt x => ((e = Exit.ret) ∧ (fun e f w => (e = Exit.normal ∨ e = Exit.ret) ∧ ∀ a, Fr (δ := []) 49 a f → ∃ v, (results Tryz.f190 a.tmps).run Tryz.prog w = .ok v w ∧ R195 x (.returned v) w) e f w)) hq ⟨_, _, _, _, _, _, _, S192, (Inc.rfl _), (els146.mono (up_mono i193)), (els150.mono (up_mono i193)), nd151, rfl, rfl, rfl, rfl, rfl, rfl⟩ ?_ ?_) ?_
            ·
              clear hp hq
              rintro i206 s206 f220 w219 ⟨H216, v207, n208, cs209, v211, n212, cs213, S217, i218, els210, els214, nd215, k221, k222, k223, k224, k225, k226⟩ hi206 hj206 o396 hp
              refine FW.seq (FW.region ?_)
              refine FL.v (E.lssT k221 k226 (lss_chk hj206 hchk206)) ?_
              refine FL.nil (FW.seq ?_)
              refine FW.condT rfl rfl ?_
              refine FW.skip (FW.seq (FW.block (FW.seq (FW.region ?_))))
              obtain ⟨x233, hx234, hp⟩ := bnd hp
              obtain ⟨p227, cs228, pt229, l230, at231, rel232⟩ := S217.row_at (i := 4) rfl els170 (by decide) hx234
              obtain ⟨v235, rfl, h236⟩ := eL_open rel232
              refine FL.v (E.indexAddr te138 k225 k221 pt229) ?_
              refine FL.v (E.load rfl (run_load0 Tryz.isAgg132 at231 rfl)) ?_
              refine FL.v (E.assign (v := v235) rfl) ?_
              refine FL.nil (FW.seq (FW.region ?_))
              refine FL.v (E.assign (v := Value.int .i64 1) rfl) ?_
              refine FL.nil ?_
              obtain ⟨q237, hq, hp⟩ := bndR hp
              refine FW.block ?_
              refine FW.mono (FW.iter (S := ((List (List Int)) × (List (List Int)) × Int × Int × Int × Bool × Int)) (X := (Lp ((List (List Int)) × (List (List Int)) × Int × Int × Int × Bool) ((List (List Int)) × (List (List Int)) × Int × Int × Int × Bool × Bool))) (fun (s237 : ((List (List Int)) × (List (List Int)) × Int × Int × Int × Bool × Int)) f w => ∃ H : GH, ∃ v238 : Value, ∃ n239 : Nat, ∃ cs240 : List Value, ∃ v242 : Value, ∃ n243 : Nat, ∃ cs244 : List Value, St Ha wa H w [.box b21 185 [Value.int .i64 s237.2.2.1, Value.int .i64 s237.2.2.2.1, v242, v238, Value.int .i64 s237.2.2.2.2.1], .row 132 1 v238 n239 cs240, .row 132 1 v242 n243 cs244, .box b152 4 [Value.bool s237.2.2.2.2.2.1], .row 132 1 v167 n168 cs169] ∧ Inc H216 H ∧ Els (up wa.heap.size H) (eL eI 1) 1 cs240 s237.1 ∧ Els (up wa.heap.size H) (eL eI 1) 1 cs244 s237.2.1 ∧ (bl cs244).Nodup ∧ f 0 = Value.pointer (some q0P) ∧ f 2 = Value.int .i64 a1 ∧ f 3 = Value.func (.func 192) #[] #[Value.pointer (some ⟨b29, 0, none⟩), Value.pointer (some (⟨b152, 0, none⟩ : Addr))] ∧ f 10 = v235 ∧ f 11 = Value.int .i64 s237.2.2.2.2.2.2 ∧ f 12 = v167 ∧ f 13 = Value.int .i64 (len s166) ∧ f 14 = Value.int .i64 ((i206 : Nat) : Int)) (fun q e f w => match q with | .go s237 => e = Exit.exit 2 ∧ (∃ H : GH, ∃ v238 : Value, ∃ n239 : Nat, ∃ cs240 : List Value, ∃ v242 : Value, ∃ n243 : Nat, ∃ cs244 : List Value, St Ha wa H w [.box b21 185 [Value.int .i64 s237.2.2.1, Value.int .i64 s237.2.2.2.1, v242, v238, Value.int .i64 s237.2.2.2.2.1], .row 132 1 v238 n239 cs240, .row 132 1 v242 n243 cs244, .box b152 4 [Value.bool s237.2.2.2.2.2.1], .row 132 1 v167 n168 cs169] ∧ Inc H216 H ∧ Els (up wa.heap.size H) (eL eI 1) 1 cs240 s237.1 ∧ Els (up wa.heap.size H) (eL eI 1) 1 cs244 s237.2.1 ∧ (bl cs244).Nodup ∧ f 0 = Value.pointer (some q0P) ∧ f 2 = Value.int .i64 a1 ∧ f 3 = Value.func (.func 192) #[] #[Value.pointer (some ⟨b29, 0, none⟩), Value.pointer (some (⟨b152, 0, none⟩ : Addr))] ∧ f 12 = v167 ∧ f 13 = Value.int .i64 (len s166) ∧ f 14 = Value.int .i64 ((i206 : Nat) : Int)) | .rt x => ((e = Exit.ret) ∧ (Rd ((fun (i206 : Nat) (s206 : ((List (List Int)) × (List (List Int)) × Int × Int × Int × Bool)) f w => ∃ H : GH, ∃ v207 : Value, ∃ n208 : Nat, ∃ cs209 : List Value, ∃ v211 : Value, ∃ n212 : Nat, ∃ cs213 : List Value, St Ha wa H w [.box b21 185 [Value.int .i64 s206.2.2.1, Value.int .i64 s206.2.2.2.1, v211, v207, Value.int .i64 s206.2.2.2.2.1], .row 132 1 v207 n208 cs209, .row 132 1 v211 n212 cs213, .box b152 4 [Value.bool s206.2.2.2.2.2], .row 132 1 v167 n168 cs169] ∧ Inc H191 H ∧ Els (up wa.heap.size H) (eL eI 1) 1 cs209 s206.1 ∧ Els (up wa.heap.size H) (eL eI 1) 1 cs213 s206.2.1 ∧ (bl cs213).Nodup ∧ f 14 = Value.int .i64 ((i206 : Nat) : Int) ∧ f 0 = Value.pointer (some q0P) ∧ f 2 = Value.int .i64 a1 ∧ f 3 = Value.func (.func 192) #[] #[Value.pointer (some ⟨b29, 0, none⟩), Value.pointer (some (⟨b152, 0, none⟩ : Addr))] ∧ f 12 = v167 ∧ f 13 = Value.int .i64 (len s166)) (i206 + 1)) (fun q e f w => match q with | .go s206 => e = Exit.exit 0 ∧ (∃ H : GH, ∃ v207 : Value, ∃ n208 : Nat, ∃ cs209 : List Value, ∃ v211 : Value, ∃ n212 : Nat, ∃ cs213 : List Value, St Ha wa H w [.box b21 185 [Value.int .i64 s206.2.2.1, Value.int .i64 s206.2.2.2.1, v211, v207, Value.int .i64 s206.2.2.2.2.1], .row 132 1 v207 n208 cs209, .row 132 1 v211 n212 cs213, .box b152 4 [Value.bool s206.2.2.2.2.2], .row 132 1 v167 n168 cs169] ∧ Inc H191 H ∧ Els (up wa.heap.size H) (eL eI 1) 1 cs209 s206.1 ∧ Els (up wa.heap.size H) (eL eI 1) 1 cs213 s206.2.1 ∧ (bl cs213).Nodup) | .rt x => ((e = Exit.ret) ∧ (fun e f w => (e = Exit.normal ∨ e = Exit.ret) ∧ ∀ a, Fr (δ := []) 49 a f → ∃ v, (results Tryz.f190 a.tmps).run Tryz.prog w = .ok v w ∧ R195 x (.returned v) w) e f w)) x) e f w)) hq ⟨_, _, _, _, _, _, _, S217, (Inc.rfl _), els210, els214, nd215, k222, k223, k224, rfl, rfl, k225, k226, k221⟩ ?_) ?_
              ·
                clear hp hq
                rintro s237 f251 w250 ⟨H247, v238, n239, cs240, v242, n243, cs244, S248, i249, els241, els245, nd246, k252, k253, k254, k255, k256, k257, k258, k259⟩ o384 hp
                refine FW.seq (FW.seq (FW.region ?_))
                refine FL.v (E.move k256) ?_
                refine FL.v (E.move k252) ?_
                refine FL.v (E.nilCheck rfl) ?_
                refine FL.v (E.fieldAddr tf140_0 rfl) ?_
                refine FL.v (E.fieldAddrN tf137_1 rfl rfl) ?_
                refine FL.v (E.load rfl (run_load1 Tryz.isAgg3 ((c0P.mono (((((i38.tr i126).tr i155).tr i193).tr i218).tr i249)).now S248.sl) rfl)) ?_
                refine FL.v (E.leq rfl rfl) ?_
                refine FL.v (E.move (v := Value.bool (decide (s237.2.2.2.2.2.2 ≤ a0.ring.vars))) rfl) ?_
                obtain ⟨t260, hqt260, hp⟩ := bnd hp
                refine FL.cut 5 (fun f w => ∃ H : GH, St Ha wa H w [.box b21 185 [Value.int .i64 s237.2.2.1, Value.int .i64 s237.2.2.2.1, v242, v238, Value.int .i64 s237.2.2.2.2.1], .row 132 1 v238 n239 cs240, .row 132 1 v242 n243 cs244, .box b152 4 [Value.bool s237.2.2.2.2.2.1], .row 132 1 v167 n168 cs169] ∧ Inc H247 H ∧ f 0 = Value.pointer (some q0P) ∧ f 2 = Value.int .i64 a1 ∧ f 3 = Value.func (.func 192) #[] #[Value.pointer (some ⟨b29, 0, none⟩), Value.pointer (some (⟨b152, 0, none⟩ : Addr))] ∧ f 10 = v235 ∧ f 11 = Value.int .i64 s237.2.2.2.2.2.2 ∧ f 12 = v167 ∧ f 13 = Value.int .i64 (len s166) ∧ f 14 = Value.int .i64 ((i206 : Nat) : Int) ∧ f 30 = Value.bool t260) ?_ ?_
                ·
                  clear hp; have hp := hqt260; clear hqt260
                  rcases ifB hp with ⟨c266, hp⟩ | ⟨c266, hp⟩
                  ·
                    refine FL.val (wF_yes rfl rfl rfl c266) rfl rfl (E.move k255) ?_
                    obtain ⟨r267, hr268, hp⟩ := bnd hp
                    refine FL.call (wF_yes rfl rfl rfl c266) rfl rfl (E.call Tryz.call148 (A1 rfl)) (w_impl_dense_degree S248.sl v235 x233 (h236.mono (upI.tr (i218.tr i249))) hr268) ?_
                    rintro e w269 ⟨rfl, r270⟩
                    refine ⟨_, rfl, ?_⟩
                    have S271 := S248.call r270
                    refine FL.val (wF_yes rfl rfl rfl c266) rfl rfl (E.move k253) ?_
                    refine FL.val (wF_yes rfl rfl rfl c266) rfl rfl (E.lss rfl rfl) ?_
                    obtain rfl := Option.some.inj hp
                    refine FL.v (E.pickT rfl c266 rfl) ?_
                    exact FL.nil ⟨rfl, _, S271, (Inc.rfl _), k252, k253, k254, k255, k256, k257, k258, k259, rfl⟩
                  ·
                    refine FL.skip (wF_no rfl rfl rfl c266) rfl ?_
                    refine FL.skip (wF_no rfl rfl rfl c266) rfl ?_
                    refine FL.skip (wF_no rfl rfl rfl c266) rfl ?_
                    refine FL.skip (wF_no rfl rfl rfl c266) rfl ?_
                    obtain rfl := Option.some.inj hp
                    refine FL.v (E.pickF rfl c266 rfl) ?_
                    exact FL.nil ⟨rfl, _, S248, (Inc.rfl _), k252, k253, k254, k255, k256, k257, k258, k259, rfl⟩
                rintro f265 w264 ⟨H261, S262, i263, k272, k273, k274, k275, k276, k277, k278, k279, k280⟩
                refine FL.nil ?_
                rcases ifB hp with ⟨c281, hp⟩ | ⟨c281, hp⟩
                ·
                  refine FW.condT k280 c281 ?_
                  refine FW.skip (FW.seq (FW.block (FW.seq ?_)))
                  obtain ⟨r285, hr286, hp⟩ := bnd hp
                  obtain ⟨r300, hr301, hp⟩ := bnd hp
                  obtain ⟨s317, hq317, hp⟩ := bnd hp
                  refine FW.drawB (Sl H261) (fun f w => ∃ H : GH, ∃ v360 : Value, ∃ n361 : Nat, ∃ cs362 : List Value, ∃ v364 : Value, ∃ n365 : Nat, ∃ cs366 : List Value, St Ha wa H w [.box b21 185 [Value.int .i64 s317.2.2.1, Value.int .i64 s317.2.2.2.1, v364, v360, Value.int .i64 s317.2.2.2.2.1], .row 132 1 v360 n361 cs362, .row 132 1 v364 n365 cs366, .box b152 4 [Value.bool s317.2.2.2.2.2.1], .row 132 1 v167 n168 cs169] ∧ Inc H261 H ∧ Els (up wa.heap.size H) (eL eI 1) 1 cs362 s317.1 ∧ Els (up wa.heap.size H) (eL eI 1) 1 cs366 s317.2.1 ∧ (bl cs366).Nodup ∧ f 0 = Value.pointer (some q0P) ∧ f 2 = Value.int .i64 a1 ∧ f 3 = Value.func (.func 192) #[] #[Value.pointer (some ⟨b29, 0, none⟩), Value.pointer (some (⟨b152, 0, none⟩ : Addr))] ∧ f 10 = v235 ∧ f 11 = Value.int .i64 s237.2.2.2.2.2.2 ∧ f 12 = v167 ∧ f 13 = Value.int .i64 (len s166) ∧ f 14 = Value.int .i64 ((i206 : Nat) : Int) ∧ f 47 = Value.bool (!s317.2.2.2.2.2.2)) (by kernel_rfl) S262.sl ?_ ?_
                  ·
                    intro w282 r283
                    have S284 := S262.call r283
                    refine FB.t (i := 0) (bs 15 1) rfl (SP.nil S284.sl) rfl (fun w' hw' => (E.move k274)) ?_
                    refine FB.t (i := 1) (bs 15 3) rfl (SP.nil S284.sl) rfl (fun w' hw' => (E.move k272)) ?_
                    refine FB.t (i := 2) (bs 15 7) rfl (SP.nil S284.sl) rfl (fun w' hw' => (E.nilCheck rfl)) ?_
                    refine FB.t (i := 3) (bs 15 15) rfl (SP.nil S284.sl) rfl (fun w' hw' => (E.fieldAddr tf140_0 rfl)) ?_
                    refine FB.t (i := 4) (bs 15 31) rfl (SP.nil S284.sl) rfl (fun w' hw' => (E.load rfl (run_loadA Tryz.isAgg137 Tryz.sizeOf137 (((c0P.mono ((((((i38.tr i126).tr i155).tr i193).tr i218).tr i249).tr i263)).now hw').sub (j := 0) (n := 2) (c := [Value.int .i64 a0.ring.p, Value.int .i64 a0.ring.vars]) rfl) rfl))) ?_
                    refine FB.t (i := 5) (bs 15 63) rfl (SP.nil S284.sl) rfl (fun w' hw' => (E.move k275)) ?_
                    refine FB.t (i := 6) (bs 15 127) rfl (SP.nil S284.sl) rfl (fun w' hw' => (E.move k272)) ?_
                    refine FB.t (i := 7) (bs 15 255) rfl (SP.nil S284.sl) rfl (fun w' hw' => (E.nilCheck rfl)) ?_
                    refine FB.t (i := 8) (bs 15 511) rfl (SP.nil S284.sl) rfl (fun w' hw' => (E.fieldAddr tf140_0 rfl)) ?_
                    refine FB.t (i := 9) (bs 15 1023) rfl (SP.nil S284.sl) rfl (fun w' hw' => (E.load rfl (run_loadA Tryz.isAgg137 Tryz.sizeOf137 (((c0P.mono ((((((i38.tr i126).tr i155).tr i193).tr i218).tr i249).tr i263)).now hw').sub (j := 0) (n := 2) (c := [Value.int .i64 a0.ring.p, Value.int .i64 a0.ring.vars]) rfl) rfl))) ?_
                    refine FB.t (i := 10) (bs 15 2047) rfl (SP.nil S284.sl) rfl (fun w' hw' => (E.move k276)) ?_
                    refine FB.all1 (i := 11) (by kernel_rfl) ?_
                    ·
                      refine FC.call (l' := (bs 15 4095)) rfl (by kernel_rfl) rfl rfl rfl (E.call Tryz.call147 (A2 rfl rfl)) (w_impl_ring_literal S284.sl a0.ring s237.2.2.2.2.2.2 hr286) ?_
                      rintro e w288 ⟨H287, v291, n292, cs293, rfl, r290, els294⟩
                      refine ⟨_, rfl, ?_⟩
                      have els294 := els294.mono (up_le S284.size)
                      have S289 := S284.join (l' := [.row 3 1 v291 n292 cs293, .box b21 185 [Value.int .i64 s237.2.2.1, Value.int .i64 s237.2.2.2.1, v242, v238, Value.int .i64 s237.2.2.2.2.1], .row 132 1 v238 n239 cs240, .row 132 1 v242 n243 cs244, .box b152 4 [Value.bool s237.2.2.2.2.2.1], .row 132 1 v167 n168 cs169]) r290 rfl
                      refine ⟨(SP.nil (Sl.of_inc r290.run.inc S289.sl)), ?_⟩
                      refine FB.all1 (i := 12) (by kernel_rfl) ?_
                      ·
                        obtain ⟨H295, S296, i297, h298, nv299⟩ := S289.sealRowU (i := 0) (l' := [.box b21 185 [Value.int .i64 s237.2.2.1, Value.int .i64 s237.2.2.2.1, v242, v238, Value.int .i64 s237.2.2.2.2.1], .row 132 1 v238 n239 cs240, .row 132 1 v242 n243 cs244, .box b152 4 [Value.bool s237.2.2.2.2.2.1], .row 132 1 v167 n168 cs169]) rfl els294 (by decide) rfl
                        refine FC.call (l' := (bs 15 8191)) rfl (by kernel_rfl) rfl rfl rfl (E.call Tryz.call146 (A3 rfl rfl rfl)) (w_impl_ring_times S296.sl a0.ring v235 x233 (h236.mono (upI.tr ((((i218.tr i249).tr i263).tr r290.run.inc).tr i297))) v291 r285 (h298.mono upI) hr301) ?_
                        rintro e w303 ⟨H302, v308, n309, cs310, rfl, r305, els311⟩
                        refine ⟨_, rfl, ?_⟩
                        obtain ⟨H306, r305, hU307⟩ := St.lendX i297 S289.sl r305
                        have els311 := els311.mono (hU307.tr (up_le S289.size))
                        have S304 := S289.join (l' := [.row 3 1 v308 n309 cs310, .row 3 1 v291 n292 cs293, .box b21 185 [Value.int .i64 s237.2.2.1, Value.int .i64 s237.2.2.2.1, v242, v238, Value.int .i64 s237.2.2.2.2.1], .row 132 1 v238 n239 cs240, .row 132 1 v242 n243 cs244, .box b152 4 [Value.bool s237.2.2.2.2.2.1], .row 132 1 v167 n168 cs169]) r305 rfl
                        refine ⟨(SP.nil (Sl.of_inc (r290.run.inc.tr r305.run.inc) S304.sl)), ?_⟩
                        refine FB.all1 (i := 13) (by kernel_rfl) ?_
                        ·
                          obtain ⟨H312, S313, i314, h315, nv316⟩ := S304.sealRowU (i := 0) (l' := [.row 3 1 v291 n292 cs293, .box b21 185 [Value.int .i64 s237.2.2.1, Value.int .i64 s237.2.2.2.1, v242, v238, Value.int .i64 s237.2.2.2.2.1], .row 132 1 v238 n239 cs240, .row 132 1 v242 n243 cs244, .box b152 4 [Value.bool s237.2.2.2.2.2.1], .row 132 1 v167 n168 cs169]) rfl els311 (by decide) rfl
                          obtain ⟨R317, hR317⟩ : ∃ R317 : ((List (List Int)) × (List (List Int)) × Int × Int × Int × Bool × Bool) → Ending → World → Prop, R317 = (fun s317 e w => ∃ H : GH, ∃ v318 : Value, ∃ n319 : Nat, ∃ cs320 : List Value, ∃ v322 : Value, ∃ n323 : Nat, ∃ cs324 : List Value, e = Ending.returned (Value.bool s317.2.2.2.2.2.2) ∧ St Ha wa H w [.row 3 1 v291 n292 cs293, .box b21 185 [Value.int .i64 s317.2.2.1, Value.int .i64 s317.2.2.2.1, v322, v318, Value.int .i64 s317.2.2.2.2.1], .row 132 1 v318 n319 cs320, .row 132 1 v322 n323 cs324, .box b152 4 [Value.bool s317.2.2.2.2.2.1], .row 132 1 v167 n168 cs169] ∧ Inc H312 H ∧ Els (up wa.heap.size H) (eL eI 1) 1 cs320 s317.1 ∧ Els (up wa.heap.size H) (eL eI 1) 1 cs324 s317.2.1 ∧ (bl cs324).Nodup) := ⟨_, rfl⟩
                          have hc317 : Calls Tryz.prog 192 #[v308, Value.pointer (some ⟨b29, 0, none⟩), Value.pointer (some (⟨b152, 0, none⟩ : Addr))] w303 (R317 s317) := by
                            clear hp; have hp := hq317; clear hq317
                            refine calls_go (N := 11) (args := [v308, Value.pointer (some ⟨b29, 0, none⟩), Value.pointer (some (⟨b152, 0, none⟩ : Addr))]) Tryz.func192 rfl rfl rfl ?_
                            refine FW.seq (FW.region ?_)
                            refine FL.v (E.assign (v := Value.bool false) rfl) ?_
                            refine FL.nil (FW.seq (FW.region ?_))
                            refine FL.v (E.load rfl (run_load0 Tryz.isAgg128 ((at39.mono ((((((((i126.tr i155).tr i193).tr i218).tr i249).tr i263).tr r290.run.inc).tr r305.run.inc).tr i314)).now S313.sl) rfl)) ?_
                            refine FL.v (E.move (v := v308) rfl) ?_
                            obtain ⟨r327, hr328, hp⟩ := bnd hp
                            have S329 : St Ha wa H312 w303 [.row 132 1 v238 n239 cs240, .row 3 1 v291 n292 cs293, .box b21 185 [Value.int .i64 s237.2.2.1, Value.int .i64 s237.2.2.2.1, v242, v238, Value.int .i64 s237.2.2.2.2.1], .row 132 1 v242 n243 cs244, .box b152 4 [Value.bool s237.2.2.2.2.2.1], .row 132 1 v167 n168 cs169] := S313.front 2 rfl rfl
                            have S330 : St Ha wa H312 w303 [.row 132 1 v242 n243 cs244, .row 132 1 v238 n239 cs240, .row 3 1 v291 n292 cs293, .box b21 185 [Value.int .i64 s237.2.2.1, Value.int .i64 s237.2.2.2.1, v242, v238, Value.int .i64 s237.2.2.2.2.1], .box b152 4 [Value.bool s237.2.2.2.2.2.1], .row 132 1 v167 n168 cs169] := S329.front 3 rfl rfl
                            have S331 : St Ha wa H312 w303 [.box b21 185 [Value.int .i64 s237.2.2.1, Value.int .i64 s237.2.2.2.1, v242, v238, Value.int .i64 s237.2.2.2.2.1], .row 132 1 v242 n243 cs244, .row 132 1 v238 n239 cs240, .row 3 1 v291 n292 cs293, .box b152 4 [Value.bool s237.2.2.2.2.2.1], .row 132 1 v167 n168 cs169] := S330.front 3 rfl rfl
                            refine FL.call rfl rfl rfl (E.call Tryz.call189 (A2 rfl rfl)) (w_impl_echelon_add (L := [.row 3 1 v291 n292 cs293, .box b152 4 [Value.bool s237.2.2.2.2.2.1], .row 132 1 v167 n168 cs169]) S331 (a0 := (echelon.mk (ring.mk s237.2.2.1 s237.2.2.2.1) s237.2.1 s237.1 s237.2.2.2.2.1)) (els245.mono (up_mono (((i263.tr r290.run.inc).tr r305.run.inc).tr i314))) nd246 (els241.mono (up_mono (((i263.tr r290.run.inc).tr r305.run.inc).tr i314))) v308 r300 (h315.mono upI) hr328) ?_
                            rintro e w333 ⟨H332, v336, n337, cs338, v341, n342, cs343, rfl, ⟨S334, i335⟩, els339, nd340, els344⟩
                            refine ⟨_, rfl, ?_⟩
                            have S334 : St Ha wa H332 w333 [.box b21 185 [Value.int .i64 r327.2.ring.p, Value.int .i64 r327.2.ring.vars, v336, v341, Value.int .i64 r327.2.many], .row 132 1 v336 n337 cs338, .row 132 1 v341 n342 cs343, .row 3 1 v291 n292 cs293, .box b152 4 [Value.bool s237.2.2.2.2.2.1], .row 132 1 v167 n168 cs169] := S334
                            refine FL.v (E.move (v := Value.bool r327.1) rfl) ?_
                            refine FL.cut 2 (fun f w => ∃ H : GH, St Ha wa H w [.box b21 185 [Value.int .i64 r327.2.ring.p, Value.int .i64 r327.2.ring.vars, v336, v341, Value.int .i64 r327.2.many], .row 132 1 v336 n337 cs338, .row 132 1 v341 n342 cs343, .row 3 1 v291 n292 cs293, .box b152 4 [Value.bool s237.2.2.2.2.2.1], .row 132 1 v167 n168 cs169] ∧ Inc H332 H ∧ f 2 = Value.pointer (some (⟨b152, 0, none⟩ : Addr)) ∧ f 10 = Value.bool (bif r327.1 then true else s237.2.2.2.2.2.1)) ?_ ?_
                            ·
                              rcases bcase r327.1 with c350 | c350
                              ·
                                refine FL.skip (wF_no rfl rfl rfl c350) rfl ?_
                                refine FL.v (E.pickT rfl c350 rfl) ?_
                                exact FL.nil ⟨rfl, _, S334, (Inc.rfl _), rfl, (congrArg Value.bool (bifT c350).symm)⟩
                              ·
                                refine FL.val (wF_yes rfl rfl rfl c350) rfl rfl (E.load rfl (run_load0 Tryz.isAgg4 (S334.box_now (i := 4) rfl) rfl)) ?_
                                refine FL.v (E.pickF rfl c350 rfl) ?_
                                exact FL.nil ⟨rfl, _, S334, (Inc.rfl _), rfl, (congrArg Value.bool (bifF c350).symm)⟩
                            rintro f349 w348 ⟨H345, S346, i347, k351, k352⟩
                            obtain ⟨w353, run354, S355⟩ := S346.store0 (P := Tryz.prog) (t := 4) (i := 4) (cs' := [Value.bool (bif r327.1 then true else s237.2.2.2.2.2.1)]) (l' := [.box b21 185 [Value.int .i64 r327.2.ring.p, Value.int .i64 r327.2.ring.vars, v336, v341, Value.int .i64 r327.2.many], .row 132 1 v336 n337 cs338, .row 132 1 v341 n342 cs343, .row 3 1 v291 n292 cs293, .box b152 4 [Value.bool (bif r327.1 then true else s237.2.2.2.2.2.1)], .row 132 1 v167 n168 cs169]) (v := Value.bool (bif r327.1 then true else s237.2.2.2.2.2.1)) (c := [Value.bool (bif r327.1 then true else s237.2.2.2.2.2.1)]) rfl Tryz.sizeOf4 rfl rfl (ones_cons rfl ones_nil) (Nat.le_of_ble_eq_true rfl) rfl rfl
                            refine FL.act rfl rfl (E.store k351 k352 run354) ?_
                            refine FL.nil (FW.seq (FW.region ?_))
                            refine FL.v (E.assign (v := Value.bool true) rfl) ?_
                            refine FL.nil ?_
                            refine FW.ret ?_
                            obtain rfl := Option.some.inj hp
                            exact ⟨.inr rfl, res1 rfl rfl (by rw [hR317]; exact ⟨_, _, _, _, _, _, _, rfl, (S355.sel [3, 0, 2, 1, 4, 5] (by decide) rfl), (i335.tr i347), (els344.mono (up_mono i347)), (els339.mono (up_mono i347)), nd340⟩)⟩
                          clear hq317
                          refine FC.call (l' := (bs 15 16383)) rfl (by kernel_rfl) rfl rfl rfl (E.callV Tryz.call192 rfl (appA (A1 rfl) #[Value.pointer (some ⟨b29, 0, none⟩), Value.pointer (some (⟨b152, 0, none⟩ : Addr))])) hc317 ?_
                          intro e w359 hQ317
                          rw [hR317] at hQ317
                          obtain ⟨H356, v318, n319, cs320, v322, n323, cs324, rfl, S357, i358, els321, els325, nd326⟩ := hQ317
                          refine ⟨_, rfl, ?_⟩
                          refine ⟨(SP.nil (Sl.of_inc (((r290.run.inc.tr r305.run.inc).tr i314).tr i358) S357.sl)), ?_⟩
                          refine FB.t (i := 14) (bs 15 32767) rfl (SP.nil (Sl.of_inc (((r290.run.inc.tr r305.run.inc).tr i314).tr i358) S357.sl)) rfl (fun w' hw' => (E.not rfl)) ?_
                          exact FB.done (by kernel_rfl) ⟨_, _, _, _, _, _, _, (S357.sel [1, 2, 3, 4, 5] (by decide) rfl), (((r290.run.inc.tr r305.run.inc).tr i314).tr i358), els321, els325, nd326, k272, k273, k274, k275, k276, k277, k278, k279, rfl⟩
                  ·
                    rintro f373 w372 ⟨H369, v360, n361, cs362, v364, n365, cs366, S370, i371, els363, els367, nd368, k374, k375, k376, k377, k378, k379, k380, k381, k382⟩
                    rcases ifB hp with ⟨c383, hp⟩ | ⟨c383, hp⟩
                    ·
                      refine FW.condT k382 c383 ?_
                      refine FW.seq (FW.region ?_)
                      refine FL.v (E.assign (v := Value.bool false) rfl) ?_
                      refine FL.nil ?_
                      refine FW.ret ?_
                      obtain rfl := Option.some.inj hp
                      exact ⟨nofun, rfl, ⟨nofun, rfl, ⟨.inr rfl, res1 rfl rfl (by rw [hR195]; exact ⟨_, _, _, _, _, _, _, rfl, S370, (((i218.tr i249).tr i263).tr i371), els363, els367, nd368⟩)⟩⟩⟩
                    ·
                      refine FW.condF k382 c383 ?_
                      refine FW.skip (FW.region ?_)
                      refine FL.v (E.move k378) ?_
                      refine FL.v (E.add rfl rfl) ?_
                      refine FL.v (E.assign (v := Value.int .i64 (wr (s237.2.2.2.2.2.2 + 1))) rfl) ?_
                      refine FL.nil ?_
                      obtain rfl := Option.some.inj hp
                      exact ⟨rfl, ⟨_, _, _, _, _, _, _, S370, ((i249.tr i263).tr i371), els363, els367, nd368, k374, k375, k376, k377, rfl, k379, k380, k381⟩⟩
                ·
                  refine FW.condF k280 c281 ?_
                  refine FW.exit ?_
                  obtain rfl := Option.some.inj hp
                  exact ⟨nofun, rfl, ⟨_, _, _, _, _, _, _, S262, (i249.tr i263), (els241.mono (up_mono i263)), (els245.mono (up_mono i263)), nd246, k272, k273, k274, k277, k278, k279⟩⟩
              ·
                clear hq
                intro e f389 w388 hD
                rcases q237 with s237 | x237
                ·
                  obtain ⟨rfl, hD⟩ := hD
                  obtain ⟨H385, v238, n239, cs240, v242, n243, cs244, S386, i387, els241, els245, nd246, k390, k391, k392, k393, k394, k395⟩ := hD
                  replace hp := el_go hp
                  refine FW.region ?_
                  refine FL.v (E.add k395 rfl) ?_
                  refine FL.v (E.move (v := Value.int .i64 (wr (((i206 : Nat) : Int) + 1))) rfl) ?_
                  refine FL.nil ?_
                  obtain rfl := Option.some.inj hp
                  exact ⟨rfl, ⟨_, _, _, _, _, _, _, S386, (i218.tr i387), els241, els245, nd246, (nat_succ rfl hj206 (chk_le hchk206)), k390, k391, k392, k393, k394⟩⟩
                ·
                  obtain ⟨he, hL⟩ := hD
                  replace hp := el_rt hp
                  obtain rfl := Option.some.inj hp
                  subst he
                  exact hL
            ·
              clear hp hq
              rintro s206 f406 w405 ⟨H402, v207, n208, cs209, v211, n212, cs213, S403, i404, els210, els214, nd215, k407, k408, k409, k410, k411, k412⟩
              refine FW.seq (FW.region ?_)
              refine FL.v (E.lss k407 k412) ?_
              refine FL.nil (FW.seq ?_)
              refine FW.condF rfl (dlt_maxchk hchk206) ?_
              refine FW.exit ?_
              exact ⟨nofun, rfl, ⟨_, _, _, _, _, _, _, S403, i404, els210, els214, nd215⟩⟩
            ·
              clear hq
              intro e f401 w400 hD
              rcases q206 with s206 | x206
              ·
                obtain ⟨rfl, hD⟩ := hD
                obtain ⟨H397, v207, n208, cs209, v211, n212, cs213, S398, i399, els210, els214, nd215⟩ := hD
                replace hp := el_go hp
                refine FW.seq (FW.region ?_)
                refine FL.v (E.assign (v := Value.bool true) rfl) ?_
                refine FL.nil ?_
                refine FW.ret ?_
                obtain rfl := Option.some.inj hp
                exact ⟨.inr rfl, res1 rfl rfl (by rw [hR195]; exact ⟨_, _, _, _, _, _, _, rfl, S398, i399, els210, els214, nd215⟩)⟩
              ·
                obtain ⟨he, hL⟩ := hD
                replace hp := el_rt hp
                obtain rfl := Option.some.inj hp
                subst he
                exact hL
          clear hq195
          refine FL.call rfl rfl rfl (E.call Tryz.call190 (A4 rfl rfl rfl rfl)) hc195 ?_
          intro e w416 hQ195
          rw [hR195] at hQ195
          obtain ⟨H413, v196, n197, cs198, v200, n201, cs202, rfl, S414, i415, els199, els203, nd204⟩ := hQ195
          refine ⟨_, rfl, ?_⟩
          refine FL.nil (FW.seq (FW.region ?_))
          refine FL.v (E.load k161 (run_load0 Tryz.isAgg4 (S414.box_now (i := 3) rfl) rfl)) ?_
          refine FL.nil (FW.region ?_)
          obtain ⟨b417, w418, run419, S420⟩ := S414.alloc (P := Tryz.prog) 4 [Value.bool false] Tryz.zeroValue4 rfl (ones_cons rfl ones_nil)
          refine FL.v (E.alloc run419) ?_
          obtain ⟨w421, run422, S423⟩ := S420.store0 (P := Tryz.prog) (t := 4) (i := 0) (cs' := [Value.bool s195.2.2.2.2.2.1]) (l' := [.box b417 4 [Value.bool s195.2.2.2.2.2.1], .box b21 185 [Value.int .i64 s195.2.2.1, Value.int .i64 s195.2.2.2.1, v200, v196, Value.int .i64 s195.2.2.2.2.1], .row 132 1 v196 n197 cs198, .row 132 1 v200 n201 cs202, .box b152 4 [Value.bool s195.2.2.2.2.2.1], .row 132 1 v167 n168 cs169]) (v := Value.bool s195.2.2.2.2.2.1) (c := [Value.bool s195.2.2.2.2.2.1]) rfl Tryz.sizeOf4 rfl rfl (ones_cons rfl ones_nil) (Nat.le_of_ble_eq_true rfl) rfl rfl
          refine FL.act rfl rfl (E.store rfl rfl run422) ?_
          refine FL.nil ?_
          obtain rfl := Option.some.inj hp
          exact ⟨rfl, ⟨_, _, _, _, _, _, _, _, (S423.sel [1, 2, 3, 0] (by decide) rfl), ((i155.tr i193).tr i415), els199, els203, nd204, k158, k159, k160, rfl⟩⟩
        ·
          refine FW.condF rfl c162 ?_
          refine FW.exit ?_
          obtain rfl := Option.some.inj hp
          exact ⟨nofun, rfl, ⟨_, _, _, _, _, _, _, _, S154, i155, els146, els150, nd151, k160⟩⟩
      ·
        clear hq
        intro e f429 w428 hD
        rcases q142 with s142 | x142
        ·
          obtain ⟨rfl, hD⟩ := hD
          obtain ⟨H425, v143, n144, cs145, v147, n148, cs149, b152, S426, i427, els146, els150, nd151, k430⟩ := hD
          replace hp := el_go hp
          refine FW.seq (FW.region ?_)
          refine FL.v (E.load k430 (run_load0 Tryz.isAgg128 ((at39.mono (i126.tr i427)).now S426.sl) rfl)) ?_
          refine FL.v (E.nilCheck rfl) ?_
          refine FL.v (E.fieldAddr tf185_1 rfl) ?_
          refine FL.v (E.load rfl (run_load1 Tryz.isAgg138 (S426.box_now (i := 0) rfl) rfl)) ?_
          obtain ⟨r431, hr432, hp⟩ := bnd hp
          have S433 : St Ha wa H425 w428 [.row 132 1 v147 n148 cs149, .box b21 185 [Value.int .i64 s142.2.2.1, Value.int .i64 s142.2.2.2.1, v147, v143, Value.int .i64 s142.2.2.2.2.1], .row 132 1 v143 n144 cs145, .box b152 4 [Value.bool s142.2.2.2.2.2]] := S426.front 2 rfl rfl
          refine FL.call rfl rfl rfl (E.call Tryz.call193 (A2 rfl rfl)) (w_slices_SortFunc_impl_dense_impl_dense (L := [.box b21 185 [Value.int .i64 s142.2.2.1, Value.int .i64 s142.2.2.2.1, v147, v143, Value.int .i64 s142.2.2.2.2.1], .row 132 1 v143 n144 cs145, .box b152 4 [Value.bool s142.2.2.2.2.2]]) S433 s142.2.1 (els150.mono upI) (Value.func (.func 194) #[] #[]) (fun x0 x1 => PF.impl_algebra_span_2 x0 x1) (fun H2 w2 hi2 hs2 x0 y0 z0 x1 y1 z1 r hr => ⟨194, #[], rfl, Tryz.call194, w_impl_algebra_span_2 hs2 y0 x0 z0 y1 x1 z1  hr⟩) hr432) ?_
          rintro e w435 ⟨H434, cs438, rfl, ⟨S436, i437⟩, els439⟩
          refine ⟨_, rfl, ?_⟩
          have S436 : St Ha wa H434 w435 [.row 132 1 v147 n148 cs438, .box b21 185 [Value.int .i64 s142.2.2.1, Value.int .i64 s142.2.2.2.1, v147, v143, Value.int .i64 s142.2.2.2.2.1], .row 132 1 v143 n144 cs145, .box b152 4 [Value.bool s142.2.2.2.2.2]] := S436
          refine FL.nil (FW.seq ?_)
          obtain ⟨H440, S441, i442, h443, nv444⟩ := S436.sealRowU (i := 2) (l' := [.row 132 1 v147 n148 cs438, .box b21 185 [Value.int .i64 s142.2.2.1, Value.int .i64 s142.2.2.2.1, v147, v143, Value.int .i64 s142.2.2.2.2.1], .box b152 4 [Value.bool s142.2.2.2.2.2]]) rfl (els146.mono (up_mono i437)) (by decide) rfl
          obtain ⟨xs448, hm449, hp⟩ := bnd hp
          refine FW.drawB (Sl H440) (fun f w => ∃ H : GH, ∃ v468 : Value, ∃ c469 : List Value, St Ha wa H w [.row 132 1 v147 n148 cs438, .box b21 185 [Value.int .i64 s142.2.2.1, Value.int .i64 s142.2.2.2.1, v147, v468, Value.int .i64 s142.2.2.2.2.1]] ∧ Inc H440 H ∧ Nest (up wa.heap.size H) (eL eI 1) 1 v468 xs448 c469 ∧ New H440 [v468] ∧ f 5 = Value.pointer (some ⟨b29, 0, none⟩)) (by kernel_rfl) S441.sl ?_ ?_
          ·
            intro w445 r446
            have S447 := S441.call r446
            refine FB.phase [] (fun w => WAt w (Addr.add ⟨b21, 0, none⟩ 2) [v147]) ?_
            refine FB.t (i := 0) (bs 10 1) rfl (SP.on ((S447.box_now (i := 1) rfl).sub (j := 2) (n := 1) (c := [v147]) rfl) (SP.nil S447.sl)) rfl (fun w' hw' => (E.load k430 (run_load0 Tryz.isAgg128 ((at39.mono (((i126.tr i427).tr i437).tr i442)).now hw') rfl))) ?_
            refine FB.t (i := 1) (bs 10 3) rfl (SP.on ((S447.box_now (i := 1) rfl).sub (j := 2) (n := 1) (c := [v147]) rfl) (SP.nil S447.sl)) rfl (fun w' hw' => (E.load k430 (run_load0 Tryz.isAgg128 ((at39.mono (((i126.tr i427).tr i437).tr i442)).now hw') rfl))) ?_
            refine FB.t (i := 2) (bs 10 7) rfl (SP.on ((S447.box_now (i := 1) rfl).sub (j := 2) (n := 1) (c := [v147]) rfl) (SP.nil S447.sl)) rfl (fun w' hw' => (E.nilCheck rfl)) ?_
            refine FB.t (i := 3) (bs 10 15) rfl (SP.on ((S447.box_now (i := 1) rfl).sub (j := 2) (n := 1) (c := [v147]) rfl) (SP.nil S447.sl)) rfl (fun w' hw' => (E.fieldAddr tf185_1 rfl)) ?_
            refine FB.p (i := 4) (bs 10 31) 0 [5, 6, 7, 8, 9] rfl (SP.on ((S447.box_now (i := 1) rfl).sub (j := 2) (n := 1) (c := [v147]) rfl) (SP.nil S447.sl)) rfl rfl (fun w' hw' => (E.load rfl (run_load0 Tryz.isAgg138 hw' rfl))) ?_
            refine FB.t (i := 5) (bs 10 63) rfl (SP.on ((S447.box_now (i := 1) rfl).sub (j := 2) (n := 1) (c := [v147]) rfl) (SP.nil S447.sl)) rfl (fun w' hw' => (E.lenOW te138 rfl S447 (i := 0) rfl els439 (by decide))) ?_
            refine FB.all1 (i := 6) (by kernel_rfl) ?_
            ·
              obtain ⟨v450, w451, n455, cs456, run452, S453, els454, hbl457⟩ := S447.makeEls (P := Tryz.prog) te138 (G := (up wa.heap.size H440)) (En := (eL eI 1)) (x0 := ([] : List Int)) hm449 ⟨_, rfl, RSl.nil _ _ _⟩ (ones_cons rfl ones_nil) .i64 .i64
              have nd458 : (bl cs456).Nodup := by rw [hbl457 (by simp [Value.cells, neb])]; exact List.nodup_nil
              refine FC.val (l' := (bs 10 127)) rfl (by kernel_rfl) rfl rfl rfl (E.makeSlice rfl rfl run452) ?_
              refine ⟨(SP.on ((S453.box_now (i := 2) rfl).sub (j := 2) (n := 1) (c := [v147]) rfl) (SP.nil S453.sl)), ?_⟩
              refine FB.t (i := 7) (bs 10 255) rfl (SP.on ((S453.box_now (i := 2) rfl).sub (j := 2) (n := 1) (c := [v147]) rfl) (SP.nil S453.sl)) rfl (fun w' hw' => (E.nilCheck rfl)) ?_
              refine FB.t (i := 8) (bs 10 511) rfl (SP.on ((S453.box_now (i := 2) rfl).sub (j := 2) (n := 1) (c := [v147]) rfl) (SP.nil S453.sl)) rfl (fun w' hw' => (E.fieldAddr tf185_2 rfl)) ?_
              refine FB.all1 (i := 9) (by kernel_rfl) ?_
              ·
                obtain ⟨w459, run460, S461⟩ := S453.store (P := Tryz.prog) (t := 138) (i := 2) (j := 3) (cs' := [Value.int .i64 s142.2.2.1, Value.int .i64 s142.2.2.2.1, v147, v450, Value.int .i64 s142.2.2.2.2.1]) (l' := [.row 132 1 v450 n455 cs456, .row 132 1 v147 n148 cs438, .box b21 185 [Value.int .i64 s142.2.2.1, Value.int .i64 s142.2.2.2.1, v147, v450, Value.int .i64 s142.2.2.2.2.1], .box b152 4 [Value.bool s142.2.2.2.2.2]]) (v := v450) (c := [v450]) rfl Tryz.sizeOf138 (Ln.cells (S453.row_ln (i := 0) rfl)) rfl (ones_cons (Ln.one (S453.row_ln (i := 0) rfl)) ones_nil) (Nat.le_of_ble_eq_true rfl) rfl rfl
                refine FC.act (l' := (bs 10 1023)) rfl (by kernel_rfl) rfl rfl (E.store rfl rfl run460) ?_
                refine ⟨(SP.on ((S461.box_now (i := 2) rfl).sub (j := 2) (n := 1) (c := [v147]) rfl) (SP.nil S461.sl)), ?_⟩
                obtain ⟨H462, S463, i464, ns467, nv466⟩ := S461.sealRowN (i := 0) (l' := [.row 132 1 v147 n148 cs438, .box b21 185 [Value.int .i64 s142.2.2.1, Value.int .i64 s142.2.2.2.1, v147, v450, Value.int .i64 s142.2.2.2.2.1], .box b152 4 [Value.bool s142.2.2.2.2.2]]) rfl els454 nd458 (by decide) rfl
                have h465 := ns467.rsl
                exact FB.done (by kernel_rfl) ⟨_, _, _, (S463.sel [0, 1] (by decide) rfl), i464, ns467, (nv466.anti (Inc.rfl _)), k430⟩
          ·
            rintro f476 w475 ⟨H472, v468, c469, S473, i474, ns470, nv471, k477⟩
            refine FW.seq (FW.region ?_)
            refine FL.v (E.load k477 (run_load0 Tryz.isAgg128 ((at39.mono ((((i126.tr i427).tr i437).tr i442).tr i474)).now S473.sl) rfl)) ?_
            refine FL.v (E.assign (v := Value.pointer (some (⟨b21, 0, none⟩ : Addr))) rfl) ?_
            refine FL.nil ?_
            refine FW.ret ?_
            obtain ⟨H478, S479, i480, h481⟩ := S473.sealRow (i := 0) (l' := [.box b21 185 [Value.int .i64 s142.2.2.1, Value.int .i64 s142.2.2.2.1, v147, v468, Value.int .i64 s142.2.2.2.2.1]]) rfl (els439.mono (i442.tr i474)) (by decide) rfl
            obtain ⟨H482, S483, i484, at485⟩ := S479.sealBox (i := 0) (l' := []) rfl rfl
            obtain rfl := Option.some.inj hp
            exact ⟨.inr rfl, res1 rfl rfl ⟨_, _, rfl, S483.run, ⟨_, rfl, _, _, (h481.mono i484), ⟨_, (ns470.mono (up_mono (i480.tr i484)))⟩, at485⟩⟩⟩
        · exact x142.elim
    · exact x41.elim

@[reducible] def p_impl_spanOf (Ha : GH) (wa : World) (r : ((Option algebra) × (Option echelon) × Bool)) : Ending → World → Prop :=
 fun e w' => ∃ H' : GH, ∃ v0 : Value, ∃ v1 : Value, e = .returned (Value.tuple #[v0, v1, Value.bool r.2.2]) ∧ Run wa.heap.size Ha wa H' w' ∧ OP (fun (q : Addr) (x : algebra) => ∃ v0R_3 : Value, ∃ v0R_4 : Value, RSl H' (eL eI 1) 1 v0R_3 x.f.clauses ∧ (∃ c, Nest (up wa.heap.size H') (eL eI 1) 1 v0R_4 x.q c) ∧ CAt H' q [Value.int .i64 x.ring.p, Value.int .i64 x.ring.vars, Value.int .i64 x.f.vars, v0R_3, v0R_4]) v0 r.1 ∧ OP (fun (q : Addr) (x : echelon) => ∃ v1R_2 : Value, ∃ v1R_3 : Value, RSl H' (eL eI 1) 1 v1R_2 x.rows ∧ (∃ c, Nest (up wa.heap.size H') (eL eI 1) 1 v1R_3 x.made c) ∧ CAt H' q [Value.int .i64 x.ring.p, Value.int .i64 x.ring.vars, v1R_2, v1R_3, Value.int .i64 x.many]) v1 r.2.1
theorem w_impl_spanOf {Ha : GH} {wa : World} (hs : Sl Ha wa) (a0 : Int) (a1 : Cnf) (v1_1 : Value) (p1_1 : RSl Ha (eL eI 1) 1 v1_1 a1.clauses) (a2 : Int) {r : ((Option algebra) × (Option echelon) × Bool)} (hp : (PF.impl_spanOf a0 a1 a2) = some r) :
  Calls Tryz.prog 83 #[Value.int .i64 a0, Value.agg #[Value.int .i64 a1.vars, v1_1], Value.int .i64 a2] wa (p_impl_spanOf Ha wa r) := by
 unfold PF.impl_spanOf at hp
 have S0 := St.init hs
 refine calls_go (N := 28) (args := [Value.int .i64 a0, Value.agg #[Value.int .i64 a1.vars, v1_1], Value.int .i64 a2]) Tryz.func83 rfl rfl rfl ?_
 refine FW.seq (FW.region ?_)
 obtain ⟨b21, w22, run23, S24⟩ := S0.box (P := Tryz.prog) 30 [Value.int .i64 a1.vars, v1_1] (v := Value.agg #[Value.int .i64 a1.vars, v1_1]) rfl (ones_cons rfl (ones_cons p1_1.one ones_nil))
 refine FL.v (E.box rfl run23) ?_
 obtain ⟨H25, S26, i27, at28⟩ := S24.sealBox (i := 0) (l' := []) rfl rfl
 refine FL.v (E.assign (v := Value.pointer none) rfl) ?_
 refine FL.v (E.assign (v := Value.pointer none) rfl) ?_
 refine FL.v (E.assign (v := Value.bool false) rfl) ?_
 refine FL.nil (FW.seq (FW.region ?_))
 refine FL.v (E.move (v := Value.int .i64 a0) rfl) ?_
 refine FL.v (E.load rfl (run_loadA Tryz.isAgg30 Tryz.sizeOf30 (at28.now S26.sl) rfl)) ?_
 obtain ⟨r29, hr30, hp⟩ := bnd hp
 refine FL.call rfl rfl rfl (E.call Tryz.call140 (A2 rfl rfl)) (w_impl_algebraOf S26.sl a0 a1 v1_1 (p1_1.mono i27) hr30) ?_
 rintro e w32 ⟨H31, v35, rfl, r34, h36⟩
 refine ⟨_, rfl, ?_⟩
 have S33 := S26.call r34
 refine FL.v (E.move (v := Value.tuple #[v35, Value.bool r29.2]) rfl) ?_
 refine FL.v (E.extract (i := 0) rfl rfl) ?_
 refine FL.v (E.extract (i := 1) rfl rfl) ?_
 refine FL.v (E.assign (v := v35) rfl) ?_
 refine FL.v (E.assign (v := Value.bool r29.2) rfl) ?_
 refine FL.nil (FW.seq (FW.seq (FW.region ?_)))
 refine FL.v (E.move (v := Value.bool r29.2) rfl) ?_
 refine FL.v (E.not rfl) ?_
 refine FL.v (E.move (v := Value.bool (!r29.2)) rfl) ?_
 refine FL.cut 4 (fun f w => ∃ H : GH, St Ha wa H w [] ∧ Inc H31 H ∧ f 2 = Value.int .i64 a2 ∧ f 9 = v35 ∧ f 23 = Value.bool (bif (!r29.2) then true else (!(PF.impl_degreeOk a2)))) ?_ ?_
 ·
  rcases bcase (!r29.2) with c46 | c46
  ·
   refine FL.skip (wF_no rfl rfl rfl c46) rfl ?_
   refine FL.skip (wF_no rfl rfl rfl c46) rfl ?_
   refine FL.skip (wF_no rfl rfl rfl c46) rfl ?_
   refine FL.v (E.pickT rfl c46 rfl) ?_
   exact FL.nil ⟨rfl, _, S33, (Inc.rfl _), rfl, rfl, (congrArg Value.bool (bifT c46).symm)⟩
  ·
   refine FL.val (wF_yes rfl rfl rfl c46) rfl rfl (E.move (v := Value.int .i64 a2) rfl) ?_
   refine FL.call (wF_yes rfl rfl rfl c46) rfl rfl (E.call Tryz.call141 (A1 rfl)) (w_impl_degreeOk S33.sl a2) ?_
   rintro e w47 ⟨rfl, r48⟩
   refine ⟨_, rfl, ?_⟩
   have S49 := S33.call r48
   refine FL.val (wF_yes rfl rfl rfl c46) rfl rfl (E.not rfl) ?_
   refine FL.v (E.pickF rfl c46 rfl) ?_
   exact FL.nil ⟨rfl, _, S49, (Inc.rfl _), rfl, rfl, (congrArg Value.bool (bifF c46).symm)⟩
 rintro f45 w44 ⟨H41, S42, i43, k50, k51, k52⟩
 refine FL.nil ?_
 rcases ifB hp with ⟨c53, hp⟩ | ⟨c53, hp⟩
 ·
  refine FW.condT k52 c53 ?_
  refine FW.seq (FW.region ?_)
  refine FL.v (E.assign (v := Value.pointer none) rfl) ?_
  refine FL.v (E.assign (v := Value.pointer none) rfl) ?_
  refine FL.v (E.assign (v := Value.bool false) rfl) ?_
  refine FL.nil ?_
  refine FW.ret ?_
  obtain rfl := Option.some.inj hp
  exact ⟨.inr rfl, res3 rfl rfl rfl rfl ⟨_, _, _, rfl, S42.run, rfl, rfl⟩⟩
 ·
  refine FW.condF k52 c53 ?_
  refine FW.skip (FW.seq ?_)
  obtain ⟨y54, hy55, hp⟩ := bnd hp
  rw [hy55] at h36
  obtain ⟨q56, rfl, v57, v59, h58, ⟨c62, ns61⟩, at64⟩ := h36
  have h60 := ns61.rsl
  have nv63 : New H25 [v59] := New.of_up S26.sl h60.dom
  have h60 := h60.mono (up_le S26.size)
  have ns61 := ns61.mono (up_le S26.size)
  refine FW.region ?_
  refine FL.v (E.move k51) ?_
  refine FL.v (E.move k51) ?_
  refine FL.v (E.move k50) ?_
  obtain ⟨r65, hr66, hp⟩ := bnd hp
  refine FL.call rfl rfl rfl (E.call Tryz.call142 (A2 rfl rfl)) (w_impl_algebra_span S42.sl q56 y54 v57 v59 (h58.mono i43) (h60.mono (upI.tr i43)) (at64.mono i43) a2 hr66) ?_
  rintro e w68 ⟨H67, v71, rfl, r70, h72⟩
  refine ⟨_, rfl, ?_⟩
  have S69 := S42.call r70
  refine FL.v (E.assign (v := Value.pointer (some q56)) rfl) ?_
  refine FL.v (E.assign (v := v71) rfl) ?_
  refine FL.v (E.assign (v := Value.bool true) rfl) ?_
  refine FL.nil ?_
  refine FW.ret ?_
  obtain ⟨y73, hy74, hp⟩ := bnd hp
  rw [hy74] at h72
  obtain ⟨q75, rfl, v76, v78, h77, ⟨c81, ns80⟩, at83⟩ := h72
  have h79 := ns80.rsl
  have nv82 : New H41 [v78] := New.of_up S42.sl h79.dom
  have h79 := h79.mono (up_le S42.size)
  have ns80 := ns80.mono (up_le S42.size)
  obtain rfl := Option.some.inj hp
  exact ⟨.inr rfl, res3 rfl rfl rfl rfl ⟨_, _, _, rfl, S69.run, ⟨_, rfl, _, _, (h58.mono (i43.tr r70.inc)), ⟨_, (ns61.mono (up_mono (i43.tr r70.inc)))⟩, (at64.mono (i43.tr r70.inc))⟩, ⟨_, rfl, _, _, h77, ⟨_, ns80⟩, at83⟩⟩⟩

theorem w_impl_dense_isZero {Ha : GH} {wa : World} (hs : Sl Ha wa) (v0 : Value) (a0 : List Int) (p0 : RSl Ha eI 1 v0 a0) {r : Bool} (hp : (PF.impl_dense_isZero a0) = some r) :
  Calls Tryz.prog 88 #[v0] wa (Sc Ha wa (Value.bool r)) := by
 unfold PF.impl_dense_isZero at hp
 have S0 := St.init hs
 refine calls_go (N := 6) (args := [v0]) Tryz.func88 rfl rfl rfl ?_
 refine FW.seq (FW.region ?_)
 refine FL.v (E.assign (v := Value.bool false) rfl) ?_
 refine FL.nil (FW.seq (FW.region ?_))
 refine FL.v (E.move (v := v0) rfl) ?_
 obtain ⟨r21, hr22, hp⟩ := bnd hp
 refine FL.call rfl rfl rfl (E.call Tryz.call148 (A1 rfl)) (w_impl_dense_degree S0.sl v0 a0 p0 hr22) ?_
 rintro e w23 ⟨rfl, r24⟩
 refine ⟨_, rfl, ?_⟩
 have S25 := S0.call r24
 refine FL.v (E.lss rfl rfl) ?_
 refine FL.v (E.assign (v := Value.bool (decide (r21 < 0))) rfl) ?_
 refine FL.nil ?_
 refine FW.ret ?_
 obtain rfl := Option.some.inj hp
 exact ⟨.inr rfl, res1 rfl rfl ⟨rfl, S25.back⟩⟩

@[reducible] def p_slices_Clone_int_int (Ha : GH) (wa : World) (r : (List Int)) : Ending → World → Prop :=
 fun e w' => ∃ H' : GH, ∃ v0 : Value, ∃ n0 : Nat, ∃ c0 : List Value, e = .returned (v0) ∧ St Ha wa H' w' [.row 3 1 v0 n0 c0] ∧ Els (up wa.heap.size H') eI 1 c0 r
theorem w_slices_Clone_int_int {Ha : GH} {wa : World} (hs : Sl Ha wa) (v0 : Value) (a0 : List Int) (p0 : RSl Ha eI 1 v0 a0) {r : (List Int)} (hp : (PF.slices_Clone_int_int a0) = some r) :
  Calls Tryz.prog 62 #[v0] wa (p_slices_Clone_int_int Ha wa r) := by
 unfold PF.slices_Clone_int_int at hp
 have S0 := St.init hs
 refine calls_go (N := 8) (args := [v0]) Tryz.func62 rfl rfl rfl ?_
 refine FW.seq (FW.region ?_)
 refine FL.v (E.assign (v := Value.slice none 0 0) rfl) ?_
 refine FL.nil (FW.seq (FW.seq (FW.region ?_)))
 refine FL.v (E.move (v := v0) rfl) ?_
 obtain ⟨nb21, run22, hn23⟩ := RSl.nilTest te84 p0
 refine FL.v (run22 _ _ _ _ _ _ _ _ _ _ _ _ rfl rfl) ?_
 refine FL.nil ?_
 rcases bcase nb21 with c24 | c24
 ·
  refine FW.condT (b := nb21) rfl c24 ?_
  rw [hn23 c24, app_nil2] at hp
  refine FW.seq (FW.region ?_)
  refine FL.v (E.assign (v := Value.slice none 0 0) rfl) ?_
  refine FL.nil ?_
  refine FW.ret ?_
  obtain rfl := Option.some.inj hp
  exact ⟨.inr rfl, res1 rfl rfl ⟨_, _, _, _, rfl, (S0.nil 3 1), Els.nil⟩⟩
 ·
  refine FW.condF (b := nb21) rfl c24 ?_
  refine FW.skip (FW.seq (FW.region ?_))
  obtain ⟨v25, w26, run27, S28⟩ := S0.buildSlice (P := Tryz.prog) te84 [] (parts := #[]) (cells := []) rfl szs_nil fc_nil ones_nil (Nat.le_of_ble_eq_true rfl)
  have els29 : Els (up wa.heap.size Ha) eI 1 [] [] := Els.nil
  refine FL.v (E.buildSlice (B0) run27) ?_
  refine FL.v (E.move (v := v0) rfl) ?_
  obtain ⟨xs30, hz31, hp⟩ := bnd hp
  obtain ⟨v32, w35, n33, cs34, run36, S37, els38⟩ := S28.appendP (P := Tryz.prog) (Inc.rfl _) te84 (i := 0) rfl (els29.mono upI) p0 hz31
  have S37 : St Ha wa Ha w35 [.row 3 1 v32 n33 cs34] := S37
  have els38 : Els (up wa.heap.size Ha) eI 1 cs34 xs30 := els38.any (fun _ _ _ _ h => h)
  refine FL.v (E.append rfl rfl run36) ?_
  refine FL.v (E.assign (v := v32) rfl) ?_
  refine FL.nil ?_
  refine FW.ret ?_
  obtain rfl := Option.some.inj hp
  exact ⟨.inr rfl, res1 rfl rfl ⟨_, _, _, _, rfl, S37, els38⟩⟩

@[reducible] def p_slices_SortFunc_LLint_Lint (H0 : GH) (w0 : World) (Ha : GH) (L : List MO) (v0 : Value) (n0 : Nat) (r : (List (List Int))) : Ending → World → Prop :=
 fun e w' => ∃ H' : GH, ∃ c0k : List Value, e = .returned (Value.tuple #[]) ∧ (St H0 w0 H' w' (.row 84 1 v0 n0 c0k :: L) ∧ Inc Ha H') ∧ Els (up w0.heap.size H') (eL eI 1) 1 c0k r ∧ (bl c0k).Nodup
theorem w_slices_SortFunc_LLint_Lint {H0 Ha : GH} {w0 wa : World} {L : List MO} {v0 : Value} {n0 : Nat} {k0 : List Value} (S0 : St H0 w0 Ha wa (.row 84 1 v0 n0 k0 :: L)) (a0 : List (List Int)) (p0 : Els (up w0.heap.size Ha) (eL eI 1) 1 k0 a0) (d0 : (bl k0).Nodup) (v1 : Value) (a1 : (List Int) → (List Int) → Option Int) (p1 : Fn_List_Int_List_Int_to_I Tryz.prog Ha v1 a1) {r : (List (List Int))} (hp : (PF.slices_SortFunc_LLint_Lint a0 a1) = some r) :
  Calls Tryz.prog 50 #[v0, v1] wa (p_slices_SortFunc_LLint_Lint H0 w0 Ha L v0 n0 r) := by
 refine (St.sortF (l := .row 84 1 v0 n0 k0 :: L) (i := 0) upI S0 rfl p0 (fun H2 w2 hi hs2 c x hc d y hd r hr => by obtain ⟨y0, e0, z0⟩ := eL_open hc; cases e0; obtain ⟨y1, e1, z1⟩ := eL_open hd; cases e1; exact p1 H2 w2 hi hs2 x c z0 y d z1 r hr) (fun p cap fv w => AnyF.slices_SortFunc_none (P := Tryz.prog) (ρ := Tryz.sort50_ren) { Tryz.sort50 with } p cap fv w) (fun α _ enc h1 cf hO g cb blk off cap d w eg hc hH hb hs => Any.slices_SortFunc Tryz.sort50 enc h1 cf hO g cb blk off cap d w eg hc hH hb hs) hp).mono ?_
 rintro e w' ⟨rfl, c', h1, h2, hq⟩
 exact ⟨_, _, rfl, ⟨h1, Inc.rfl _⟩, h2, nd_perm hq d0⟩

theorem w_slices_CompareFunc_int_int_int_int {Ha : GH} {wa : World} (hs : Sl Ha wa) (v0 : Value) (a0 : List Int) (p0 : RSl Ha eI 1 v0 a0) (v1 : Value) (a1 : List Int) (p1 : RSl Ha eI 1 v1 a1) (v2 : Value) (a2 : Int → Int → Option Int) (p2 : Fn_I_I_to_I Tryz.prog Ha v2 a2) {r : Int} (hp : (PF.slices_CompareFunc_int_int_int_int a0 a1 a2) = some r) :
  Calls Tryz.prog 102 #[v0, v1, v2] wa (Sc Ha wa (Value.int .i64 r)) := by
 unfold PF.slices_CompareFunc_int_int_int_int at hp
 have S0 := St.init hs
 refine calls_go (N := 39) (args := [v0, v1, v2]) Tryz.func102 rfl rfl rfl ?_
 refine FW.seq (FW.region ?_)
 refine FL.v (E.assign (v := Value.int .i64 0) rfl) ?_
 refine FL.nil (FW.seq (FW.seq (FW.region ?_)))
 refine FL.v (E.move (v := v0) rfl) ?_
 refine FL.v (E.lenP te84 rfl p0) ?_
 refine FL.v (E.move (v := Value.int .i64 0) rfl) ?_
 refine FL.nil ?_
 obtain ⟨q22, hq, hp⟩ := bndR hp
 refine FW.block ?_
 refine FW.mono (FW.forL (S := Unit) (X := Int) (fun (i22 : Nat) (s22 : Unit) f w => ∃ H : GH, St Ha wa H w [] ∧ Inc Ha H ∧ f 13 = Value.int .i64 ((i22 : Nat) : Int) ∧ f 0 = v0 ∧ f 1 = v1 ∧ f 2 = v2 ∧ f 11 = v0 ∧ f 12 = Value.int .i64 (len a0)) (fun q e f w => match q with | .go s22 => e = Exit.exit 0 ∧ (∃ H : GH, St Ha wa H w [] ∧ Inc Ha H ∧ f 0 = v0 ∧ f 1 = v1) | .rt x => ((e = Exit.ret) ∧ (fun e f w => (e = Exit.normal ∨ e = Exit.ret) ∧ ∀ a, Fr (δ := []) 39 a f → ∃ v, (results Tryz.f102 a.tmps).run Tryz.prog w = .ok v w ∧ (Sc Ha wa (Value.int .i64 x)) (.returned v) w) e f w)) hq ⟨_, S0, (Inc.rfl _), rfl, rfl, rfl, rfl, rfl, rfl⟩ ?_ ?_) ?_
 ·
  clear hp hq
  rintro i22 y21 s22 f64 w63 ⟨H60, S61, i62, k65, k66, k67, k68, k69, k70⟩ hx22 o97 hp
  refine FW.seq (FW.region ?_)
  refine FL.v (E.lssT k65 k70 (lss_len hx22)) ?_
  refine FL.nil (FW.seq ?_)
  refine FW.condT rfl rfl ?_
  refine FW.skip (FW.seq (FW.block (FW.seq (FW.region ?_))))
  refine FL.v (E.move k65) ?_
  obtain ⟨p71, cs72, pt73, l74, at75, rel76⟩ := p0.at (ix_nat hx22)
  obtain rfl := eI_open rel76
  refine FL.v (E.indexAddr te84 k69 k65 pt73) ?_
  refine FL.v (E.load rfl (run_load0 Tryz.isAgg3 ((at75.mono i62).now S61.sl) rfl)) ?_
  refine FL.v (E.assign (v := Value.int .i64 ((i22 : Nat) : Int)) rfl) ?_
  refine FL.v (E.assign (v := Value.int .i64 y21) rfl) ?_
  refine FL.nil (FW.seq (FW.seq (FW.region ?_)))
  refine FL.v (E.move (v := Value.int .i64 ((i22 : Nat) : Int)) rfl) ?_
  refine FL.v (E.move k67) ?_
  refine FL.v (E.lenP te84 rfl p1) ?_
  refine FL.v (E.geq rfl rfl) ?_
  refine FL.nil ?_
  rcases ifB hp with ⟨c77, hp⟩ | ⟨c77, hp⟩
  ·
   refine FW.condT rfl c77 ?_
   refine FW.seq (FW.region ?_)
   refine FL.v (E.assign (v := Value.int .i64 1) rfl) ?_
   refine FL.nil ?_
   refine FW.ret ?_
   obtain rfl := Option.some.inj hp
   exact ⟨nofun, rfl, ⟨.inr rfl, res1 rfl rfl ⟨rfl, S61.back⟩⟩⟩
  ·
   refine FW.condF rfl c77 ?_
   refine FW.skip (FW.seq (FW.region ?_))
   refine FL.v (E.move k67) ?_
   refine FL.v (E.move (v := Value.int .i64 ((i22 : Nat) : Int)) rfl) ?_
   obtain ⟨x84, hx85, hp⟩ := bnd hp
   obtain ⟨p78, cs79, pt80, l81, at82, rel83⟩ := p1.at hx85
   obtain rfl := eI_open rel83
   refine FL.v (E.indexAddr te84 rfl rfl pt80) ?_
   refine FL.v (E.load rfl (run_load0 Tryz.isAgg3 ((at82.mono i62).now S61.sl) rfl)) ?_
   refine FL.v (E.assign (v := Value.int .i64 x84) rfl) ?_
   refine FL.nil (FW.seq (FW.region ?_))
   refine FL.v (E.move k68) ?_
   refine FL.v (E.move (v := Value.int .i64 y21) rfl) ?_
   refine FL.v (E.move (v := Value.int .i64 x84) rfl) ?_
   obtain ⟨r86, hr87, hp⟩ := bnd hp
   obtain ⟨fi91, cs92, hv93, he94, hc95⟩ := (p2.mono i62) H60 w63 (Inc.rfl _) S61.sl y21 x84 r86 hr87
   refine FL.call rfl rfl rfl (E.callV he94 (Eq.trans rfl hv93) (appA (A2 rfl rfl) cs92)) hc95 ?_
   rintro e w88 ⟨rfl, r89⟩
   refine ⟨_, rfl, ?_⟩
   have S90 := S61.call r89
   refine FL.v (E.assign (v := Value.int .i64 r86) rfl) ?_
   refine FL.nil (FW.seq (FW.region ?_))
   refine FL.v (E.move (v := Value.int .i64 r86) rfl) ?_
   refine FL.v (E.neq rfl rfl) ?_
   refine FL.nil ?_
   rcases ifB hp with ⟨c96, hp⟩ | ⟨c96, hp⟩
   ·
    refine FW.condT rfl c96 ?_
    refine FW.seq (FW.region ?_)
    refine FL.v (E.move (v := Value.int .i64 r86) rfl) ?_
    refine FL.v (E.assign (v := Value.int .i64 r86) rfl) ?_
    refine FL.nil ?_
    refine FW.ret ?_
    obtain rfl := Option.some.inj hp
    exact ⟨nofun, rfl, ⟨.inr rfl, res1 rfl rfl ⟨rfl, S90.back⟩⟩⟩
   ·
    refine FW.condF rfl c96 ?_
    refine FW.skip (FW.region ?_)
    refine FL.v (E.add k65 rfl) ?_
    refine FL.v (E.move (v := Value.int .i64 (wr (((i22 : Nat) : Int) + 1))) rfl) ?_
    refine FL.nil ?_
    obtain rfl := Option.some.inj hp
    exact ⟨rfl, ⟨_, S90, i62, (nat_succ rfl (lt_of_get hx22) (p0.mono i62).le), k66, k67, k68, k69, k70⟩⟩
 ·
  clear hp hq
  rintro s22 f110 w109 ⟨H106, S107, i108, k111, k112, k113, k114, k115, k116⟩
  refine FW.seq (FW.region ?_)
  refine FL.v (E.lss k111 k116) ?_
  refine FL.nil (FW.seq ?_)
  refine FW.condF rfl dlt_len ?_
  refine FW.exit ?_
  exact ⟨nofun, rfl, ⟨_, S107, i108, k112, k113⟩⟩
 ·
  clear hq
  intro e f102 w101 hD
  rcases q22 with s22 | x22
  ·
   obtain ⟨rfl, hD⟩ := hD
   obtain ⟨H98, S99, i100, k103, k104⟩ := hD
   replace hp := el_go hp
   refine FW.seq (FW.seq (FW.region ?_))
   refine FL.v (E.move k103) ?_
   refine FL.v (E.lenP te84 rfl p0) ?_
   refine FL.v (E.move k104) ?_
   refine FL.v (E.lenP te84 rfl p1) ?_
   refine FL.v (E.lss rfl rfl) ?_
   refine FL.nil ?_
   rcases ifB hp with ⟨c105, hp⟩ | ⟨c105, hp⟩
   ·
    refine FW.condT rfl c105 ?_
    refine FW.seq (FW.region ?_)
    refine FL.v (E.assign (v := Value.int .i64 (-1)) rfl) ?_
    refine FL.nil ?_
    refine FW.ret ?_
    obtain rfl := Option.some.inj hp
    exact ⟨.inr rfl, res1 rfl rfl ⟨rfl, S99.back⟩⟩
   ·
    refine FW.condF rfl c105 ?_
    refine FW.skip (FW.seq (FW.region ?_))
    refine FL.v (E.assign (v := Value.int .i64 0) rfl) ?_
    refine FL.nil ?_
    refine FW.ret ?_
    obtain rfl := Option.some.inj hp
    exact ⟨.inr rfl, res1 rfl rfl ⟨rfl, S99.back⟩⟩
  ·
   obtain ⟨he, hL⟩ := hD
   replace hp := el_rt hp
   obtain rfl := Option.some.inj hp
   subst he
   exact hL

theorem w_impl_compareLiterals {Ha : GH} {wa : World} (hs : Sl Ha wa) (a0 : Int) (a1 : Int) {r : Int} (hp : (PF.impl_compareLiterals a0 a1) = some r) :
  Calls Tryz.prog 103 #[Value.int .i64 a0, Value.int .i64 a1] wa (Sc Ha wa (Value.int .i64 r)) := by
 unfold PF.impl_compareLiterals at hp
 have S0 := St.init hs
 refine calls_go (N := 15) (args := [Value.int .i64 a0, Value.int .i64 a1]) Tryz.func103 rfl rfl rfl ?_
 refine FW.seq (FW.region ?_)
 refine FL.v (E.assign (v := Value.int .i64 0) rfl) ?_
 refine FL.nil (FW.seq (FW.region ?_))
 refine FL.v (E.move (v := Value.int .i64 a0) rfl) ?_
 refine FL.call rfl rfl rfl (E.call Tryz.call166 (A1 rfl)) (w_impl_abs S0.sl a0) ?_
 rintro e w21 ⟨rfl, r22⟩
 refine ⟨_, rfl, ?_⟩
 have S23 := S0.call r22
 refine FL.v (E.move (v := Value.int .i64 a1) rfl) ?_
 refine FL.call rfl rfl rfl (E.call Tryz.call166 (A1 rfl)) (w_impl_abs S23.sl a1) ?_
 rintro e w24 ⟨rfl, r25⟩
 refine ⟨_, rfl, ?_⟩
 have S26 := S23.call r25
 refine FL.call rfl rfl rfl (E.call Tryz.call101 (A2 rfl rfl)) (w_cmp_Compare_int S26.sl (PF.impl_abs a0) (PF.impl_abs a1)) ?_
 rintro e w27 ⟨rfl, r28⟩
 refine ⟨_, rfl, ?_⟩
 have S29 := S26.call r28
 refine FL.v (E.move (v := Value.int .i64 a1) rfl) ?_
 refine FL.v (E.move (v := Value.int .i64 a0) rfl) ?_
 refine FL.call rfl rfl rfl (E.call Tryz.call101 (A2 rfl rfl)) (w_cmp_Compare_int S29.sl a1 a0) ?_
 rintro e w30 ⟨rfl, r31⟩
 refine ⟨_, rfl, ?_⟩
 have S32 := S29.call r31
 obtain ⟨v33, w34, run35, S36⟩ := S32.buildSlice (P := Tryz.prog) te84 [Value.int .i64 (PF.cmp_Compare_int (PF.impl_abs a0) (PF.impl_abs a1)), Value.int .i64 (PF.cmp_Compare_int a1 a0)] (parts := #[(0, Value.int .i64 (PF.cmp_Compare_int (PF.impl_abs a0) (PF.impl_abs a1))), (1, Value.int .i64 (PF.cmp_Compare_int a1 a0))]) (cells := [Value.int .i64 (PF.cmp_Compare_int (PF.impl_abs a0) (PF.impl_abs a1)), Value.int .i64 (PF.cmp_Compare_int a1 a0)]) rfl (szs_cons rfl (szs_cons rfl szs_nil)) (fc_cons rfl (fc_cons rfl fc_nil)) (ones_cons rfl (ones_cons rfl ones_nil)) (Nat.le_of_ble_eq_true rfl)
 have els37 : Els (up wa.heap.size Ha) eI 1 [Value.int .i64 (PF.cmp_Compare_int (PF.impl_abs a0) (PF.impl_abs a1)), Value.int .i64 (PF.cmp_Compare_int a1 a0)] [(PF.cmp_Compare_int (PF.impl_abs a0) (PF.impl_abs a1)), (PF.cmp_Compare_int a1 a0)] := (Els.snoc (H := (up wa.heap.size Ha)) (E := eI) (k := 1) (c := [Value.int .i64 (PF.cmp_Compare_int a1 a0)]) (x := (PF.cmp_Compare_int a1 a0)) (Els.snoc (H := (up wa.heap.size Ha)) (E := eI) (k := 1) (c := [Value.int .i64 (PF.cmp_Compare_int (PF.impl_abs a0) (PF.impl_abs a1))]) (x := (PF.cmp_Compare_int (PF.impl_abs a0) (PF.impl_abs a1))) Els.nil rfl rfl) rfl rfl)
 refine FL.v (E.buildSlice (B2 rfl rfl) run35) ?_
 obtain ⟨H38, S39, i40, h41, nv42⟩ := S36.sealRowU (i := 0) (l' := []) rfl els37 (by decide) rfl
 obtain ⟨r43, hr44, hp⟩ := bnd hp
 refine FL.call rfl rfl rfl (E.call Tryz.call100 (A1 rfl)) (w_cmp_Or_int S39.sl v33 [(PF.cmp_Compare_int (PF.impl_abs a0) (PF.impl_abs a1)), (PF.cmp_Compare_int a1 a0)] (h41.mono upI) hr44) ?_
 rintro e w45 ⟨rfl, r46⟩
 refine ⟨_, rfl, ?_⟩
 have r46 := Run.lend i40 S36.sl r46
 have S47 := S36.call r46
 refine FL.v (E.assign (v := Value.int .i64 r43) rfl) ?_
 refine FL.nil ?_
 refine FW.ret ?_
 obtain rfl := Option.some.inj hp
 exact ⟨.inr rfl, res1 rfl rfl ⟨rfl, S47.back⟩⟩

theorem w_impl_compareClauses {Ha : GH} {wa : World} (hs : Sl Ha wa) (v0 : Value) (a0 : List Int) (p0 : RSl Ha eI 1 v0 a0) (v1 : Value) (a1 : List Int) (p1 : RSl Ha eI 1 v1 a1) {r : Int} (hp : (PF.impl_compareClauses a0 a1) = some r) :
  Calls Tryz.prog 51 #[v0, v1] wa (Sc Ha wa (Value.int .i64 r)) := by
 unfold PF.impl_compareClauses at hp
 have S0 := St.init hs
 refine calls_go (N := 15) (args := [v0, v1]) Tryz.func51 rfl rfl rfl ?_
 refine FW.seq (FW.region ?_)
 refine FL.v (E.assign (v := Value.int .i64 0) rfl) ?_
 refine FL.nil (FW.seq (FW.region ?_))
 refine FL.v (E.move (v := v0) rfl) ?_
 refine FL.v (E.lenP te84 rfl p0) ?_
 refine FL.v (E.move (v := v1) rfl) ?_
 refine FL.v (E.lenP te84 rfl p1) ?_
 refine FL.call rfl rfl rfl (E.call Tryz.call101 (A2 rfl rfl)) (w_cmp_Compare_int S0.sl (len a0) (len a1)) ?_
 rintro e w21 ⟨rfl, r22⟩
 refine ⟨_, rfl, ?_⟩
 have S23 := S0.call r22
 refine FL.v (E.move (v := v0) rfl) ?_
 refine FL.v (E.move (v := v1) rfl) ?_
 obtain ⟨r24, hr25, hp⟩ := bnd hp
 refine FL.call rfl rfl rfl (E.call Tryz.call102 (A3 rfl rfl rfl)) (w_slices_CompareFunc_int_int_int_int S23.sl v0 a0 p0 v1 a1 p1 (Value.func (.func 103) #[] #[]) (fun x0 x1 => PF.impl_compareLiterals x0 x1) (fun H2 w2 hi2 hs2 x0 x1 r hr => ⟨103, #[], rfl, Tryz.call103, w_impl_compareLiterals hs2 x0 x1  hr⟩) hr25) ?_
 rintro e w26 ⟨rfl, r27⟩
 refine ⟨_, rfl, ?_⟩
 have S28 := S23.call r27
 obtain ⟨v29, w30, run31, S32⟩ := S28.buildSlice (P := Tryz.prog) te84 [Value.int .i64 (PF.cmp_Compare_int (len a0) (len a1)), Value.int .i64 r24] (parts := #[(0, Value.int .i64 (PF.cmp_Compare_int (len a0) (len a1))), (1, Value.int .i64 r24)]) (cells := [Value.int .i64 (PF.cmp_Compare_int (len a0) (len a1)), Value.int .i64 r24]) rfl (szs_cons rfl (szs_cons rfl szs_nil)) (fc_cons rfl (fc_cons rfl fc_nil)) (ones_cons rfl (ones_cons rfl ones_nil)) (Nat.le_of_ble_eq_true rfl)
 have els33 : Els (up wa.heap.size Ha) eI 1 [Value.int .i64 (PF.cmp_Compare_int (len a0) (len a1)), Value.int .i64 r24] [(PF.cmp_Compare_int (len a0) (len a1)), r24] := (Els.snoc (H := (up wa.heap.size Ha)) (E := eI) (k := 1) (c := [Value.int .i64 r24]) (x := r24) (Els.snoc (H := (up wa.heap.size Ha)) (E := eI) (k := 1) (c := [Value.int .i64 (PF.cmp_Compare_int (len a0) (len a1))]) (x := (PF.cmp_Compare_int (len a0) (len a1))) Els.nil rfl rfl) rfl rfl)
 refine FL.v (E.buildSlice (B2 rfl rfl) run31) ?_
 obtain ⟨H34, S35, i36, h37, nv38⟩ := S32.sealRowU (i := 0) (l' := []) rfl els33 (by decide) rfl
 obtain ⟨r39, hr40, hp⟩ := bnd hp
 refine FL.call rfl rfl rfl (E.call Tryz.call100 (A1 rfl)) (w_cmp_Or_int S35.sl v29 [(PF.cmp_Compare_int (len a0) (len a1)), r24] (h37.mono upI) hr40) ?_
 rintro e w41 ⟨rfl, r42⟩
 refine ⟨_, rfl, ?_⟩
 have r42 := Run.lend i36 S32.sl r42
 have S43 := S32.call r42
 refine FL.v (E.assign (v := Value.int .i64 r39) rfl) ?_
 refine FL.nil ?_
 refine FW.ret ?_
 obtain rfl := Option.some.inj hp
 exact ⟨.inr rfl, res1 rfl rfl ⟨rfl, S43.back⟩⟩

def AC (H : GH) (J : GH → World → Prop) : Ending → World → Prop := fun e w' => e = .returned (.tuple #[]) ∧ ∃ H', Inc H H' ∧ J H' w'
set_option maxHeartbeats 2000000 in
theorem w_allC {σ : Type} {J : σ → GH → World → Prop} {step : List Int → σ → Option σ} {g : Nat} {cb : Array Value} (hsl : ∀ {s H w}, J s H w → Sl H w) (hrun : ∀ {s H w H' w'}, J s H w → Run w.heap.size H w H' w' → J s H' w')
    (hg : ∀ args w, (callFunc g args).run Tryz.prog w = .ok (.enter g args) w)
    (hdo : ∀ {s H w}, J s H w → ∀ v c, RSl H eI 1 v c → ∀ s', step c s = some s' → Calls Tryz.prog g (#[v] ++ cb) w (AC H (J s'))) :
    ∀ (n : Nat) (V u : Int) (c : List Int) (v : Value) (s s' : σ) (H : GH) (w : World), 1 ≤ u → u + n = V + 1 → V ≤ 1000 → c.length + n ≤ 1000000 → J s H w → RSl H eI 1 v c → foldO step (c :: visL n u c) s = some s' →
      Calls Tryz.prog 84 #[.int .i64 V, .int .i64 u, v, .func (.func g) #[] cb] w (AC H (J s')) := by
  intro n
  induction n using Nat.strongRecOn with
  | ind n ih =>
  intro V u c v s s' H w hu hn hV hcl hJ hc hp
  have hclone : PF.slices_Clone_int_int c = some c := by
    unfold PF.slices_Clone_int_int app
    rw [if_pos (by unfold lim; simp; omega), bd_some, List.nil_append]
  have happ : ∀ x : Int, app c [x] = some (c ++ [x]) := fun x => by unfold app; rw [if_pos (by unfold lim; simp; omega)]
  refine calls_go (N := 39) (args := [.int .i64 V, .int .i64 u, v, .func (.func g) #[] cb]) Tryz.func84 rfl rfl rfl ?_
  refine FW.seq (FW.region ?_)
  refine FL.v (E.move (v := .func (.func g) #[] cb) rfl) ?_
  refine FL.v (E.move (v := v) rfl) ?_
  obtain ⟨s1, h1, hp⟩ := foldO_cons hp
  refine FL.call rfl rfl rfl (E.callV hg rfl (appA (A1 rfl) cb)) (hdo hJ v c hc s1 h1) ?_
  rintro e w1 ⟨rfl, H1, i1, J1⟩
  refine ⟨_, rfl, ?_⟩
  refine FL.nil (FW.seq (FW.region ?_))
  refine FL.v (E.move (v := .int .i64 u) rfl) ?_
  refine FL.v (E.assign (v := .int .i64 u) rfl) ?_
  refine FL.nil ?_
  refine FW.block ?_
  refine FW.loopG (fun m f w => ∃ (u' : Int) (t : σ) (H2 : GH), m ≤ n ∧ 1 ≤ u' ∧ u' + m = V + 1 ∧ J t H2 w ∧ Inc H H2 ∧ foldO step (visL m u' c) t = some s' ∧ f 0 = .int .i64 V ∧ f 2 = v ∧ f 3 = .func (.func g) #[] cb ∧ f 8 = .int .i64 u') ?_ (m := n) ⟨u, s1, H1, Nat.le_refl _, hu, hn, J1, i1, hp, rfl, rfl, rfl, rfl⟩
  clear hp h1
  rintro m f2 w2 ⟨u', t, H2, hm, hu', hn', J2, i2, hp, k0, k2, k3, k8⟩
  refine FW.seq (FW.seq (FW.region ?_))
  refine FL.v (E.move k8) ?_
  refine FL.v (E.move k0) ?_
  refine FL.v (E.leq rfl rfl) ?_
  refine FL.nil ?_
  cases m with
  | zero =>
    refine FW.condF rfl (by rw [decide_eq_false_iff_not]; omega) ?_
    refine FW.exit ?_
    cases hp
    exact ⟨.inl rfl, res0 (R := AC H (J s')) rfl ⟨rfl, H2, i2, J2⟩⟩
  | succ m =>
    refine FW.condT rfl (by rw [decide_eq_true_eq]; omega) ?_
    refine FW.skip (FW.seq (FW.block (FW.seq (FW.region ?_))))
    obtain ⟨t1, hp1, hp⟩ := foldO_app hp
    obtain ⟨t2, hp2, hp⟩ := foldO_app hp
    have w1' : wr (u' + 1) = u' + 1 := wr_of _ (by omega) (by omega)
    have w2' : wr (-u') = -u' := wr_of _ (by omega) (by omega)
    -- the literal
    have S := St.init (hsl J2)
    refine FL.v (E.move k0) ?_
    refine FL.v (E.move k8) ?_
    refine FL.v (E.add rfl rfl) ?_
    refine FL.v (E.move k2) ?_
    refine FL.call rfl rfl rfl (E.call Tryz.call62 (A1 rfl)) (w_slices_Clone_int_int S.sl v c (hc.mono i2) hclone) ?_
    rintro e w3 ⟨H3, v3, n3, c3, rfl, r3, els3⟩
    refine ⟨_, rfl, ?_⟩
    have els3 := els3.mono (up_le S.size)
    have S3 := S.join (l' := [.row 3 1 v3 n3 c3]) r3 rfl
    refine FL.v (E.move k8) ?_
    obtain ⟨v4, w4, run4, S4⟩ := S3.buildSlice (P := Tryz.prog) te84 [.int .i64 u'] (parts := #[(0, .int .i64 u')]) (cells := [.int .i64 u']) rfl (szs_cons rfl szs_nil) (fc_cons rfl fc_nil) (ones_cons rfl ones_nil) (Nat.le_of_ble_eq_true rfl)
    have els4 : Els (up w2.heap.size H3) eI 1 [.int .i64 u'] [u'] := (Els.snoc (H := (up w2.heap.size H3)) (E := eI) (k := 1) (c := [.int .i64 u']) (x := u') Els.nil rfl rfl)
    refine FL.v (E.buildSlice (B1 rfl) run4) ?_
    obtain ⟨v5, w5, n5, c5, run5, S5, els5, _⟩ := S4.appendO (P := Tryz.prog) te84 (i := 1) (j := 0) rfl els3 rfl els4 (happ u')
    have S5 : St H2 w2 H3 w5 [.row 3 1 v4 1 [.int .i64 u'], .row 3 1 v5 n5 c5] := S5
    have S5 : St H2 w2 H3 w5 [.row 3 1 v5 n5 c5] := S5.drop 0
    refine FL.v (E.append rfl rfl run5) ?_
    refine FL.v (E.move k3) ?_
    obtain ⟨H6, S6, i6, h6⟩ := S5.sealRow (i := 0) (l' := []) rfl (els5.mono upI) (by decide) rfl
    refine FL.call rfl rfl rfl (E.call Tryz.call84 (A4 rfl rfl rfl rfl)) (ih m (by omega) V (wr (u' + 1)) (c ++ [u']) v5 t t1 H6 w5 (by omega) (by omega) hV (by simp; omega) (hrun J2 S6.run) h6 (by rw [w1']; exact hp1)) ?_
    rintro e w7 ⟨rfl, H7, i7, J7⟩
    refine ⟨_, rfl, ?_⟩
    refine FL.nil (FW.region ?_)
    -- its negation
    have R := St.init (hsl J7)
    refine FL.v (E.move k0) ?_
    refine FL.v (E.move k8) ?_
    refine FL.v (E.add rfl rfl) ?_
    refine FL.v (E.move k2) ?_
    have hi7 : Inc H2 H7 := (S6.inc).tr i7
    refine FL.call rfl rfl rfl (E.call Tryz.call62 (A1 rfl)) (w_slices_Clone_int_int R.sl v c (hc.mono (i2.tr hi7)) hclone) ?_
    rintro e w8 ⟨H8, v8, n8, c8, rfl, r8, els8⟩
    refine ⟨_, rfl, ?_⟩
    have els8 := els8.mono (up_le R.size)
    have R8 := R.join (l' := [.row 3 1 v8 n8 c8]) r8 rfl
    refine FL.v (E.move k8) ?_
    refine FL.v (E.neg rfl) ?_
    obtain ⟨v9, w9, run9, R9⟩ := R8.buildSlice (P := Tryz.prog) te84 [.int .i64 (wr (-u'))] (parts := #[(0, .int .i64 (wr (-u')))]) (cells := [.int .i64 (wr (-u'))]) rfl (szs_cons rfl szs_nil) (fc_cons rfl fc_nil) (ones_cons rfl ones_nil) (Nat.le_of_ble_eq_true rfl)
    have els9 : Els (up w7.heap.size H8) eI 1 [.int .i64 (wr (-u'))] [wr (-u')] := (Els.snoc (H := (up w7.heap.size H8)) (E := eI) (k := 1) (c := [.int .i64 (wr (-u'))]) (x := wr (-u')) Els.nil rfl rfl)
    refine FL.v (E.buildSlice (B1 rfl) run9) ?_
    obtain ⟨v10, w10, n10, c10, run10, R10, els10, _⟩ := R9.appendO (P := Tryz.prog) te84 (i := 1) (j := 0) rfl els8 rfl els9 (happ _)
    have R10 : St H7 w7 H8 w10 [.row 3 1 v9 1 [.int .i64 (wr (-u'))], .row 3 1 v10 n10 c10] := R10
    have R10 : St H7 w7 H8 w10 [.row 3 1 v10 n10 c10] := R10.drop 0
    refine FL.v (E.append rfl rfl run10) ?_
    refine FL.v (E.move k3) ?_
    obtain ⟨H11, R11, i11, h11⟩ := R10.sealRow (i := 0) (l' := []) rfl (els10.mono upI) (by decide) rfl
    rw [w2'] at h11
    refine FL.call rfl rfl rfl (E.call Tryz.call84 (A4 rfl rfl rfl rfl)) (ih m (by omega) V (wr (u' + 1)) (c ++ [-u']) v10 t1 t2 H11 w10 (by omega) (by omega) hV (by simp; omega) (hrun J7 R11.run) h11 (by rw [w1']; exact hp2)) ?_
    rintro e w12 ⟨rfl, H12, i12, J12⟩
    refine ⟨_, rfl, ?_⟩
    refine FL.nil (FW.region ?_)
    refine FL.v (E.move k8) ?_
    refine FL.v (E.add rfl rfl) ?_
    refine FL.v (E.assign (v := .int .i64 (wr (u' + 1))) rfl) ?_
    refine FL.nil ?_
    exact ⟨m, Nat.lt_succ_self _, u' + 1, t2, H12, by omega, by omega, by omega, J12, (i2.tr hi7).tr ((R11.inc).tr i12), hp, k0, k2, k3, congrArg (Value.int .i64) w1'⟩
def Jspan (Ha : GH) (wa : World) (b : Nat) (H0 : GH) (s : List (List Int)) (H : GH) (w : World) : Prop := ∃ (v : Value) (n : Nat) (cs : List Value), St Ha wa H w [.box b 22 [v], .row 84 1 v n cs] ∧ Inc H0 H ∧ Els (up wa.heap.size H) (eL eI 1) 1 cs s ∧ (bl cs).Nodup
theorem Jspan_sl {Ha : GH} {wa : World} {b : Nat} {H0 : GH} {s : List (List Int)} {H : GH} {w : World} (h : Jspan Ha wa b H0 s H w) : Sl H w := let ⟨_, _, _, S, _⟩ := h; S.sl
theorem Jspan_run {Ha : GH} {wa : World} {b : Nat} {H0 : GH} {s : List (List Int)} {H H' : GH} {w w' : World} (h : Jspan Ha wa b H0 s H w) (r : Run w.heap.size H w H' w') : Jspan Ha wa b H0 s H' w' :=
  let ⟨v, n, cs, S, i, e, d⟩ := h; ⟨v, n, cs, S.call r, i.tr r.inc, e.mono (up_mono r.inc), d⟩

theorem OP_one {A : Type} {R : Addr → A → Prop} {v : Value} {r : Option A} (h : OP R v r) : v.oneCell' = true := by
  cases r with
  | none => obtain rfl := h; rfl
  | some y => obtain ⟨q, rfl, _⟩ := h; rfl
theorem OP_cells {A : Type} {R : Addr → A → Prop} {v : Value} {r : Option A} (h : OP R v r) : v.cells = #[v] := by
  cases r with
  | none => obtain rfl := h; rfl
  | some y => obtain ⟨q, rfl, _⟩ := h; rfl

@[reducible] def p_impl_ClausesInSpan (Ha : GH) (wa : World) (r : ((List (List Int)) × Bool)) : Ending → World → Prop :=
  fun e w' => ∃ H' : GH, ∃ v0 : Value, ∃ n0 : Nat, ∃ c0 : List Value, e = .returned (Value.tuple #[v0, Value.bool r.2]) ∧ St Ha wa H' w' [.row 84 1 v0 n0 c0] ∧ Els (up wa.heap.size H') (eL eI 1) 1 c0 r.1 ∧ (bl c0).Nodup
set_option maxHeartbeats 4000000 in
theorem w_impl_ClausesInSpan {Ha : GH} {wa : World} (hs : Sl Ha wa) (a0 : Int) (a1 : Cnf) (v1_1 : Value) (p1_1 : RSl Ha (eL eI 1) 1 v1_1 a1.clauses) (a2 : Int) {r : ((List (List Int)) × Bool)} (hp : (PF.impl_ClausesInSpan a0 a1 a2) = some r) :
    Calls Tryz.prog 41 #[Value.int .i64 a0, Value.agg #[Value.int .i64 a1.vars, v1_1], Value.int .i64 a2] wa (p_impl_ClausesInSpan Ha wa r) := by
  unfold PF.impl_ClausesInSpan at hp
  have S0 := St.init hs
  refine calls_go (N := 34) (args := [Value.int .i64 a0, Value.agg #[Value.int .i64 a1.vars, v1_1], Value.int .i64 a2]) Tryz.func41 rfl rfl rfl ?_
  refine FW.seq (FW.region ?_)
  obtain ⟨b21, w22, run23, S24⟩ := S0.box (P := Tryz.prog) 30 [Value.int .i64 a1.vars, v1_1] (v := Value.agg #[Value.int .i64 a1.vars, v1_1]) rfl (ones_cons rfl (ones_cons p1_1.one ones_nil))
  refine FL.v (E.box rfl run23) ?_
  obtain ⟨H25, S26, i27, at28⟩ := S24.sealBox (i := 0) (l' := []) rfl rfl
  obtain ⟨b29, w30, run31, S32⟩ := S26.box (P := Tryz.prog) 3 [Value.int .i64 a2] (v := Value.int .i64 a2) rfl (ones_cons rfl ones_nil)
  refine FL.v (E.box rfl run31) ?_
  obtain ⟨H33, S34, i35, at36⟩ := S32.sealBox (i := 0) (l' := []) rfl rfl
  refine FL.v (E.assign (v := Value.slice none 0 0) rfl) ?_
  refine FL.v (E.assign (v := Value.bool false) rfl) ?_
  refine FL.nil (FW.seq (FW.region ?_))
  refine FL.v (E.move (v := Value.int .i64 a0) rfl) ?_
  refine FL.v (E.load rfl (run_loadA Tryz.isAgg30 Tryz.sizeOf30 ((at28.mono i35).now S34.sl) rfl)) ?_
  refine FL.v (E.load rfl (run_load0 Tryz.isAgg3 (at36.now S34.sl) rfl)) ?_
  obtain ⟨r37, hr38, hp⟩ := bnd hp
  refine FL.call rfl rfl rfl (E.call Tryz.call83 (A3 rfl rfl rfl)) (w_impl_spanOf S34.sl a0 a1 v1_1 (p1_1.mono (i27.tr i35)) a2 hr38) ?_
  rintro e w40 ⟨H39, v43, v45, rfl, r42, h44, h46⟩
  refine ⟨_, rfl, ?_⟩
  have S41 := S34.call r42
  refine FL.v (E.move (v := Value.tuple #[v43, v45, Value.bool r37.2.2]) rfl) ?_
  refine FL.v (E.extract (i := 0) rfl rfl) ?_
  refine FL.v (E.extract (i := 1) rfl rfl) ?_
  refine FL.v (E.extract (i := 2) rfl rfl) ?_
  obtain ⟨b47, w48, run49, S50⟩ := S41.alloc (P := Tryz.prog) 127 [(Value.pointer none)] Tryz.zeroValue127 rfl (ones_cons rfl ones_nil)
  refine FL.v (E.alloc run49) ?_
  obtain ⟨b51, w52, run53, S54⟩ := S50.alloc (P := Tryz.prog) 128 [(Value.pointer none)] Tryz.zeroValue128 rfl (ones_cons rfl ones_nil)
  refine FL.v (E.alloc run53) ?_
  obtain ⟨w55, run56, S57⟩ := S54.store0 (P := Tryz.prog) (t := 127) (i := 1) (cs' := [v43]) (l' := [.box b51 128 [(Value.pointer none)], .box b47 127 [v43]]) (v := v43) (c := [v43]) rfl Tryz.sizeOf127 (OP_cells h44) rfl (ones_cons (OP_one h44) ones_nil) (Nat.le_of_ble_eq_true rfl) rfl rfl
  refine FL.act rfl rfl (E.store rfl rfl run56) ?_
  obtain ⟨H58, S59, i60, at61⟩ := S57.sealBox (i := 1) (l' := [.box b51 128 [(Value.pointer none)]]) rfl rfl
  obtain ⟨w62, run63, S64⟩ := S59.store0 (P := Tryz.prog) (t := 128) (i := 0) (cs' := [v45]) (l' := [.box b51 128 [v45]]) (v := v45) (c := [v45]) rfl Tryz.sizeOf128 (OP_cells h46) rfl (ones_cons (OP_one h46) ones_nil) (Nat.le_of_ble_eq_true rfl) rfl rfl
  refine FL.act rfl rfl (E.store rfl rfl run63) ?_
  obtain ⟨H65, S66, i67, at68⟩ := S64.sealBox (i := 0) (l' := []) rfl rfl
  refine FL.v (E.assign (v := Value.bool r37.2.2) rfl) ?_
  refine FL.nil (FW.seq (FW.seq (FW.region ?_)))
  refine FL.v (E.move (v := Value.bool r37.2.2) rfl) ?_
  refine FL.v (E.not rfl) ?_
  refine FL.v (E.move (v := Value.bool (!r37.2.2)) rfl) ?_
  refine FL.cut 4 (fun f w => ∃ H : GH, St Ha wa H w [] ∧ Inc H65 H ∧ f 4 = Value.pointer (some ⟨b21, 0, none⟩) ∧ f 5 = Value.pointer (some ⟨b29, 0, none⟩) ∧ f 8 = Value.pointer (some ⟨b47, 0, none⟩) ∧ f 9 = Value.pointer (some ⟨b51, 0, none⟩) ∧ f 26 = Value.bool (bif (!r37.2.2) then true else (decide (5 < a1.vars)))) ?_ ?_
  ·
    rcases bcase (!r37.2.2) with c75 | c75
    ·
      refine FL.skip (wF_no rfl rfl rfl c75) rfl ?_
      refine FL.skip (wF_no rfl rfl rfl c75) rfl ?_
      refine FL.skip (wF_no rfl rfl rfl c75) rfl ?_
      refine FL.v (E.pickT rfl c75 rfl) ?_
      exact FL.nil ⟨rfl, _, S66, (Inc.rfl _), rfl, rfl, rfl, rfl, (congrArg Value.bool (bifT c75).symm)⟩
    ·
      refine FL.val (wF_yes rfl rfl rfl c75) rfl rfl (E.fieldAddr tf30_0 rfl) ?_
      refine FL.val (wF_yes rfl rfl rfl c75) rfl rfl (E.load rfl (run_load1 Tryz.isAgg3 ((at28.mono (((i35.tr r42.inc).tr i60).tr i67)).now S66.sl) rfl)) ?_
      refine FL.val (wF_yes rfl rfl rfl c75) rfl rfl (E.gtr rfl rfl) ?_
      refine FL.v (E.pickF rfl c75 rfl) ?_
      exact FL.nil ⟨rfl, _, S66, (Inc.rfl _), rfl, rfl, rfl, rfl, (congrArg Value.bool (bifF c75).symm)⟩
  rintro f74 w73 ⟨H70, S71, i72, k76, k77, k78, k79, k80⟩
  refine FL.nil ?_
  rcases ifB hp with ⟨c81, hp⟩ | ⟨c81, hp⟩
  ·
    refine FW.condT k80 c81 ?_
    refine FW.seq (FW.region ?_)
    refine FL.v (E.assign (v := Value.slice none 0 0) rfl) ?_
    refine FL.v (E.assign (v := Value.bool false) rfl) ?_
    refine FL.nil ?_
    refine FW.ret ?_
    obtain rfl := Option.some.inj hp
    exact ⟨.inr rfl, res2 rfl rfl rfl ⟨_, _, _, _, rfl, (S71.nil 84 1), Els.nil, List.nodup_nil⟩⟩
  ·
    refine FW.condF k80 c81 ?_
    refine FW.skip (FW.seq (FW.region ?_))
    have S86 := S71.nil 84 1
    have els87 : Els (up wa.heap.size H70) (eL eI 1) 1 [] [] := Els.nil
    obtain ⟨b82, w83, run84, S85⟩ := S86.alloc (P := Tryz.prog) 22 [Value.slice none 0 0] Tryz.zeroValue22 rfl (ones_cons rfl ones_nil)
    refine FL.v (E.alloc run84) ?_
    refine FL.nil (FW.seq (FW.region ?_))
    refine FL.v (E.fieldAddr tf30_0 k76) ?_
    refine FL.v (E.load rfl (run_load1 Tryz.isAgg3 ((at28.mono ((((i35.tr r42.inc).tr i60).tr i67).tr i72)).now S85.sl) rfl)) ?_
    rcases ifB hp with ⟨cv, hp⟩ | ⟨cv, hp⟩
    · cases hp
    have hv0 : ¬ a1.vars < 0 := of_decide_eq_false cv
    have hv5 : a1.vars ≤ 5 := by
      have h5 := c81
      cases hr3 : r37.2.2 with
      | false => rw [hr3] at h5; cases h5
      | true => rw [hr3] at h5; have := of_decide_eq_false h5; omega
    refine FL.v (E.makeFunc A0 (A4 k77 k79 k78 rfl)) ?_
    obtain ⟨s89, hq89, hp⟩ := bnd hp
    have hcb : ∀ {s89 : List (List Int)} {H94 : GH} {w97 : World}, Jspan Ha wa b82 H70 s89 H94 w97 → ∀ (v112 : Value) (y88 : List Int), RSl H94 eI 1 v112 y88 → ∀ s114, PF.impl_ClausesInSpan_1 r37.1 r37.2.1 a2 y88 s89 = some s114 → Calls Tryz.prog 85 (#[v112] ++ #[Value.pointer (some ⟨b29, 0, none⟩), Value.pointer (some ⟨b51, 0, none⟩), Value.pointer (some ⟨b47, 0, none⟩), Value.pointer (some (⟨b82, 0, none⟩ : Addr))]) w97 (AC H94 (Jspan Ha wa b82 H70 s114)) := by
      rintro s89 H94 w97 ⟨v69, n90, cs91, S95, i96, els92, nd93⟩ v112 y88 h113 s114 hq114
      unfold PF.impl_ClausesInSpan_1 at hq114
      have hp := True.intro
      obtain ⟨R114, hR114⟩ : ∃ R114 : (List (List Int)) → Ending → World → Prop, R114 = (fun s114 e w => ∃ H : GH, ∃ v115 : Value, ∃ n116 : Nat, ∃ cs117 : List Value, e = Ending.returned (Value.tuple #[]) ∧ St Ha wa H w [.box b82 22 [v115], .row 84 1 v115 n116 cs117] ∧ Inc H94 H ∧ Els (up wa.heap.size H) (eL eI 1) 1 cs117 s114 ∧ (bl cs117).Nodup) := ⟨_, rfl⟩
      have hc114 : Calls Tryz.prog 85 #[v112, Value.pointer (some ⟨b29, 0, none⟩), Value.pointer (some ⟨b51, 0, none⟩), Value.pointer (some ⟨b47, 0, none⟩), Value.pointer (some (⟨b82, 0, none⟩ : Addr))] w97 (R114 s114) := by
        clear hp; have hp := hq114; clear hq114
        refine calls_go (N := 30) (args := [v112, Value.pointer (some ⟨b29, 0, none⟩), Value.pointer (some ⟨b51, 0, none⟩), Value.pointer (some ⟨b47, 0, none⟩), Value.pointer (some (⟨b82, 0, none⟩ : Addr))]) Tryz.func85 rfl rfl rfl ?_
        refine FW.seq (FW.seq (FW.region ?_))
        refine FL.v (E.move (v := v112) rfl) ?_
        refine FL.v (E.lenP te84 rfl h113) ?_
        refine FL.v (E.load rfl (run_load0 Tryz.isAgg3 ((at36.mono ((((r42.inc.tr i60).tr i67).tr i72).tr i96)).now S95.sl) rfl)) ?_
        refine FL.v (E.gtr rfl rfl) ?_
        refine FL.nil ?_
        rcases ifB hp with ⟨c120, hp⟩ | ⟨c120, hp⟩
        ·
          refine FW.condT rfl c120 ?_
          refine FW.ret ?_
          obtain rfl := Option.some.inj hp
          exact ⟨.inr rfl, res0 rfl (by rw [hR114]; exact ⟨_, _, _, _, rfl, S95, (Inc.rfl _), els92, nd93⟩)⟩
        ·
          refine FW.condF rfl c120 ?_
          refine FW.skip (FW.seq ?_)
          obtain ⟨y121, hy122, hp⟩ := bnd hp
          rw [hy122] at h46
          obtain ⟨q123, rfl, v124, v126, h125, ⟨c129, ns128⟩, at131⟩ := h46
          have h127 := ns128.rsl
          have nv130 : New H33 [v126] := New.of_up S34.sl h127.dom
          have h127 := h127.mono (up_le S34.size)
          have ns128 := ns128.mono (up_le S34.size)
          obtain ⟨y133, hy134, hp⟩ := bnd hp
          rw [hy134] at h44
          obtain ⟨q135, rfl, v136, v141, h139, ⟨c144, ns143⟩, at146⟩ := h44
          have h142 := ns143.rsl
          have nv145 : New H33 [v141] := New.of_up S34.sl h142.dom
          have h142 := h142.mono (up_le S34.size)
          have ns143 := ns143.mono (up_le S34.size)
          obtain ⟨r150, hr151, hp⟩ := bnd hp
          obtain ⟨s264, hq264, hp⟩ := bnd hp
          refine FW.drawB (Sl H94) (fun f w => ∃ H : GH, ∃ v160 : Value, St Ha wa H w [.box b82 22 [v69], .row 84 1 v69 n90 cs91] ∧ Inc H94 H ∧ RSl (up wa.heap.size H) eI 1 v160 s264.2 ∧ f 0 = v112 ∧ f 4 = Value.pointer (some (⟨b82, 0, none⟩ : Addr)) ∧ f 6 = v160) (by kernel_rfl) S95.sl ?_ ?_
          ·
            intro w147 r148
            have S149 := S95.call r148
            refine FB.t (i := 0) (bs 13 1) rfl (SP.nil S149.sl) rfl (fun w' hw' => (E.load rfl (run_load0 Tryz.isAgg128 ((at68.mono (i72.tr i96)).now hw') rfl))) ?_
            refine FB.t (i := 1) (bs 13 3) rfl (SP.nil S149.sl) rfl (fun w' hw' => (E.load rfl (run_load0 Tryz.isAgg127 ((at61.mono ((i67.tr i72).tr i96)).now hw') rfl))) ?_
            refine FB.t (i := 2) (bs 13 7) rfl (SP.nil S149.sl) rfl (fun w' hw' => (E.nilCheck rfl)) ?_
            refine FB.t (i := 3) (bs 13 15) rfl (SP.nil S149.sl) rfl (fun w' hw' => (E.fieldAddr tf140_0 rfl)) ?_
            refine FB.t (i := 4) (bs 13 31) rfl (SP.nil S149.sl) rfl (fun w' hw' => (E.load rfl (run_loadA Tryz.isAgg137 Tryz.sizeOf137 (((at146.mono (((i60.tr i67).tr i72).tr i96)).now hw').sub (j := 0) (n := 2) (c := [Value.int .i64 y133.ring.p, Value.int .i64 y133.ring.vars]) rfl) rfl))) ?_
            refine FB.t (i := 5) (bs 13 63) rfl (SP.nil S149.sl) rfl (fun w' hw' => (E.move (v := v112) rfl)) ?_
            refine FB.all1 (i := 6) (by kernel_rfl) ?_
            ·
              refine FC.call (l' := (bs 13 127)) rfl (by kernel_rfl) rfl rfl rfl (E.call Tryz.call87 (A2 rfl rfl)) (w_impl_ring_clause S149.sl y133.ring v112 y88 h113 hr151) ?_
              rintro e w153 ⟨H152, v156, n157, cs158, rfl, r155, els159⟩
              refine ⟨_, rfl, ?_⟩
              have els159 := els159.mono (up_le S149.size)
              have S154 := S149.join (l' := [.row 3 1 v156 n157 cs158, .box b82 22 [v69], .row 84 1 v69 n90 cs91]) r155 rfl
              refine ⟨(SP.nil (Sl.of_inc r155.run.inc S154.sl)), ?_⟩
              refine FB.all1 (i := 7) (by kernel_rfl) ?_
              ·
                obtain ⟨H259, S260, i261, h262, nv263⟩ := S154.sealRowU (i := 0) (l' := [.box b82 22 [v69], .row 84 1 v69 n90 cs91]) rfl els159 (by decide) rfl
                obtain ⟨R264, hR264⟩ : ∃ R264 : ((List Int) × (List Int)) → Ending → World → Prop, R264 = (fun s264 e w => ∃ H : GH, ∃ v265 : Value, ∃ n266 : Nat, ∃ cs267 : List Value, ∃ v269 : Value, e = Ending.returned (Value.tuple #[v269, v265]) ∧ St Ha wa H w [.box b82 22 [v69], .row 84 1 v69 n90 cs91, .row 3 1 v265 n266 cs267] ∧ Inc H259 H ∧ Els (up wa.heap.size H) eI 1 cs267 s264.1 ∧ RSl (up wa.heap.size H) eI 1 v269 s264.2) := ⟨_, rfl⟩
                have hc264 : Calls Tryz.prog 86 #[Value.pointer (some q123), v156] w153 (R264 s264) := by
                  clear hp; have hp := hq264; clear hq264
                  refine calls_go (N := 82) (args := [Value.pointer (some q123), v156]) Tryz.func86 rfl rfl rfl ?_
                  refine FW.seq (FW.region ?_)
                  refine FL.v (E.assign (v := Value.slice none 0 0) rfl) ?_
                  refine FL.v (E.assign (v := Value.slice none 0 0) rfl) ?_
                  refine FL.nil (FW.seq (FW.region ?_))
                  refine FL.v (E.move (v := Value.pointer (some q123)) rfl) ?_
                  refine FL.v (E.nilCheck rfl) ?_
                  refine FL.v (E.fieldAddr tf185_3 rfl) ?_
                  refine FL.v (E.load rfl (run_load1 Tryz.isAgg3 ((at131.mono (((((i60.tr i67).tr i72).tr i96).tr r155.run.inc).tr i261)).now S260.sl) rfl)) ?_
                  obtain ⟨xs271, hm272, hp⟩ := bnd hp
                  obtain ⟨v273, w274, n278, cs279, run275, S276, els277, hbl280⟩ := S260.makeEls (P := Tryz.prog) te132 (G := (up wa.heap.size H259)) (En := eI) (x0 := (0 : Int)) hm272 rfl (ones_cons rfl ones_nil) .i64 .i64
                  refine FL.v (E.makeSlice rfl rfl run275) ?_
                  refine FL.v (E.assign (v := v273) rfl) ?_
                  refine FL.nil (FW.seq (FW.seq (FW.region ?_)))
                  refine FL.v (E.move (v := Value.pointer (some q123)) rfl) ?_
                  refine FL.v (E.nilCheck rfl) ?_
                  refine FL.v (E.fieldAddr tf185_1 rfl) ?_
                  refine FL.v (E.load rfl (run_load1 Tryz.isAgg138 ((at131.mono (((((i60.tr i67).tr i72).tr i96).tr r155.run.inc).tr i261)).now S276.sl) rfl)) ?_
                  refine FL.v (E.lenP te138 rfl h125) ?_
                  refine FL.v (E.move (v := Value.int .i64 0) rfl) ?_
                  refine FL.nil ?_
                  obtain ⟨q282, hq, hp⟩ := bndR hp
                  refine FW.block ?_
                  refine FW.mono (FW.forL (S := ((List Int) × (List Int))) (X := Empty) (fun (i282 : Nat) (s282 : ((List Int) × (List Int))) f w => ∃ H : GH, ∃ v283 : Value, ∃ n284 : Nat, ∃ cs285 : List Value, ∃ v287 : Value, St Ha wa H w [.row 3 1 v283 n284 cs285, .box b82 22 [v69], .row 84 1 v69 n90 cs91] ∧ Inc H259 H ∧ Els (up wa.heap.size H) eI 1 cs285 s282.1 ∧ RSl (up wa.heap.size H) eI 1 v287 s282.2 ∧ f 22 = Value.int .i64 ((i282 : Nat) : Int) ∧ f 0 = Value.pointer (some q123) ∧ f 1 = v287 ∧ f 6 = v283 ∧ f 20 = v124 ∧ f 21 = Value.int .i64 (len y121.rows)) (fun (q : Rs ((List Int) × (List Int)) Empty) e f w => match q with | .go s282 => e = Exit.exit 0 ∧ (∃ H : GH, ∃ v283 : Value, ∃ n284 : Nat, ∃ cs285 : List Value, ∃ v287 : Value, St Ha wa H w [.row 3 1 v283 n284 cs285, .box b82 22 [v69], .row 84 1 v69 n90 cs91] ∧ Inc H259 H ∧ Els (up wa.heap.size H) eI 1 cs285 s282.1 ∧ RSl (up wa.heap.size H) eI 1 v287 s282.2 ∧ f 1 = v287 ∧ f 6 = v283) | .rt x => x.elim) hq ⟨_, _, _, _, _, S276, (Inc.rfl _), els277, h262, rfl, rfl, rfl, rfl, rfl, rfl⟩ ?_ ?_) ?_
                  ·
                    clear hp hq
                    rintro i282 y281 s282 f293 w292 ⟨H289, v283, n284, cs285, v287, S290, i291, els286, h288, k294, k295, k296, k297, k298, k299⟩ hx282 o471 hp
                    refine FW.seq (FW.region ?_)
                    refine FL.v (E.lssT k294 k299 (lss_len hx282)) ?_
                    refine FL.nil (FW.seq ?_)
                    refine FW.condT rfl rfl ?_
                    refine FW.skip (FW.seq (FW.block (FW.seq (FW.region ?_))))
                    refine FL.v (E.move k294) ?_
                    obtain ⟨p300, cs301, pt302, l303, at304, rel305⟩ := h125.at (ix_nat hx282)
                    obtain ⟨v306, rfl, h307⟩ := eL_open rel305
                    refine FL.v (E.indexAddr te138 k298 k294 pt302) ?_
                    refine FL.v (E.load rfl (run_load0 Tryz.isAgg132 ((at304.mono ((((((i60.tr i67).tr i72).tr i96).tr r155.run.inc).tr i261).tr i291)).now S290.sl) rfl)) ?_
                    refine FL.v (E.assign (v := Value.int .i64 ((i282 : Nat) : Int)) rfl) ?_
                    refine FL.v (E.assign (v := v306) rfl) ?_
                    refine FL.nil (FW.seq (FW.region ?_))
                    refine FL.v (E.move k296) ?_
                    refine FL.v (E.move (v := v306) rfl) ?_
                    obtain ⟨r308, hr309, hp⟩ := bnd hp
                    refine FL.call rfl rfl rfl (E.call Tryz.call143 (A1 rfl)) (w_impl_leading S290.sl v306 y281 (h307.mono ((((((i60.tr i67).tr i72).tr i96).tr r155.run.inc).tr i261).tr i291)) hr309) ?_
                    rintro e w310 ⟨rfl, r311⟩
                    refine ⟨_, rfl, ?_⟩
                    have S312 := S290.call r311
                    obtain ⟨x319, hx320, hp⟩ := bnd hp
                    obtain ⟨p313, cs314, pt315, l316, at317, rel318⟩ := h288.at hx320
                    obtain rfl := eI_open rel318
                    refine FL.v (E.indexAddr te132 rfl rfl pt315) ?_
                    refine FL.v (E.load rfl (run_load0 Tryz.isAgg3 ((at317.mono upI).now S312.sl) rfl)) ?_
                    refine FL.v (E.assign (v := Value.int .i64 x319) rfl) ?_
                    refine FL.nil (FW.seq (FW.region ?_))
                    refine FL.v (E.move (v := Value.int .i64 x319) rfl) ?_
                    refine FL.v (E.neq rfl rfl) ?_
                    refine FL.nil ?_
                    rcases ifB hp with ⟨c321, hp⟩ | ⟨c321, hp⟩
                    ·
                      refine FW.condT rfl c321 ?_
                      refine FW.seq ?_
                      obtain ⟨r325, hr326, hp⟩ := bnd hp
                      refine FW.drawB (Sl H289) (fun f w => ∃ H : GH, ∃ v335 : Value, ∃ n336 : Nat, ∃ cs337 : List Value, St Ha wa H w [.row 3 1 v283 n284 cs285, .box b82 22 [v69], .row 84 1 v69 n90 cs91, .row 3 1 v335 n336 cs337] ∧ Inc H289 H ∧ Els (up wa.heap.size H) eI 1 cs337 r325 ∧ f 0 = Value.pointer (some q123) ∧ f 1 = v335 ∧ f 6 = v283 ∧ f 7 = Value.int .i64 ((i282 : Nat) : Int) ∧ f 9 = Value.int .i64 x319 ∧ f 20 = v124 ∧ f 21 = Value.int .i64 (len y121.rows) ∧ f 22 = Value.int .i64 ((i282 : Nat) : Int)) (by kernel_rfl) S312.sl ?_ ?_
                      ·
                        intro w322 r323
                        have S324 := S312.call r323
                        refine FB.t (i := 0) (bs 15 1) rfl (SP.nil S324.sl) rfl (fun w' hw' => (E.move k295)) ?_
                        refine FB.t (i := 1) (bs 15 3) rfl (SP.nil S324.sl) rfl (fun w' hw' => (E.nilCheck rfl)) ?_
                        refine FB.t (i := 2) (bs 15 7) rfl (SP.nil S324.sl) rfl (fun w' hw' => (E.fieldAddr tf185_0 rfl)) ?_
                        refine FB.t (i := 3) (bs 15 15) rfl (SP.nil S324.sl) rfl (fun w' hw' => (E.load rfl (run_loadA Tryz.isAgg137 Tryz.sizeOf137 (((at131.mono ((((((i60.tr i67).tr i72).tr i96).tr r155.run.inc).tr i261).tr i291)).now hw').sub (j := 0) (n := 2) (c := [Value.int .i64 y121.ring.p, Value.int .i64 y121.ring.vars]) rfl) rfl))) ?_
                        refine FB.t (i := 4) (bs 15 31) rfl (SP.nil S324.sl) rfl (fun w' hw' => (E.move k296)) ?_
                        refine FB.t (i := 5) (bs 15 63) rfl (SP.nil S324.sl) rfl (fun w' hw' => (E.move (v := v306) rfl)) ?_
                        refine FB.t (i := 6) (bs 15 127) rfl (SP.nil S324.sl) rfl (fun w' hw' => (E.move k295)) ?_
                        refine FB.t (i := 7) (bs 15 255) rfl (SP.nil S324.sl) rfl (fun w' hw' => (E.nilCheck rfl)) ?_
                        refine FB.t (i := 8) (bs 15 511) rfl (SP.nil S324.sl) rfl (fun w' hw' => (E.fieldAddr tf185_0 rfl)) ?_
                        refine FB.t (i := 9) (bs 15 1023) rfl (SP.nil S324.sl) rfl (fun w' hw' => (E.fieldAddrN tf137_0 rfl rfl)) ?_
                        refine FB.t (i := 10) (bs 15 2047) rfl (SP.nil S324.sl) rfl (fun w' hw' => (E.load rfl (run_load1 Tryz.isAgg3 ((at131.mono ((((((i60.tr i67).tr i72).tr i96).tr r155.run.inc).tr i261).tr i291)).now hw') rfl))) ?_
                        refine FB.t (i := 11) (bs 15 4095) rfl (SP.nil S324.sl) rfl (fun w' hw' => (E.move (v := Value.int .i64 x319) rfl)) ?_
                        refine FB.t (i := 12) (bs 15 8191) rfl (SP.nil S324.sl) rfl (fun w' hw' => (E.sub rfl rfl)) ?_
                        refine FB.all1 (i := 13) (by kernel_rfl) ?_
                        ·
                          refine FC.call (l' := (bs 15 16383)) rfl (by kernel_rfl) rfl rfl rfl (E.call Tryz.call144 (A4 rfl rfl rfl rfl)) (w_impl_ring_plus S324.sl y121.ring v287 s282.2 (h288.mono upI) v306 y281 (h307.mono ((((((i60.tr i67).tr i72).tr i96).tr r155.run.inc).tr i261).tr i291)) (wr (y121.ring.p - x319)) hr326) ?_
                          rintro e w328 ⟨H327, v331, n332, cs333, rfl, r330, els334⟩
                          refine ⟨_, rfl, ?_⟩
                          have els334 := els334.mono (up_le S324.size)
                          have S329 := S324.join (l' := [.row 3 1 v331 n332 cs333, .row 3 1 v283 n284 cs285, .box b82 22 [v69], .row 84 1 v69 n90 cs91]) r330 rfl
                          refine ⟨(SP.nil (Sl.of_inc r330.run.inc S329.sl)), ?_⟩
                          refine FB.t (i := 14) (bs 15 32767) rfl (SP.nil (Sl.of_inc r330.run.inc S329.sl)) rfl (fun w' hw' => (E.assign (v := v331) rfl)) ?_
                          exact FB.done (by kernel_rfl) ⟨_, _, _, _, (S329.sel [1, 2, 3, 0] (by decide) rfl), r330.run.inc, els334, k295, rfl, k297, rfl, rfl, k298, k299, k294⟩
                      ·
                        rintro f343 w342 ⟨H339, v335, n336, cs337, S340, i341, els338, k344, k345, k346, k347, k348, k349, k350, k351⟩
                        refine FW.seq (FW.region ?_)
                        refine FL.v (E.move k344) ?_
                        refine FL.v (E.nilCheck rfl) ?_
                        refine FL.v (E.fieldAddr tf185_2 rfl) ?_
                        refine FL.v (E.load rfl (run_load1 Tryz.isAgg138 ((at131.mono (((((((i60.tr i67).tr i72).tr i96).tr r155.run.inc).tr i261).tr i291).tr i341)).now S340.sl) rfl)) ?_
                        refine FL.v (E.move k347) ?_
                        obtain ⟨x358, hx359, hp⟩ := bnd hp
                        obtain ⟨p352, cs353, pt354, l355, at356, rel357⟩ := h127.at hx359
                        obtain ⟨v360, rfl, h361⟩ := eL_open rel357
                        refine FL.v (E.indexAddr te138 rfl rfl pt354) ?_
                        refine FL.v (E.load rfl (run_load0 Tryz.isAgg132 ((at356.mono (upI.tr (((((((i60.tr i67).tr i72).tr i96).tr r155.run.inc).tr i261).tr i291).tr i341))).now S340.sl) rfl)) ?_
                        refine FL.v (E.lenP te132 rfl h361) ?_
                        refine FL.v (E.move (v := Value.int .i64 0) rfl) ?_
                        refine FL.nil ?_
                        obtain ⟨q363, hq, hp⟩ := bndR hp
                        refine FW.block ?_
                        refine FW.mono (FW.forL (S := (List Int)) (X := Empty) (fun (i363 : Nat) (s363 : (List Int)) f w => ∃ H : GH, ∃ v364 : Value, ∃ n365 : Nat, ∃ cs366 : List Value, St Ha wa H w [.row 3 1 v364 n365 cs366, .box b82 22 [v69], .row 84 1 v69 n90 cs91, .row 3 1 v335 n336 cs337] ∧ Inc H339 H ∧ Els (up wa.heap.size H) eI 1 cs366 s363 ∧ f 56 = Value.int .i64 ((i363 : Nat) : Int) ∧ f 0 = Value.pointer (some q123) ∧ f 1 = v335 ∧ f 6 = v364 ∧ f 9 = Value.int .i64 x319 ∧ f 20 = v124 ∧ f 21 = Value.int .i64 (len y121.rows) ∧ f 22 = Value.int .i64 ((i282 : Nat) : Int) ∧ f 54 = v360 ∧ f 55 = Value.int .i64 (len x358)) (fun (q : Rs (List Int) Empty) e f w => match q with | .go s363 => e = Exit.exit 2 ∧ (∃ H : GH, ∃ v364 : Value, ∃ n365 : Nat, ∃ cs366 : List Value, St Ha wa H w [.row 3 1 v364 n365 cs366, .box b82 22 [v69], .row 84 1 v69 n90 cs91, .row 3 1 v335 n336 cs337] ∧ Inc H339 H ∧ Els (up wa.heap.size H) eI 1 cs366 s363 ∧ f 0 = Value.pointer (some q123) ∧ f 1 = v335 ∧ f 6 = v364 ∧ f 20 = v124 ∧ f 21 = Value.int .i64 (len y121.rows) ∧ f 22 = Value.int .i64 ((i282 : Nat) : Int)) | .rt x => x.elim) hq ⟨_, _, _, _, S340, (Inc.rfl _), (els286.mono (up_mono i341)), rfl, k344, k345, k346, k348, k349, k350, k351, rfl, rfl⟩ ?_ ?_) ?_
                        ·
                          clear hp hq
                          rintro i363 y362 s363 f372 w371 ⟨H368, v364, n365, cs366, S369, i370, els367, k373, k374, k375, k376, k377, k378, k379, k380, k381, k382⟩ hx363 o439 hp
                          refine FW.seq (FW.region ?_)
                          refine FL.v (E.lssT k373 k382 (lss_len hx363)) ?_
                          refine FL.nil (FW.seq ?_)
                          refine FW.condT rfl rfl ?_
                          refine FW.skip (FW.seq (FW.block (FW.seq (FW.region ?_))))
                          refine FL.v (E.move k373) ?_
                          obtain ⟨p383, cs384, pt385, l386, at387, rel388⟩ := h361.at (ix_nat hx363)
                          obtain rfl := eI_open rel388
                          refine FL.v (E.indexAddr te132 k381 k373 pt385) ?_
                          refine FL.v (E.load rfl (run_load0 Tryz.isAgg3 ((at387.mono (upI.tr ((((((((i60.tr i67).tr i72).tr i96).tr r155.run.inc).tr i261).tr i291).tr i341).tr i370))).now S369.sl) rfl)) ?_
                          refine FL.v (E.assign (v := Value.int .i64 ((i363 : Nat) : Int)) rfl) ?_
                          refine FL.v (E.assign (v := Value.int .i64 y362) rfl) ?_
                          refine FL.nil ?_
                          obtain ⟨x398, hx399, hp⟩ := bnd hp
                          obtain ⟨u402, z401, hp⟩ := bnd hp
                          obtain ⟨x409, hx410, hp⟩ := bnd hp
                          obtain ⟨xs415, hput416, hp⟩ := bnd hp
                          refine FW.drawB (Sl H368) (fun f w => ∃ H : GH, ∃ v420 : Value, ∃ n421 : Nat, ∃ cs422 : List Value, St Ha wa H w [.row 3 1 v420 n421 cs422, .box b82 22 [v69], .row 84 1 v69 n90 cs91, .row 3 1 v335 n336 cs337] ∧ Inc H368 H ∧ Els (up wa.heap.size H) eI 1 cs422 xs415 ∧ f 0 = Value.pointer (some q123) ∧ f 1 = v335 ∧ f 6 = v420 ∧ f 9 = Value.int .i64 x319 ∧ f 20 = v124 ∧ f 21 = Value.int .i64 (len y121.rows) ∧ f 22 = Value.int .i64 ((i282 : Nat) : Int) ∧ f 54 = v360 ∧ f 55 = Value.int .i64 (len x358) ∧ f 56 = Value.int .i64 ((i363 : Nat) : Int)) (by kernel_rfl) S369.sl ?_ ?_
                          ·
                            intro w389 r390
                            have S391 := S369.call r390
                            refine FB.t (i := 0) (bs 18 1) rfl (SP.nil S391.sl) rfl (fun w' hw' => (E.move k376)) ?_
                            refine FB.t (i := 1) (bs 18 3) rfl (SP.nil S391.sl) rfl (fun w' hw' => (E.move (v := Value.int .i64 ((i363 : Nat) : Int)) rfl)) ?_
                            refine FB.t (i := 2) (bs 18 7) rfl (SP.nil S391.sl) rfl (fun w' hw' => (E.move k376)) ?_
                            refine FB.t (i := 3) (bs 18 15) rfl (SP.nil S391.sl) rfl (fun w' hw' => (E.move (v := Value.int .i64 ((i363 : Nat) : Int)) rfl)) ?_
                            obtain ⟨p392, cs393, pt394, l395, at396, rel397, hall400⟩ := S391.row_atA (i := 0) rfl els367 (by decide) hx399
                            obtain rfl := eI_open rel397
                            refine FB.t (i := 4) (bs 18 31) rfl (SP.nil S391.sl) rfl (fun w' hw' => (E.indexAddr te132 rfl rfl pt394)) ?_
                            refine FB.phase [17] (fun w' => WAt w' p392 [Value.int .i64 x398]) ?_
                            refine FB.p (i := 5) (bs 18 63) 0 [9, 15, 16, 17] rfl (SP.on (hall400 _ _ _ 0 S391 rfl) (SP.nil S391.sl)) rfl rfl (fun w' hw' => (E.load rfl (run_load0 Tryz.isAgg3 hw' rfl))) ?_
                            refine FB.t (i := 6) (bs 18 127) rfl (SP.on (hall400 _ _ _ 0 S391 rfl) (SP.nil S391.sl)) rfl (fun w' hw' => (E.move k377)) ?_
                            refine FB.t (i := 7) (bs 18 255) rfl (SP.on (hall400 _ _ _ 0 S391 rfl) (SP.nil S391.sl)) rfl (fun w' hw' => (E.move (v := Value.int .i64 y362) rfl)) ?_
                            refine FB.t (i := 8) (bs 18 511) rfl (SP.on (hall400 _ _ _ 0 S391 rfl) (SP.nil S391.sl)) rfl (fun w' hw' => (E.mul rfl rfl)) ?_
                            refine FB.t (i := 9) (bs 18 1023) rfl (SP.on (hall400 _ _ _ 0 S391 rfl) (SP.nil S391.sl)) rfl (fun w' hw' => (E.add rfl rfl)) ?_
                            refine FB.t (i := 10) (bs 18 2047) rfl (SP.on (hall400 _ _ _ 0 S391 rfl) (SP.nil S391.sl)) rfl (fun w' hw' => (E.move k374)) ?_
                            refine FB.t (i := 11) (bs 18 4095) rfl (SP.on (hall400 _ _ _ 0 S391 rfl) (SP.nil S391.sl)) rfl (fun w' hw' => (E.nilCheck rfl)) ?_
                            refine FB.t (i := 12) (bs 18 8191) rfl (SP.on (hall400 _ _ _ 0 S391 rfl) (SP.nil S391.sl)) rfl (fun w' hw' => (E.fieldAddr tf185_0 rfl)) ?_
                            refine FB.t (i := 13) (bs 18 16383) rfl (SP.on (hall400 _ _ _ 0 S391 rfl) (SP.nil S391.sl)) rfl (fun w' hw' => (E.fieldAddrN tf137_0 rfl rfl)) ?_
                            refine FB.t (i := 14) (bs 18 32767) rfl (SP.on (hall400 _ _ _ 0 S391 rfl) (SP.nil S391.sl)) rfl (fun w' hw' => (E.load rfl (run_load1 Tryz.isAgg3 ((at131.mono ((((((((i60.tr i67).tr i72).tr i96).tr r155.run.inc).tr i261).tr i291).tr i341).tr i370)).now hw') rfl))) ?_
                            refine FB.t (i := 15) (bs 18 65535) rfl (SP.on (hall400 _ _ _ 0 S391 rfl) (SP.nil S391.sl)) rfl (fun w' hw' => (E.rem rfl rfl (nz_ne z401))) ?_
                            obtain ⟨p403, cs404, pt405, l406, at407, rel408, hall411⟩ := S391.row_atA (i := 0) rfl els367 (by decide) hx410
                            obtain rfl := eI_open rel408
                            refine FB.t (i := 16) (bs 18 131071) rfl (SP.on (hall400 _ _ _ 0 S391 rfl) (SP.nil S391.sl)) rfl (fun w' hw' => (E.indexAddr te132 rfl rfl pt405)) ?_
                            refine FB.all1 (i := 17) (by kernel_rfl) ?_
                            ·
                              obtain ⟨w412, cs418, run413, S414, els417, ce419⟩ := S391.putEls (P := Tryz.prog) (t := 3) (i := 0) rfl els367 hput416 pt405 Tryz.sizeOf3 (u := Value.int .i64 ((wr (x398 + (wr (x319 * y362)))).tmod y121.ring.p)) (c := [Value.int .i64 ((wr (x398 + (wr (x319 * y362)))).tmod y121.ring.p)]) rfl rfl (ones_cons rfl ones_nil) rfl
                              have S414 : St Ha wa H368 w412 [.row 3 1 v364 n365 cs418, .box b82 22 [v69], .row 84 1 v69 n90 cs91, .row 3 1 v335 n336 cs337] := S414
                              refine FC.act (l' := (bs 18 262143)) rfl (by kernel_rfl) rfl rfl (E.store rfl rfl run413) ?_
                              refine ⟨(SP.o (SP.nil S414.sl)), ?_⟩
                              exact FB.done (by kernel_rfl) ⟨_, _, _, _, S414, (Inc.rfl _), els417, k374, k375, k376, k377, k378, k379, k380, k381, k382, k373⟩
                          ·
                            rintro f428 w427 ⟨H424, v420, n421, cs422, S425, i426, els423, k429, k430, k431, k432, k433, k434, k435, k436, k437, k438⟩
                            refine FW.region ?_
                            refine FL.v (E.add k438 rfl) ?_
                            refine FL.v (E.move (v := Value.int .i64 (wr (((i363 : Nat) : Int) + 1))) rfl) ?_
                            refine FL.nil ?_
                            obtain rfl := Option.some.inj hp
                            exact ⟨rfl, ⟨_, _, _, _, S425, (i370.tr i426), els423, (nat_succ rfl (lt_of_get hx363) (h361.mono (upI.tr (((((((((i60.tr i67).tr i72).tr i96).tr r155.run.inc).tr i261).tr i291).tr i341).tr i370).tr i426))).le), k429, k430, k431, k432, k433, k434, k435, k436, k437⟩⟩
                        ·
                          clear hp hq
                          rintro s363 f460 w459 ⟨H456, v364, n365, cs366, S457, i458, els367, k461, k462, k463, k464, k465, k466, k467, k468, k469, k470⟩
                          refine FW.seq (FW.region ?_)
                          refine FL.v (E.lss k461 k470) ?_
                          refine FL.nil (FW.seq ?_)
                          refine FW.condF rfl dlt_len ?_
                          refine FW.exit ?_
                          exact ⟨nofun, rfl, ⟨_, _, _, _, S457, i458, els367, k462, k463, k464, k466, k467, k468⟩⟩
                        ·
                          clear hq
                          intro e f444 w443 hD
                          rcases q363 with s363 | x363
                          ·
                            obtain ⟨rfl, hD⟩ := hD
                            obtain ⟨H440, v364, n365, cs366, S441, i442, els367, k445, k446, k447, k448, k449, k450⟩ := hD
                            replace hp := el_go hp
                            refine FW.region ?_
                            refine FL.v (E.add k450 rfl) ?_
                            refine FL.v (E.move (v := Value.int .i64 (wr (((i282 : Nat) : Int) + 1))) rfl) ?_
                            refine FL.nil ?_
                            obtain ⟨H451, S452, i453, h454, nv455⟩ := S441.sealRowU (i := 3) (l' := [.row 3 1 v364 n365 cs366, .box b82 22 [v69], .row 84 1 v69 n90 cs91]) rfl (els338.mono (up_mono i442)) (by decide) rfl
                            obtain rfl := Option.some.inj hp
                            exact ⟨rfl, ⟨_, _, _, _, _, S452, (((i291.tr i341).tr i442).tr i453), (els367.mono (up_mono i453)), h454, (nat_succ rfl (lt_of_get hx282) (h125.mono (((((((((i60.tr i67).tr i72).tr i96).tr r155.run.inc).tr i261).tr i291).tr i341).tr i442).tr i453)).le), k445, k446, k447, k448, k449⟩⟩
                          · exact x363.elim
                    ·
                      refine FW.condF rfl c321 ?_
                      refine FW.skip (FW.region ?_)
                      refine FL.v (E.add k294 rfl) ?_
                      refine FL.v (E.move (v := Value.int .i64 (wr (((i282 : Nat) : Int) + 1))) rfl) ?_
                      refine FL.nil ?_
                      obtain rfl := Option.some.inj hp
                      exact ⟨rfl, ⟨_, _, _, _, _, S312, i291, els286, h288, (nat_succ rfl (lt_of_get hx282) (h125.mono ((((((i60.tr i67).tr i72).tr i96).tr r155.run.inc).tr i261).tr i291)).le), k295, k296, k297, k298, k299⟩⟩
                  ·
                    clear hp hq
                    rintro s282 f483 w482 ⟨H479, v283, n284, cs285, v287, S480, i481, els286, h288, k484, k485, k486, k487, k488, k489⟩
                    refine FW.seq (FW.region ?_)
                    refine FL.v (E.lss k484 k489) ?_
                    refine FL.nil (FW.seq ?_)
                    refine FW.condF rfl dlt_len ?_
                    refine FW.exit ?_
                    exact ⟨nofun, rfl, ⟨_, _, _, _, _, S480, i481, els286, h288, k486, k487⟩⟩
                  ·
                    clear hq
                    intro e f476 w475 hD
                    rcases q282 with s282 | x282
                    ·
                      obtain ⟨rfl, hD⟩ := hD
                      obtain ⟨H472, v283, n284, cs285, v287, S473, i474, els286, h288, k477, k478⟩ := hD
                      replace hp := el_go hp
                      refine FW.seq (FW.region ?_)
                      refine FL.v (E.move k477) ?_
                      refine FL.v (E.move k478) ?_
                      refine FL.v (E.assign (v := v287) rfl) ?_
                      refine FL.v (E.assign (v := v283) rfl) ?_
                      refine FL.nil ?_
                      refine FW.ret ?_
                      obtain rfl := Option.some.inj hp
                      exact ⟨.inr rfl, res2 rfl rfl rfl (by rw [hR264]; exact ⟨_, _, _, _, _, rfl, (S473.sel [1, 2, 0] (by decide) rfl), i474, els286, h288⟩)⟩
                    · exact x282.elim
                clear hq264
                refine FC.call (l' := (bs 13 255)) rfl (by kernel_rfl) rfl rfl rfl (E.call Tryz.call86 (A2 rfl rfl)) hc264 ?_
                intro e w493 hQ264
                rw [hR264] at hQ264
                obtain ⟨H490, v265, n266, cs267, v269, rfl, S491, i492, els268, h270⟩ := hQ264
                refine ⟨_, rfl, ?_⟩
                refine ⟨(SP.nil (Sl.of_inc ((r155.run.inc.tr i261).tr i492) S491.sl)), ?_⟩
                refine FB.t (i := 8) (bs 13 511) rfl (SP.nil (Sl.of_inc ((r155.run.inc.tr i261).tr i492) S491.sl)) rfl (fun w' hw' => (E.move (v := Value.tuple #[v269, v265]) rfl)) ?_
                refine FB.t (i := 9) (bs 13 1023) rfl (SP.nil (Sl.of_inc ((r155.run.inc.tr i261).tr i492) S491.sl)) rfl (fun w' hw' => (E.extract (i := 0) rfl rfl)) ?_
                refine FB.t (i := 10) (bs 13 2047) rfl (SP.nil (Sl.of_inc ((r155.run.inc.tr i261).tr i492) S491.sl)) rfl (fun w' hw' => (E.extract (i := 1) rfl rfl)) ?_
                refine FB.t (i := 11) (bs 13 4095) rfl (SP.nil (Sl.of_inc ((r155.run.inc.tr i261).tr i492) S491.sl)) rfl (fun w' hw' => (E.assign (v := v269) rfl)) ?_
                refine FB.t (i := 12) (bs 13 8191) rfl (SP.nil (Sl.of_inc ((r155.run.inc.tr i261).tr i492) S491.sl)) rfl (fun w' hw' => (E.assign (v := v265) rfl)) ?_
                exact FB.done (by kernel_rfl) ⟨_, _, (S491.sel [0, 1] (by decide) rfl), ((r155.run.inc.tr i261).tr i492), h270, rfl, rfl, rfl⟩
          ·
            rintro f166 w165 ⟨H162, v160, S163, i164, h161, k167, k168, k169⟩
            refine FW.seq (FW.region ?_)
            refine FL.v (E.move k169) ?_
            obtain ⟨r170, hr171, hp⟩ := bnd hp
            refine FL.call rfl rfl rfl (E.call Tryz.call88 (A1 rfl)) (w_impl_dense_isZero S163.sl v160 s264.2 (h161.mono upI) hr171) ?_
            rintro e w172 ⟨rfl, r173⟩
            refine ⟨_, rfl, ?_⟩
            have S174 := S163.call r173
            refine FL.nil ?_
            rcases ifB hp with ⟨c175, hp⟩ | ⟨c175, hp⟩
            ·
              refine FW.condT rfl c175 ?_
              obtain ⟨r179, hr180, hp⟩ := bnd hp
              obtain ⟨xs201, hz202, hp⟩ := bnd hp
              refine FW.drawB (Sl H162) (fun f w => ∃ H : GH, ∃ v216 : Value, ∃ n217 : Nat, ∃ cs218 : List Value, St Ha wa H w [.box b82 22 [v216], .row 84 1 v216 n217 cs218] ∧ Inc H162 H ∧ Els (up wa.heap.size H) (eL eI 1) 1 cs218 xs201 ∧ (bl cs218).Nodup) (by kernel_rfl) S174.sl ?_ ?_
              ·
                intro w176 r177
                have S178 := S174.call r177
                refine FB.phase [5] (fun w => WAt w (⟨b82, 0, none⟩ : Addr) [v69]) ?_
                refine FB.p (i := 0) (bs 6 1) 0 [4, 5] rfl (SP.on (S178.box_now (i := 0) rfl) (SP.nil S178.sl)) rfl rfl (fun w' hw' => (E.load k168 (run_load0 Tryz.isAgg22 hw' rfl))) ?_
                refine FB.t (i := 1) (bs 6 3) rfl (SP.on (S178.box_now (i := 0) rfl) (SP.nil S178.sl)) rfl (fun w' hw' => (E.move k167)) ?_
                refine FB.all1 (i := 2) (by kernel_rfl) ?_
                ·
                  refine FC.call (l' := (bs 6 7)) rfl (by kernel_rfl) rfl rfl rfl (E.call Tryz.call62 (A1 rfl)) (w_slices_Clone_int_int S178.sl v112 y88 (h113.mono i164) hr180) ?_
                  rintro e w182 ⟨H181, v186, n187, cs188, rfl, r184, els189⟩
                  refine ⟨_, rfl, ?_⟩
                  have els189 := els189.mono (up_le S178.size)
                  have S183 := S178.join (l' := [.row 3 1 v186 n187 cs188, .box b82 22 [v69], .row 84 1 v69 n90 cs91]) r184 rfl
                  refine ⟨(SP.on (S183.box_now (i := 1) rfl) (SP.nil (Sl.of_inc r184.run.inc S183.sl))), ?_⟩
                  refine FB.all1 (i := 3) (by kernel_rfl) ?_
                  ·
                    obtain ⟨H190, S191, i192, h193, nv194⟩ := S183.sealRowU (i := 0) (l' := [.box b82 22 [v69], .row 84 1 v69 n90 cs91]) rfl els189 (by decide) rfl
                    obtain ⟨v195, w196, run197, S198⟩ := S191.buildSlice (P := Tryz.prog) te22 [v186] (parts := #[(0, v186)]) (cells := [v186]) rfl (szs_cons (cells_size h193.cells) szs_nil) (fc_cons h193.cells fc_nil) (ones_cons h193.one ones_nil) (Nat.le_of_ble_eq_true rfl)
                    have els199 : Els (up wa.heap.size H190) (eL eI 1) 1 [v186] [r179] := (Els.snoc (H := (up wa.heap.size H190)) (E := (eL eI 1)) (k := 1) (c := [v186]) (x := r179) Els.nil rfl ⟨_, rfl, h193⟩)
                    have nd200 : (bl [v186]).Nodup := by exact nd_one v186
                    refine FC.val (l' := (bs 6 15)) rfl (by kernel_rfl) rfl rfl rfl (E.buildSlice (B1 rfl) run197) ?_
                    refine ⟨(SP.on (S198.box_now (i := 1) rfl) (SP.nil (Sl.of_inc (r184.run.inc.tr i192) S198.sl))), ?_⟩
                    refine FB.all1 (i := 4) (by kernel_rfl) ?_
                    ·
                      obtain ⟨v203, w206, n204, cs205, run207, S208, els209, ce210⟩ := S198.appendO (P := Tryz.prog) te22 (i := 2) (j := 0) rfl (els92.mono (up_mono ((i164.tr r184.run.inc).tr i192))) rfl els199 hz202
                      have S208 : St Ha wa H190 w206 [.row 84 1 v195 1 [v186], .box b82 22 [v69], .row 84 1 v203 n204 cs205] := S208
                      have nd211 : (bl cs205).Nodup := by rw [ce210]; exact nd_app nd93 nd200 (Els.dom (els92.mono (upI.tr (i164.tr r184.run.inc)))) (by exact nv194)
                      have S212 : St Ha wa H190 w206 [.box b82 22 [v69], .row 84 1 v203 n204 cs205] := S208.drop 0
                      refine FC.val (l' := (bs 6 31)) rfl (by kernel_rfl) rfl rfl rfl (E.append rfl rfl run207) ?_
                      refine ⟨(SP.on (S212.box_now (i := 0) rfl) (SP.nil (Sl.of_inc (r184.run.inc.tr i192) S212.sl))), ?_⟩
                      refine FB.all1 (i := 5) (by kernel_rfl) ?_
                      ·
                        obtain ⟨w213, run214, S215⟩ := S212.store0 (P := Tryz.prog) (t := 22) (i := 0) (cs' := [v203]) (l' := [.box b82 22 [v203], .row 84 1 v203 n204 cs205]) (v := v203) (c := [v203]) rfl Tryz.sizeOf22 (Ln.cells (S212.row_ln (i := 1) rfl)) rfl (ones_cons (Ln.one (S212.row_ln (i := 1) rfl)) ones_nil) (Nat.le_of_ble_eq_true rfl) rfl rfl
                        refine FC.act (l' := (bs 6 63)) rfl (by kernel_rfl) rfl rfl (E.store k168 rfl run214) ?_
                        refine ⟨(SP.o (SP.nil (Sl.of_inc (r184.run.inc.tr i192) S215.sl))), ?_⟩
                        exact FB.done (by kernel_rfl) ⟨_, _, _, _, S215, (r184.run.inc.tr i192), els209, nd211⟩
              ·
                rintro f225 w224 ⟨H221, v216, n217, cs218, S222, i223, els219, nd220⟩
                obtain rfl := Option.some.inj hp
                exact ⟨.inl rfl, res0 rfl (by rw [hR114]; exact ⟨_, _, _, _, rfl, S222, (i164.tr i223), els219, nd220⟩)⟩
            ·
              refine FW.condF rfl c175 ?_
              refine FW.skip ?_
              obtain rfl := Option.some.inj hp
              exact ⟨.inl rfl, res0 rfl (by rw [hR114]; exact ⟨_, _, _, _, rfl, S174, i164, (els92.mono (up_mono i164)), nd93⟩)⟩
      refine hc114.mono ?_
      rintro e w hQ
      rw [hR114] at hQ
      obtain ⟨H, v, n, cs, rfl, S, i, els, nd⟩ := hQ
      exact ⟨rfl, H, i, v, n, cs, S, i96.tr i, els, nd⟩
    refine FL.call rfl rfl rfl (E.call Tryz.call84 (A4 rfl rfl rfl rfl)) (w_allC (J := (Jspan Ha wa b82 H70)) (step := PF.impl_ClausesInSpan_1 r37.1 r37.2.1 a2) (g := 85) (cb := #[Value.pointer (some ⟨b29, 0, none⟩), Value.pointer (some ⟨b51, 0, none⟩), Value.pointer (some ⟨b47, 0, none⟩), Value.pointer (some (⟨b82, 0, none⟩ : Addr))]) (fun h => Jspan_sl h) (fun h r => Jspan_run h r) Tryz.call85 hcb a1.vars.toNat a1.vars 1 [] (.slice none 0 0) [] s89 H70 w83 (by omega) (by omega) (by omega) (by simp; omega) ⟨_, _, _, S85, Inc.rfl _, els87, List.nodup_nil⟩ (RSl.nil _ _ _) hq89) ?_
    rintro e w234 ⟨rfl, H231, _, v69, n90, cs91, S232, i233, els92, nd93⟩
    refine ⟨_, rfl, ?_⟩
    refine FL.nil (FW.seq (FW.region ?_))
    refine FL.v (E.load rfl (run_load0 Tryz.isAgg22 (S232.box_now (i := 0) rfl) rfl)) ?_
    obtain ⟨r237, hr238, hp⟩ := bnd hp
    have S239 : St Ha wa H231 w234 [.row 84 1 v69 n90 cs91, .box b82 22 [v69]] := S232.front 1 rfl rfl
    refine FL.call rfl rfl rfl (E.call Tryz.call50 (A2 rfl rfl)) (w_slices_SortFunc_LLint_Lint (L := [.box b82 22 [v69]]) S239 s89 els92 nd93 (Value.func (.func 51) #[] #[]) (fun x0 x1 => PF.impl_compareClauses x0 x1) (fun H2 w2 hi2 hs2 x0 y0 z0 x1 y1 z1 r hr => ⟨51, #[], rfl, Tryz.call51, w_impl_compareClauses hs2 y0 x0 z0 y1 x1 z1  hr⟩) hr238) ?_
    rintro e w241 ⟨H240, cs244, rfl, ⟨S242, i243⟩, els245, nd246⟩
    refine ⟨_, rfl, ?_⟩
    have S242 : St Ha wa H240 w241 [.row 84 1 v69 n90 cs244, .box b82 22 [v69]] := S242
    refine FL.nil (FW.seq (FW.region ?_))
    refine FL.v (E.load rfl (run_load0 Tryz.isAgg22 (S242.box_now (i := 1) rfl) rfl)) ?_
    refine FL.v (E.assign (v := v69) rfl) ?_
    refine FL.v (E.assign (v := Value.bool true) rfl) ?_
    refine FL.nil ?_
    refine FW.ret ?_
    obtain rfl := Option.some.inj hp
    exact ⟨.inr rfl, res2 rfl rfl rfl ⟨_, _, _, _, rfl, (S242.sel [0] (by decide) rfl), els245, nd246⟩⟩

theorem w_laws_eqIntS {Ha : GH} {wa : World} (hs : Sl Ha wa) (v0 : Value) (a0 : List Int) (p0 : RSl Ha eI 1 v0 a0) (v1 : Value) (a1 : List Int) (p1 : RSl Ha eI 1 v1 a1) {r : Bool} (hp : (PF.laws_eqIntS a0 a1) = some r) :
  Calls Tryz.prog 54 #[v0, v1] wa (Sc Ha wa (Value.bool r)) := by
 unfold PF.laws_eqIntS at hp
 have S0 := St.init hs
 refine calls_go (N := 26) (args := [v0, v1]) Tryz.func54 rfl rfl rfl ?_
 refine FW.seq (FW.region ?_)
 refine FL.v (E.assign (v := Value.bool false) rfl) ?_
 refine FL.nil (FW.seq (FW.seq (FW.region ?_)))
 refine FL.v (E.move (v := v0) rfl) ?_
 refine FL.v (E.lenP te84 rfl p0) ?_
 refine FL.v (E.move (v := v1) rfl) ?_
 refine FL.v (E.lenP te84 rfl p1) ?_
 refine FL.v (E.neq rfl rfl) ?_
 refine FL.nil ?_
 rcases ifB hp with ⟨c21, hp⟩ | ⟨c21, hp⟩
 ·
  refine FW.condT rfl c21 ?_
  refine FW.seq (FW.region ?_)
  refine FL.v (E.assign (v := Value.bool false) rfl) ?_
  refine FL.nil ?_
  refine FW.ret ?_
  obtain rfl := Option.some.inj hp
  exact ⟨.inr rfl, res1 rfl rfl ⟨rfl, S0.back⟩⟩
 ·
  refine FW.condF rfl c21 ?_
  refine FW.skip (FW.seq (FW.seq (FW.region ?_)))
  refine FL.v (E.assign (v := Value.int .i64 0) rfl) ?_
  refine FL.nil ?_
  obtain ⟨q23, hq, hp⟩ := bndR hp
  refine FW.block ?_
  refine FW.mono (FW.forL (S := Unit) (X := Bool) (fun (i23 : Nat) (s23 : Unit) f w => ∃ H : GH, St Ha wa H w [] ∧ Inc Ha H ∧ f 5 = Value.int .i64 ((i23 : Nat) : Int) ∧ f 0 = v0 ∧ f 1 = v1) (fun q e f w => match q with | .go s23 => e = Exit.exit 0 ∧ (∃ H : GH, St Ha wa H w [] ∧ Inc Ha H) | .rt x => ((e = Exit.ret) ∧ (fun e f w => (e = Exit.normal ∨ e = Exit.ret) ∧ ∀ a, Fr (δ := []) 26 a f → ∃ v, (results Tryz.f54 a.tmps).run Tryz.prog w = .ok v w ∧ (Sc Ha wa (Value.bool x)) (.returned v) w) e f w)) hq ⟨_, S0, (Inc.rfl _), rfl, rfl, rfl⟩ ?_ ?_) ?_
  ·
   clear hp hq
   rintro i23 y22 s23 f55 w54 ⟨H51, S52, i53, k56, k57, k58⟩ hx23 o78 hp
   refine FW.seq (FW.seq (FW.region ?_))
   refine FL.v (E.move k56) ?_
   refine FL.v (E.move k57) ?_
   refine FL.v (E.lenP te84 rfl p0) ?_
   refine FL.v (E.lssT rfl rfl (lss_len hx23)) ?_
   refine FL.nil ?_
   refine FW.condT rfl rfl ?_
   refine FW.skip (FW.seq (FW.block (FW.seq ?_)))
   refine FW.draw (fun w' => Run w54.heap.size H51 w54 H51 w') (by kernel_rfl) (by kernel_rfl) (run_drew S52.sl) ?_
   refine FD.val rfl rfl rfl (fun w' hw' => (E.move k57)) ?_
   refine FD.val rfl rfl rfl (fun w' hw' => (E.move k56)) ?_
   obtain ⟨p60, cs61, pt62, l63, at64, rel65⟩ := p0.at (ix_nat hx23)
   obtain rfl := eI_open rel65
   refine FD.val rfl rfl rfl (fun w' hw' => (E.indexAddr te84 rfl rfl pt62)) ?_
   refine FD.val rfl rfl rfl (fun w' hw' => (E.load rfl (run_load0 Tryz.isAgg3 ((at64.mono i53).now (S52.call hw').sl) rfl))) ?_
   refine FD.val rfl rfl rfl (fun w' hw' => (E.move k58)) ?_
   refine FD.val rfl rfl rfl (fun w' hw' => (E.move k56)) ?_
   obtain ⟨x72, hx73, hp⟩ := bnd hp
   obtain ⟨p66, cs67, pt68, l69, at70, rel71⟩ := p1.at hx73
   obtain rfl := eI_open rel71
   refine FD.val rfl rfl rfl (fun w' hw' => (E.indexAddr te84 rfl rfl pt68)) ?_
   refine FD.val rfl rfl rfl (fun w' hw' => (E.load rfl (run_load0 Tryz.isAgg3 ((at70.mono i53).now (S52.call hw').sl) rfl))) ?_
   refine FD.val rfl rfl rfl (fun w' hw' => (E.neq rfl rfl)) ?_
   refine FD.nil ?_
   intro w74 r76
   have S75 := S52.call r76
   rcases ifB hp with ⟨c77, hp⟩ | ⟨c77, hp⟩
   ·
    refine FW.condT rfl c77 ?_
    refine FW.seq (FW.region ?_)
    refine FL.v (E.assign (v := Value.bool false) rfl) ?_
    refine FL.nil ?_
    refine FW.ret ?_
    obtain rfl := Option.some.inj hp
    exact ⟨nofun, rfl, ⟨.inr rfl, res1 rfl rfl ⟨rfl, S75.back⟩⟩⟩
   ·
    refine FW.condF rfl c77 ?_
    refine FW.skip (FW.region ?_)
    refine FL.v (E.move k56) ?_
    refine FL.v (E.add rfl rfl) ?_
    refine FL.v (E.assign (v := Value.int .i64 (wr (((i23 : Nat) : Int) + 1))) rfl) ?_
    refine FL.nil ?_
    obtain rfl := Option.some.inj hp
    exact ⟨rfl, ⟨_, S75, i53, (nat_succ rfl (lt_of_get hx23) (p0.mono i53).le), k57, k58⟩⟩
  ·
   clear hp hq
   rintro s23 f88 w87 ⟨H84, S85, i86, k89, k90, k91⟩
   refine FW.seq (FW.seq (FW.region ?_))
   refine FL.v (E.move k89) ?_
   refine FL.v (E.move k90) ?_
   refine FL.v (E.lenP te84 rfl p0) ?_
   refine FL.v (E.lss rfl rfl) ?_
   refine FL.nil ?_
   refine FW.condF rfl dlt_len ?_
   refine FW.exit ?_
   exact ⟨nofun, rfl, ⟨_, S85, i86⟩⟩
  ·
   clear hq
   intro e f83 w82 hD
   rcases q23 with s23 | x23
   ·
    obtain ⟨rfl, hD⟩ := hD
    obtain ⟨H79, S80, i81⟩ := hD
    replace hp := el_go hp
    refine FW.seq (FW.region ?_)
    refine FL.v (E.assign (v := Value.bool true) rfl) ?_
    refine FL.nil ?_
    refine FW.ret ?_
    obtain rfl := Option.some.inj hp
    exact ⟨.inr rfl, res1 rfl rfl ⟨rfl, S80.back⟩⟩
   ·
    obtain ⟨he, hL⟩ := hD
    replace hp := el_rt hp
    obtain rfl := Option.some.inj hp
    subst he
    exact hL

theorem w_laws_eqIntSS {Ha : GH} {wa : World} (hs : Sl Ha wa) (v0 : Value) (a0 : List (List Int)) (p0 : RSl Ha (eL eI 1) 1 v0 a0) (v1 : Value) (a1 : List (List Int)) (p1 : RSl Ha (eL eI 1) 1 v1 a1) {r : Bool} (hp : (PF.laws_eqIntSS a0 a1) = some r) :
  Calls Tryz.prog 14 #[v0, v1] wa (Sc Ha wa (Value.bool r)) := by
 unfold PF.laws_eqIntSS at hp
 have S0 := St.init hs
 refine calls_go (N := 27) (args := [v0, v1]) Tryz.func14 rfl rfl rfl ?_
 refine FW.seq (FW.region ?_)
 refine FL.v (E.assign (v := Value.bool false) rfl) ?_
 refine FL.nil (FW.seq (FW.seq (FW.region ?_)))
 refine FL.v (E.move (v := v0) rfl) ?_
 refine FL.v (E.lenP te22 rfl p0) ?_
 refine FL.v (E.move (v := v1) rfl) ?_
 refine FL.v (E.lenP te22 rfl p1) ?_
 refine FL.v (E.neq rfl rfl) ?_
 refine FL.nil ?_
 rcases ifB hp with ⟨c21, hp⟩ | ⟨c21, hp⟩
 ·
  refine FW.condT rfl c21 ?_
  refine FW.seq (FW.region ?_)
  refine FL.v (E.assign (v := Value.bool false) rfl) ?_
  refine FL.nil ?_
  refine FW.ret ?_
  obtain rfl := Option.some.inj hp
  exact ⟨.inr rfl, res1 rfl rfl ⟨rfl, S0.back⟩⟩
 ·
  refine FW.condF rfl c21 ?_
  refine FW.skip (FW.seq (FW.seq (FW.region ?_)))
  refine FL.v (E.assign (v := Value.int .i64 0) rfl) ?_
  refine FL.nil ?_
  obtain ⟨q23, hq, hp⟩ := bndR hp
  refine FW.block ?_
  refine FW.mono (FW.forL (S := Unit) (X := Bool) (fun (i23 : Nat) (s23 : Unit) f w => ∃ H : GH, St Ha wa H w [] ∧ Inc Ha H ∧ f 5 = Value.int .i64 ((i23 : Nat) : Int) ∧ f 0 = v0 ∧ f 1 = v1) (fun q e f w => match q with | .go s23 => e = Exit.exit 0 ∧ (∃ H : GH, St Ha wa H w [] ∧ Inc Ha H) | .rt x => ((e = Exit.ret) ∧ (fun e f w => (e = Exit.normal ∨ e = Exit.ret) ∧ ∀ a, Fr (δ := []) 27 a f → ∃ v, (results Tryz.f14 a.tmps).run Tryz.prog w = .ok v w ∧ (Sc Ha wa (Value.bool x)) (.returned v) w) e f w)) hq ⟨_, S0, (Inc.rfl _), rfl, rfl, rfl⟩ ?_ ?_) ?_
  ·
   clear hp hq
   rintro i23 y22 s23 f61 w60 ⟨H57, S58, i59, k62, k63, k64⟩ hx23 o90 hp
   refine FW.seq (FW.seq (FW.region ?_))
   refine FL.v (E.move k62) ?_
   refine FL.v (E.move k63) ?_
   refine FL.v (E.lenP te22 rfl p0) ?_
   refine FL.v (E.lssT rfl rfl (lss_len hx23)) ?_
   refine FL.nil ?_
   refine FW.condT rfl rfl ?_
   refine FW.skip (FW.seq (FW.block (FW.seq ?_)))
   refine FW.draw (fun w' => Run w60.heap.size H57 w60 H57 w') (by kernel_rfl) (by kernel_rfl) (run_drew S58.sl) ?_
   refine FD.val rfl rfl rfl (fun w' hw' => (E.move k63)) ?_
   refine FD.val rfl rfl rfl (fun w' hw' => (E.move k62)) ?_
   obtain ⟨p66, cs67, pt68, l69, at70, rel71⟩ := p0.at (ix_nat hx23)
   obtain ⟨v72, rfl, h73⟩ := eL_open rel71
   refine FD.val rfl rfl rfl (fun w' hw' => (E.indexAddr te22 rfl rfl pt68)) ?_
   refine FD.val rfl rfl rfl (fun w' hw' => (E.load rfl (run_load0 Tryz.isAgg84 ((at70.mono i59).now (S58.call hw').sl) rfl))) ?_
   refine FD.val rfl rfl rfl (fun w' hw' => (E.move k64)) ?_
   refine FD.val rfl rfl rfl (fun w' hw' => (E.move k62)) ?_
   obtain ⟨x80, hx81, hp⟩ := bnd hp
   obtain ⟨p74, cs75, pt76, l77, at78, rel79⟩ := p1.at hx81
   obtain ⟨v82, rfl, h83⟩ := eL_open rel79
   refine FD.val rfl rfl rfl (fun w' hw' => (E.indexAddr te22 rfl rfl pt76)) ?_
   refine FD.val rfl rfl rfl (fun w' hw' => (E.load rfl (run_load0 Tryz.isAgg84 ((at78.mono i59).now (S58.call hw').sl) rfl))) ?_
   obtain ⟨r84, hr85, hp⟩ := bnd hp
   refine FD.call rfl rfl rfl (fun w' hw' => (E.call Tryz.call54 (A2 rfl rfl))) (fun w' hw' => Calls.cls hw' (w_laws_eqIntS (S58.call hw').sl v72 y22 (h73.mono i59) v82 x80 (h83.mono i59) hr85)) ?_
   refine FD.val rfl rfl rfl (fun w' hw' => (E.not rfl)) ?_
   refine FD.nil ?_
   intro w86 r88
   have S87 := S58.call r88
   rcases ifB hp with ⟨c89, hp⟩ | ⟨c89, hp⟩
   ·
    refine FW.condT rfl c89 ?_
    refine FW.seq (FW.region ?_)
    refine FL.v (E.assign (v := Value.bool false) rfl) ?_
    refine FL.nil ?_
    refine FW.ret ?_
    obtain rfl := Option.some.inj hp
    exact ⟨nofun, rfl, ⟨.inr rfl, res1 rfl rfl ⟨rfl, S87.back⟩⟩⟩
   ·
    refine FW.condF rfl c89 ?_
    refine FW.skip (FW.region ?_)
    refine FL.v (E.move k62) ?_
    refine FL.v (E.add rfl rfl) ?_
    refine FL.v (E.assign (v := Value.int .i64 (wr (((i23 : Nat) : Int) + 1))) rfl) ?_
    refine FL.nil ?_
    obtain rfl := Option.some.inj hp
    exact ⟨rfl, ⟨_, S87, i59, (nat_succ rfl (lt_of_get hx23) (p0.mono i59).le), k63, k64⟩⟩
  ·
   clear hp hq
   rintro s23 f100 w99 ⟨H96, S97, i98, k101, k102, k103⟩
   refine FW.seq (FW.seq (FW.region ?_))
   refine FL.v (E.move k101) ?_
   refine FL.v (E.move k102) ?_
   refine FL.v (E.lenP te22 rfl p0) ?_
   refine FL.v (E.lss rfl rfl) ?_
   refine FL.nil ?_
   refine FW.condF rfl dlt_len ?_
   refine FW.exit ?_
   exact ⟨nofun, rfl, ⟨_, S97, i98⟩⟩
  ·
   clear hq
   intro e f95 w94 hD
   rcases q23 with s23 | x23
   ·
    obtain ⟨rfl, hD⟩ := hD
    obtain ⟨H91, S92, i93⟩ := hD
    replace hp := el_go hp
    refine FW.seq (FW.region ?_)
    refine FL.v (E.assign (v := Value.bool true) rfl) ?_
    refine FL.nil ?_
    refine FW.ret ?_
    obtain rfl := Option.some.inj hp
    exact ⟨.inr rfl, res1 rfl rfl ⟨rfl, S92.back⟩⟩
   ·
    obtain ⟨he, hL⟩ := hD
    replace hp := el_rt hp
    obtain rfl := Option.some.inj hp
    subst he
    exact hL

theorem w_laws_eqCnf {Ha : GH} {wa : World} (hs : Sl Ha wa) (a0 : Cnf) (v0_1 : Value) (p0_1 : RSl Ha (eL eI 1) 1 v0_1 a0.clauses) (a1 : Cnf) (v1_1 : Value) (p1_1 : RSl Ha (eL eI 1) 1 v1_1 a1.clauses) {r : Bool} (hp : (PF.laws_eqCnf a0 a1) = some r) :
  Calls Tryz.prog 15 #[Value.agg #[Value.int .i64 a0.vars, v0_1], Value.agg #[Value.int .i64 a1.vars, v1_1]] wa (Sc Ha wa (Value.bool r)) := by
 unfold PF.laws_eqCnf at hp
 have S0 := St.init hs
 refine calls_go (N := 16) (args := [Value.agg #[Value.int .i64 a0.vars, v0_1], Value.agg #[Value.int .i64 a1.vars, v1_1]]) Tryz.func15 rfl rfl rfl ?_
 refine FW.seq (FW.region ?_)
 obtain ⟨b21, w22, run23, S24⟩ := S0.box (P := Tryz.prog) 30 [Value.int .i64 a0.vars, v0_1] (v := Value.agg #[Value.int .i64 a0.vars, v0_1]) rfl (ones_cons rfl (ones_cons p0_1.one ones_nil))
 refine FL.v (E.box rfl run23) ?_
 obtain ⟨H25, S26, i27, at28⟩ := S24.sealBox (i := 0) (l' := []) rfl rfl
 obtain ⟨b29, w30, run31, S32⟩ := S26.box (P := Tryz.prog) 30 [Value.int .i64 a1.vars, v1_1] (v := Value.agg #[Value.int .i64 a1.vars, v1_1]) rfl (ones_cons rfl (ones_cons p1_1.one ones_nil))
 refine FL.v (E.box rfl run31) ?_
 obtain ⟨H33, S34, i35, at36⟩ := S32.sealBox (i := 0) (l' := []) rfl rfl
 refine FL.v (E.assign (v := Value.bool false) rfl) ?_
 refine FL.nil (FW.seq (FW.seq (FW.region ?_)))
 refine FL.v (E.fieldAddr tf30_0 rfl) ?_
 refine FL.v (E.load rfl (run_load1 Tryz.isAgg3 ((at28.mono i35).now S34.sl) rfl)) ?_
 refine FL.v (E.fieldAddr tf30_0 rfl) ?_
 refine FL.v (E.load rfl (run_load1 Tryz.isAgg3 (at36.now S34.sl) rfl)) ?_
 refine FL.v (E.neq rfl rfl) ?_
 refine FL.nil ?_
 rcases ifB hp with ⟨c37, hp⟩ | ⟨c37, hp⟩
 ·
  refine FW.condT rfl c37 ?_
  refine FW.seq (FW.region ?_)
  refine FL.v (E.assign (v := Value.bool false) rfl) ?_
  refine FL.nil ?_
  refine FW.ret ?_
  obtain rfl := Option.some.inj hp
  exact ⟨.inr rfl, res1 rfl rfl ⟨rfl, S34.back⟩⟩
 ·
  refine FW.condF rfl c37 ?_
  refine FW.skip (FW.seq (FW.seq (FW.region ?_)))
  refine FL.v (E.fieldAddr tf30_1 rfl) ?_
  refine FL.v (E.load rfl (run_load1 Tryz.isAgg22 ((at28.mono i35).now S34.sl) rfl)) ?_
  refine FL.v (E.fieldAddr tf30_1 rfl) ?_
  refine FL.v (E.load rfl (run_load1 Tryz.isAgg22 (at36.now S34.sl) rfl)) ?_
  obtain ⟨r38, hr39, hp⟩ := bnd hp
  refine FL.call rfl rfl rfl (E.call Tryz.call14 (A2 rfl rfl)) (w_laws_eqIntSS S34.sl v0_1 a0.clauses (p0_1.mono (i27.tr i35)) v1_1 a1.clauses (p1_1.mono (i27.tr i35)) hr39) ?_
  rintro e w40 ⟨rfl, r41⟩
  refine ⟨_, rfl, ?_⟩
  have S42 := S34.call r41
  refine FL.v (E.not rfl) ?_
  refine FL.nil ?_
  rcases ifB hp with ⟨c43, hp⟩ | ⟨c43, hp⟩
  ·
   refine FW.condT rfl c43 ?_
   refine FW.seq (FW.region ?_)
   refine FL.v (E.assign (v := Value.bool false) rfl) ?_
   refine FL.nil ?_
   refine FW.ret ?_
   obtain rfl := Option.some.inj hp
   exact ⟨.inr rfl, res1 rfl rfl ⟨rfl, S42.back⟩⟩
  ·
   refine FW.condF rfl c43 ?_
   refine FW.skip (FW.seq (FW.region ?_))
   refine FL.v (E.assign (v := Value.bool true) rfl) ?_
   refine FL.nil ?_
   refine FW.ret ?_
   obtain rfl := Option.some.inj hp
   exact ⟨.inr rfl, res1 rfl rfl ⟨rfl, S42.back⟩⟩

theorem w_laws_markIntS {H0 Ha : GH} {w0 wa : World} {l : List MO} (S0 : St H0 w0 Ha wa l) (hs0 : Sl H0 w0) (v0 : Value) (a0 : List Int) (p0 : RSl (up w0.heap.size Ha) eI 1 v0 a0) (a1 : Int) :
  Calls Tryz.prog 56 #[v0, Value.int .i64 a1] wa (M1 H0 w0 Ha l eI 1 v0 (PF.laws_markIntS a0 a1)) := by
 obtain ⟨c0, n0, hc0⟩ := p0.nest eI_flat (by decide)
 have hln := p0.ln
 have hle := p0.le
 refine calls_go (N := 19) (args := [v0, Value.int .i64 a1]) Tryz.func56 rfl rfl rfl ?_
 refine FW.seq (FW.region ?_)
 refine FL.v (E.assign (v := Value.int .i64 0) rfl) ?_
 refine FL.nil (FW.seq (FW.seq (FW.region ?_)))
 refine FL.v (E.assign (v := Value.int .i64 0) rfl) ?_
 refine FL.nil (FW.block ?_)
 refine FW.mono (FW.mark (F := fun y m => (m, (wr (m + 1)))) (a0 := a0) (k0 := a1) (fun (i : Nat) (xs : List Int) (k : Int) f w => ∃ (H : GH) (c : List Value), St H0 w0 H w l ∧ Nest (up w0.heap.size H) eI 1 v0 xs c ∧ bl c = bl c0 ∧ (∀ b, b ∉ bl [v0] → b ∉ bl c0 → H b = Ha b) ∧ f 0 = v0 ∧ f 1 = Value.int .i64 k ∧ f 5 = Value.int .i64 ((i : Nat) : Int)) (fun e f w => e = Exit.exit 0 ∧ ∃ (H : GH) (c : List Value), St H0 w0 H w l ∧ Nest (up w0.heap.size H) eI 1 v0 (markFrom (fun y m => (m, (wr (m + 1)))) a0 a1).1 c ∧ bl c = bl c0 ∧ (∀ b, b ∉ bl [v0] → b ∉ bl c0 → H b = Ha b) ∧ f 0 = v0 ∧ f 1 = Value.int .i64 (markFrom (fun y m => (m, (wr (m + 1)))) a0 a1).2) ⟨_, _, S0, n0, rfl, fun _ _ _ => rfl, rfl, rfl, rfl⟩ ?_ ?_) ?_
 ·
  rintro i y xs m f1 w1 ⟨H1, c1, S1, n1, hb, ho, kv, kk, kc⟩ hx hy
  obtain ⟨p, hpt, wr0, hB, hr, nd⟩ := n1.begin hy (by decide)
  have hci := eI_open hr
  have rd := wr0.opens hci
  refine FW.seq (FW.seq (FW.region ?_))
  refine FL.v (E.move kc) ?_
  refine FL.v (E.move kv) ?_
  refine FL.v (E.len te84 rfl hln) ?_
  refine FL.v (E.lssT rfl rfl (lss_len hx)) ?_
  refine FL.nil ?_
  refine FW.condT rfl rfl ?_
  refine FW.skip (FW.seq (FW.block (FW.seq (FW.region ?_))))
  refine FL.v (E.move kv) ?_
  refine FL.v (E.move kc) ?_
  refine FL.v (E.move kk) ?_
  refine FL.v (E.indexAddr te84 rfl rfl hpt) ?_
  obtain ⟨w21, H22, run24, S23, wr25, o26⟩ := rd.poke0 (P := Tryz.prog) (t := 3) (u := Value.int .i64 m) S1 hs0 hB rfl rfl rfl Tryz.sizeOf3 rfl rfl (c2 := [Value.int .i64 m]) rfl
  refine FL.act rfl rfl (E.store rfl rfl run24) ?_
  refine FL.nil (FW.region ?_)
  refine FL.v (E.move kk) ?_
  refine FL.v (E.add rfl rfl) ?_
  refine FL.v (E.assign (v := Value.int .i64 (wr (m + 1))) rfl) ?_
  refine FL.nil (FW.region ?_)
  refine FL.v (E.move kc) ?_
  refine FL.v (E.add rfl rfl) ?_
  refine FL.v (E.assign (v := Value.int .i64 (wr (((i : Nat) : Int) + 1))) rfl) ?_
  refine FL.nil ?_
  obtain ⟨c2, n2, hb2, ho2⟩ := n1.round eI_flat.loc hy (by decide) hpt wr25 (y' := m) rfl
  exact ⟨rfl, _, _, S23, n2, hb2.trans hb, fun b q1 q2 => (ho2 b q1 (by rw [hb]; exact q2)).trans (ho b q1 q2), kv, rfl, nat_succ rfl (lt_of_get hx) hle⟩
 ·
  rintro f1 w1 ⟨H1, c1, S1, n1, hb, ho, kv, kk, kc⟩
  refine FW.seq (FW.seq (FW.region ?_))
  refine FL.v (E.move kc) ?_
  refine FL.v (E.move kv) ?_
  refine FL.v (E.len te84 rfl hln) ?_
  refine FL.v (E.lss rfl rfl) ?_
  refine FL.nil ?_
  refine FW.condF rfl dlt_len ?_
  refine FW.exit ?_
  exact ⟨nofun, rfl, _, _, S1, n1, hb, ho, kv, kk⟩
 ·
  rintro e f2 w2 ⟨rfl, H2, c2, S2, n2, hb, ho, kv, kk⟩
  refine FW.seq (FW.region ?_)
  refine FL.v (E.move kk) ?_
  refine FL.v (E.assign (v := Value.int .i64 ((markFrom (fun y m => (m, (wr (m + 1)))) a0 a1).2)) rfl) ?_
  refine FL.nil ?_
  refine FW.ret ?_
  exact ⟨.inr rfl, res1 rfl rfl ⟨_, rfl, S2, n2.rsl, fun b q => ho b q (by rw [hc0]; simp)⟩⟩

theorem w_laws_markIntSS {H0 Ha : GH} {w0 wa : World} {l : List MO} (S0 : St H0 w0 Ha wa l) (hs0 : Sl H0 w0) (v0 : Value) (a0 : List (List Int)) (c0 : List Value) (n0 : Nest (up w0.heap.size Ha) (eL eI 1) 1 v0 a0 c0) (a1 : Int) :
  Calls Tryz.prog 19 #[v0, Value.int .i64 a1] wa (M2 H0 w0 Ha l (eL eI 1) 1 v0 c0 (PF.laws_markIntSS a0 a1)) := by
 have hln := n0.rsl.ln
 have hle := n0.rsl.le
 refine calls_go (N := 19) (args := [v0, Value.int .i64 a1]) Tryz.func19 rfl rfl rfl ?_
 refine FW.seq (FW.region ?_)
 refine FL.v (E.assign (v := Value.int .i64 0) rfl) ?_
 refine FL.nil (FW.seq (FW.seq (FW.region ?_)))
 refine FL.v (E.assign (v := Value.int .i64 0) rfl) ?_
 refine FL.nil (FW.block ?_)
 refine FW.mono (FW.mark (F := fun y m => ((PF.laws_markIntS y m).1, (PF.laws_markIntS y m).2)) (a0 := a0) (k0 := a1) (fun (i : Nat) (xs : List (List Int)) (k : Int) f w => ∃ (H : GH) (c : List Value), St H0 w0 H w l ∧ Nest (up w0.heap.size H) (eL eI 1) 1 v0 xs c ∧ bl c = bl c0 ∧ (∀ b, b ∉ bl [v0] → b ∉ bl c0 → H b = Ha b) ∧ f 0 = v0 ∧ f 1 = Value.int .i64 k ∧ f 5 = Value.int .i64 ((i : Nat) : Int)) (fun e f w => e = Exit.exit 0 ∧ ∃ (H : GH) (c : List Value), St H0 w0 H w l ∧ Nest (up w0.heap.size H) (eL eI 1) 1 v0 (markFrom (fun y m => ((PF.laws_markIntS y m).1, (PF.laws_markIntS y m).2)) a0 a1).1 c ∧ bl c = bl c0 ∧ (∀ b, b ∉ bl [v0] → b ∉ bl c0 → H b = Ha b) ∧ f 0 = v0 ∧ f 1 = Value.int .i64 (markFrom (fun y m => ((PF.laws_markIntS y m).1, (PF.laws_markIntS y m).2)) a0 a1).2) ⟨_, _, S0, n0, rfl, fun _ _ _ => rfl, rfl, rfl, rfl⟩ ?_ ?_) ?_
 ·
  rintro i y xs m f1 w1 ⟨H1, c1, S1, n1, hb, ho, kv, kk, kc⟩ hx hy
  obtain ⟨p, hpt, wr0, hB, hr, nd⟩ := n1.begin hy (by decide)
  obtain ⟨u0, hci, hu0⟩ := eL_open hr
  have rd := wr0.opens hci
  refine FW.seq (FW.seq (FW.region ?_))
  refine FL.v (E.move kc) ?_
  refine FL.v (E.move kv) ?_
  refine FL.v (E.len te22 rfl hln) ?_
  refine FL.v (E.lssT rfl rfl (lss_len hx)) ?_
  refine FL.nil ?_
  refine FW.condT rfl rfl ?_
  refine FW.skip (FW.seq (FW.block (FW.region ?_)))
  refine FL.v (E.move kv) ?_
  refine FL.v (E.move kc) ?_
  refine FL.v (E.indexAddr te22 rfl rfl hpt) ?_
  refine FL.v (E.load rfl (run_load0 Tryz.isAgg84 (rd.now S1.sl) rfl)) ?_
  refine FL.v (E.move kk) ?_
  refine FL.call rfl rfl rfl (E.call Tryz.call56 (A2 rfl rfl)) (w_laws_markIntS S1 hs0 u0 y hu0 m) ?_
  rintro e w22 ⟨H21, rfl, S23, h24, o25⟩
  refine ⟨_, rfl, ?_⟩
  have wr26 := rd.inner (j := 0) rfl o25
  refine FL.v (E.assign (v := Value.int .i64 ((PF.laws_markIntS y m).2)) rfl) ?_
  refine FL.nil (FW.region ?_)
  refine FL.v (E.move kc) ?_
  refine FL.v (E.add rfl rfl) ?_
  refine FL.v (E.assign (v := Value.int .i64 (wr (((i : Nat) : Int) + 1))) rfl) ?_
  refine FL.nil ?_
  obtain ⟨c2, n2, hb2, ho2⟩ := n1.round (eL_loc eI_flat) hy (by decide) hpt wr26 (y' := (PF.laws_markIntS y m).1) ⟨_, rfl, h24⟩
  exact ⟨rfl, _, _, S23, n2, hb2.trans hb, fun b q1 q2 => (ho2 b q1 (by rw [hb]; exact q2)).trans (ho b q1 q2), kv, rfl, nat_succ rfl (lt_of_get hx) hle⟩
 ·
  rintro f1 w1 ⟨H1, c1, S1, n1, hb, ho, kv, kk, kc⟩
  refine FW.seq (FW.seq (FW.region ?_))
  refine FL.v (E.move kc) ?_
  refine FL.v (E.move kv) ?_
  refine FL.v (E.len te22 rfl hln) ?_
  refine FL.v (E.lss rfl rfl) ?_
  refine FL.nil ?_
  refine FW.condF rfl dlt_len ?_
  refine FW.exit ?_
  exact ⟨nofun, rfl, _, _, S1, n1, hb, ho, kv, kk⟩
 ·
  rintro e f2 w2 ⟨rfl, H2, c2, S2, n2, hb, ho, kv, kk⟩
  refine FW.seq (FW.region ?_)
  refine FL.v (E.move kk) ?_
  refine FL.v (E.assign (v := Value.int .i64 ((markFrom (fun y m => ((PF.laws_markIntS y m).1, (PF.laws_markIntS y m).2)) a0 a1).2)) rfl) ?_
  refine FL.nil ?_
  refine FW.ret ?_
  exact ⟨.inr rfl, res1 rfl rfl ⟨_, _, rfl, S2, n2, hb, fun b q1 q2 => weak (F := fun b => b ∉ bl [v0] ∧ b ∉ bl c0) (fun b q => ho b q.1 q.2) b ⟨q1, q2⟩⟩⟩

end Go.Proofs
