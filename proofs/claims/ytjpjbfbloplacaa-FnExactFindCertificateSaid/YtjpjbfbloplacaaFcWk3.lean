/- Part of the walks and plain laws behind the claim: it proves helpers, under no condition beyond their own. -/
import Derived.Test.YtjpjbfbloplacaaFcWk2
set_option linter.unusedVariables false
set_option maxRecDepth 100000
namespace Go.Proofs
open Go.Mr Go.Pu Go.PF Go.RowKit

@[reducible] def p_impl_echelon_add (H0 : GH) (w0 : World) (Ha : GH) (L : List MO) (b0 : Nat) (r : (Bool × echelon)) : Ending → World → Prop :=
  fun e w' => ∃ H' : GH, ∃ v0_2r : Value, ∃ n0_2r : Nat, ∃ c0_2r : List Value, ∃ v0_3r : Value, ∃ n0_3r : Nat, ∃ c0_3r : List Value, e = .returned (Value.bool r.1) ∧ (St H0 w0 H' w' (.box b0 87 [Value.int .i64 r.2.ring.p, Value.int .i64 r.2.ring.vars, v0_2r, v0_3r, Value.int .i64 r.2.many] :: .row 48 1 v0_2r n0_2r c0_2r :: .row 48 1 v0_3r n0_3r c0_3r :: L) ∧ Inc Ha H') ∧ Els (up w0.heap.size H') (eL eI 1) 1 c0_2r r.2.rows ∧ (bl c0_2r).Nodup ∧ Els (up w0.heap.size H') (eL eI 1) 1 c0_3r r.2.made
set_option maxHeartbeats 4000000 in
theorem w_impl_echelon_add {H0 Ha : GH} {w0 wa : World} {L : List MO} {a0 : echelon} {b0 : Nat} {v0_2 : Value} {n0_2 : Nat} {k0_2 : List Value} {v0_3 : Value} {n0_3 : Nat} {k0_3 : List Value} (S0 : St H0 w0 Ha wa (.box b0 87 [Value.int .i64 a0.ring.p, Value.int .i64 a0.ring.vars, v0_2, v0_3, Value.int .i64 a0.many] :: .row 48 1 v0_2 n0_2 k0_2 :: .row 48 1 v0_3 n0_3 k0_3 :: L)) (p0_2 : Els (up w0.heap.size Ha) (eL eI 1) 1 k0_2 a0.rows) (d0_2 : (bl k0_2).Nodup) (p0_3 : Els (up w0.heap.size Ha) (eL eI 1) 1 k0_3 a0.made) (v1 : Value) (a1 : List Int) (p1 : RSl Ha eI 1 v1 a1) {r : (Bool × echelon)} (hp : (PF.impl_echelon_add a0 a1) = some r) :
    Calls Try.prog 47 #[Value.pointer (some (⟨b0, 0, none⟩ : Addr)), v1] wa (p_impl_echelon_add H0 w0 Ha L b0 r) := by
  unfold PF.impl_echelon_add at hp
  refine calls_go (N := 222) (args := [Value.pointer (some (⟨b0, 0, none⟩ : Addr)), v1]) Try.func47 rfl rfl rfl ?_
  refine FW.seq (FW.region ?_)
  refine FL.v (E.assign (v := Value.bool false) rfl) ?_
  refine FL.nil (FW.seq (FW.region ?_))
  refine FL.v (E.move (v := Value.pointer (some (⟨b0, 0, none⟩ : Addr))) rfl) ?_
  refine FL.v (E.move (v := v1) rfl) ?_
  obtain ⟨r21, hr22, hp⟩ := bnd hp
  have S23 : St H0 w0 Ha wa (.row 48 1 v0_3 n0_3 k0_3 :: .box b0 87 [Value.int .i64 a0.ring.p, Value.int .i64 a0.ring.vars, v0_2, v0_3, Value.int .i64 a0.many] :: .row 48 1 v0_2 n0_2 k0_2 :: L) := S0.front 2 rfl rfl
  have S24 : St H0 w0 Ha wa (.row 48 1 v0_2 n0_2 k0_2 :: .row 48 1 v0_3 n0_3 k0_3 :: .box b0 87 [Value.int .i64 a0.ring.p, Value.int .i64 a0.ring.vars, v0_2, v0_3, Value.int .i64 a0.many] :: L) := S23.front 2 rfl rfl
  have S25 : St H0 w0 Ha wa (.box b0 87 [Value.int .i64 a0.ring.p, Value.int .i64 a0.ring.vars, v0_2, v0_3, Value.int .i64 a0.many] :: .row 48 1 v0_2 n0_2 k0_2 :: .row 48 1 v0_3 n0_3 k0_3 :: L) := S24.front 2 rfl rfl
  refine FL.call rfl rfl rfl (E.call Try.call21 (A2 rfl rfl)) (w_impl_echelon_reduce (L := (L)) S25 (a0 := a0) p0_2 d0_2 p0_3 v1 a1 p1 hr22) ?_
  rintro e w27 ⟨H26, v30, v32, n33, cs34, rfl, ⟨S28, i29⟩, h31, els35⟩
  refine ⟨_, rfl, ?_⟩
  have S28 : St H0 w0 H26 w27 (.row 3 1 v32 n33 cs34 :: .box b0 87 [Value.int .i64 r21.2.2.ring.p, Value.int .i64 r21.2.2.ring.vars, v0_2, v0_3, Value.int .i64 r21.2.2.many] :: .row 48 1 v0_2 n0_2 k0_2 :: .row 48 1 v0_3 n0_3 k0_3 :: L) := S28
  refine FL.v (E.move (v := Value.tuple #[v30, v32]) rfl) ?_
  refine FL.v (E.extract (i := 0) rfl rfl) ?_
  refine FL.v (E.extract (i := 1) rfl rfl) ?_
  refine FL.v (E.assign (v := v30) rfl) ?_
  refine FL.v (E.assign (v := v32) rfl) ?_
  refine FL.nil (FW.seq (FW.region ?_))
  refine FL.v (E.move (v := v30) rfl) ?_
  obtain ⟨r36, hr37, hp⟩ := bnd hp
  refine FL.call rfl rfl rfl (E.call Try.call48 (A1 rfl)) (w_impl_leading S28.sl v30 r21.1 h31 hr37) ?_
  rintro e w38 ⟨rfl, r39⟩
  refine ⟨_, rfl, ?_⟩
  have S40 := S28.call r39
  refine FL.v (E.assign (v := Value.int .i64 r36) rfl) ?_
  refine FL.nil (FW.seq (FW.seq (FW.region ?_)))
  refine FL.v (E.move (v := Value.int .i64 r36) rfl) ?_
  refine FL.v (E.lss rfl rfl) ?_
  refine FL.nil ?_
  rcases ifB hp with ⟨c41, hp⟩ | ⟨c41, hp⟩
  ·
    refine FW.condT rfl c41 ?_
    refine FW.seq (FW.region ?_)
    refine FL.v (E.assign (v := Value.bool false) rfl) ?_
    refine FL.nil ?_
    refine FW.ret ?_
    obtain rfl := Option.some.inj hp
    exact ⟨.inr rfl, res1 rfl rfl ⟨_, _, _, _, _, _, _, rfl, ⟨(S40.selT (a := [.row 3 1 v32 n33 cs34, .box b0 87 [Value.int .i64 r21.2.2.ring.p, Value.int .i64 r21.2.2.ring.vars, v0_2, v0_3, Value.int .i64 r21.2.2.many], .row 48 1 v0_2 n0_2 k0_2, .row 48 1 v0_3 n0_3 k0_3]) (l' := [.box b0 87 [Value.int .i64 r21.2.2.ring.p, Value.int .i64 r21.2.2.ring.vars, v0_2, v0_3, Value.int .i64 r21.2.2.many], .row 48 1 v0_2 n0_2 k0_2, .row 48 1 v0_3 n0_3 k0_3]) [1, 2, 3] (by decide) rfl), i29⟩, (p0_2.mono (up_mono i29)), d0_2, (p0_3.mono (up_mono i29))⟩⟩
  ·
    refine FW.condF rfl c41 ?_
    refine FW.skip (FW.seq ?_)
    refine FW.draw (fun w' => Run w38.heap.size H26 w38 H26 w') (by kernel_rfl) (by kernel_rfl) (run_drew S40.sl) ?_
    refine FD.val rfl rfl rfl (fun w' hw' => (E.move (v := Value.pointer (some (⟨b0, 0, none⟩ : Addr))) rfl)) ?_
    refine FD.val rfl rfl rfl (fun w' hw' => (E.nilCheck rfl)) ?_
    refine FD.val rfl rfl rfl (fun w' hw' => (E.fieldAddr tf87_0 rfl)) ?_
    refine FD.val rfl rfl rfl (fun w' hw' => (E.load rfl (run_loadA Try.isAgg53 Try.sizeOf53 (((S40.call hw').box_now (i := 1) rfl).sub (j := 0) (n := 2) (c := [Value.int .i64 r21.2.2.ring.p, Value.int .i64 r21.2.2.ring.vars]) rfl) rfl))) ?_
    refine FD.val rfl rfl rfl (fun w' hw' => (E.move (v := v30) rfl)) ?_
    refine FD.val rfl rfl rfl (fun w' hw' => (E.move (v := Value.int .i64 r36) rfl)) ?_
    obtain ⟨x49, hx50, hp⟩ := bnd hp
    obtain ⟨p43, cs44, pt45, l46, at47, rel48⟩ := h31.at hx50
    obtain rfl := eI_open rel48
    refine FD.val rfl rfl rfl (fun w' hw' => (E.indexAddr te48 rfl rfl pt45)) ?_
    refine FD.val rfl rfl rfl (fun w' hw' => (E.load rfl (run_load0 Try.isAgg3 (at47.now (S40.call hw').sl) rfl))) ?_
    obtain ⟨r51, hr52, hp⟩ := bnd hp
    refine FD.call rfl rfl rfl (fun w' hw' => (E.call Try.call63 (A2 rfl rfl))) (fun w' hw' => Calls.cls hw' (w_impl_ring_inverse (S40.call hw').sl r21.2.2.ring x49 hr52)) ?_
    refine FD.val rfl rfl rfl (fun w' hw' => (E.assign (v := Value.int .i64 r51) rfl)) ?_
    refine FD.nil ?_
    intro w53 r55
    have S54 := S40.call r55
    refine FW.seq ?_
    obtain ⟨r42, hr59, hp⟩ := bnd hp
    obtain ⟨r73, hr74, hp⟩ := bnd hp
    refine FW.drawB (SX H0 w0 H26 (.box b0 87 [Value.int .i64 r21.2.2.ring.p, Value.int .i64 r21.2.2.ring.vars, v0_2, v0_3, Value.int .i64 r21.2.2.many] :: L)) (fun f w => ∃ H : GH, ∃ v85 : Value, ∃ n86 : Nat, ∃ cs88 : List Value, St H0 w0 H w (.row 3 1 v32 n33 cs34 :: .box b0 87 [Value.int .i64 r21.2.2.ring.p, Value.int .i64 r21.2.2.ring.vars, v0_2, v0_3, Value.int .i64 r21.2.2.many] :: .row 48 1 v0_2 n0_2 k0_2 :: .row 48 1 v0_3 n0_3 k0_3 :: .row 3 1 v85 n86 cs88 :: L) ∧ Inc H26 H ∧ Els (up w0.heap.size H) eI 1 cs88 r73 ∧ f 0 = Value.pointer (some (⟨b0, 0, none⟩ : Addr)) ∧ f 5 = v85 ∧ f 6 = v32 ∧ f 7 = Value.int .i64 r36 ∧ f 8 = Value.int .i64 r51) (by kernel_rfl) S54.sl ?_ ?_
    ·
      intro w56 r57
      have S58 := S54.call r57
      refine FB.t (i := 0) (bs 13 1) rfl (SP.nil ⟨_, (S58.selT (a := [.row 3 1 v32 n33 cs34, .box b0 87 [Value.int .i64 r21.2.2.ring.p, Value.int .i64 r21.2.2.ring.vars, v0_2, v0_3, Value.int .i64 r21.2.2.many], .row 48 1 v0_2 n0_2 k0_2, .row 48 1 v0_3 n0_3 k0_3]) (l' := [.box b0 87 [Value.int .i64 r21.2.2.ring.p, Value.int .i64 r21.2.2.ring.vars, v0_2, v0_3, Value.int .i64 r21.2.2.many]]) [1] (by decide) rfl), (Inc.rfl _)⟩) rfl (fun w' hw' => (E.move (v := Value.pointer (some (⟨b0, 0, none⟩ : Addr))) rfl)) ?_
      refine FB.t (i := 1) (bs 13 3) rfl (SP.nil ⟨_, (S58.selT (a := [.row 3 1 v32 n33 cs34, .box b0 87 [Value.int .i64 r21.2.2.ring.p, Value.int .i64 r21.2.2.ring.vars, v0_2, v0_3, Value.int .i64 r21.2.2.many], .row 48 1 v0_2 n0_2 k0_2, .row 48 1 v0_3 n0_3 k0_3]) (l' := [.box b0 87 [Value.int .i64 r21.2.2.ring.p, Value.int .i64 r21.2.2.ring.vars, v0_2, v0_3, Value.int .i64 r21.2.2.many]]) [1] (by decide) rfl), (Inc.rfl _)⟩) rfl (fun w' hw' => (E.nilCheck rfl)) ?_
      refine FB.t (i := 2) (bs 13 7) rfl (SP.nil ⟨_, (S58.selT (a := [.row 3 1 v32 n33 cs34, .box b0 87 [Value.int .i64 r21.2.2.ring.p, Value.int .i64 r21.2.2.ring.vars, v0_2, v0_3, Value.int .i64 r21.2.2.many], .row 48 1 v0_2 n0_2 k0_2, .row 48 1 v0_3 n0_3 k0_3]) (l' := [.box b0 87 [Value.int .i64 r21.2.2.ring.p, Value.int .i64 r21.2.2.ring.vars, v0_2, v0_3, Value.int .i64 r21.2.2.many]]) [1] (by decide) rfl), (Inc.rfl _)⟩) rfl (fun w' hw' => (E.fieldAddr tf87_0 rfl)) ?_
      refine FB.t (i := 3) (bs 13 15) rfl (SP.nil ⟨_, (S58.selT (a := [.row 3 1 v32 n33 cs34, .box b0 87 [Value.int .i64 r21.2.2.ring.p, Value.int .i64 r21.2.2.ring.vars, v0_2, v0_3, Value.int .i64 r21.2.2.many], .row 48 1 v0_2 n0_2 k0_2, .row 48 1 v0_3 n0_3 k0_3]) (l' := [.box b0 87 [Value.int .i64 r21.2.2.ring.p, Value.int .i64 r21.2.2.ring.vars, v0_2, v0_3, Value.int .i64 r21.2.2.many]]) [1] (by decide) rfl), (Inc.rfl _)⟩) rfl (fun w' hw' => (E.load rfl (run_loadA Try.isAgg53 Try.sizeOf53 ((SX.box_now hw' (i := 0) rfl).sub (j := 0) (n := 2) (c := [Value.int .i64 r21.2.2.ring.p, Value.int .i64 r21.2.2.ring.vars]) rfl) rfl))) ?_
      refine FB.t (i := 4) (bs 13 31) rfl (SP.nil ⟨_, (S58.selT (a := [.row 3 1 v32 n33 cs34, .box b0 87 [Value.int .i64 r21.2.2.ring.p, Value.int .i64 r21.2.2.ring.vars, v0_2, v0_3, Value.int .i64 r21.2.2.many], .row 48 1 v0_2 n0_2 k0_2, .row 48 1 v0_3 n0_3 k0_3]) (l' := [.box b0 87 [Value.int .i64 r21.2.2.ring.p, Value.int .i64 r21.2.2.ring.vars, v0_2, v0_3, Value.int .i64 r21.2.2.many]]) [1] (by decide) rfl), (Inc.rfl _)⟩) rfl (fun w' hw' => (E.move (v := Value.pointer (some (⟨b0, 0, none⟩ : Addr))) rfl)) ?_
      refine FB.t (i := 5) (bs 13 63) rfl (SP.nil ⟨_, (S58.selT (a := [.row 3 1 v32 n33 cs34, .box b0 87 [Value.int .i64 r21.2.2.ring.p, Value.int .i64 r21.2.2.ring.vars, v0_2, v0_3, Value.int .i64 r21.2.2.many], .row 48 1 v0_2 n0_2 k0_2, .row 48 1 v0_3 n0_3 k0_3]) (l' := [.box b0 87 [Value.int .i64 r21.2.2.ring.p, Value.int .i64 r21.2.2.ring.vars, v0_2, v0_3, Value.int .i64 r21.2.2.many]]) [1] (by decide) rfl), (Inc.rfl _)⟩) rfl (fun w' hw' => (E.nilCheck rfl)) ?_
      refine FB.t (i := 6) (bs 13 127) rfl (SP.nil ⟨_, (S58.selT (a := [.row 3 1 v32 n33 cs34, .box b0 87 [Value.int .i64 r21.2.2.ring.p, Value.int .i64 r21.2.2.ring.vars, v0_2, v0_3, Value.int .i64 r21.2.2.many], .row 48 1 v0_2 n0_2 k0_2, .row 48 1 v0_3 n0_3 k0_3]) (l' := [.box b0 87 [Value.int .i64 r21.2.2.ring.p, Value.int .i64 r21.2.2.ring.vars, v0_2, v0_3, Value.int .i64 r21.2.2.many]]) [1] (by decide) rfl), (Inc.rfl _)⟩) rfl (fun w' hw' => (E.fieldAddr tf87_0 rfl)) ?_
      refine FB.t (i := 7) (bs 13 255) rfl (SP.nil ⟨_, (S58.selT (a := [.row 3 1 v32 n33 cs34, .box b0 87 [Value.int .i64 r21.2.2.ring.p, Value.int .i64 r21.2.2.ring.vars, v0_2, v0_3, Value.int .i64 r21.2.2.many], .row 48 1 v0_2 n0_2 k0_2, .row 48 1 v0_3 n0_3 k0_3]) (l' := [.box b0 87 [Value.int .i64 r21.2.2.ring.p, Value.int .i64 r21.2.2.ring.vars, v0_2, v0_3, Value.int .i64 r21.2.2.many]]) [1] (by decide) rfl), (Inc.rfl _)⟩) rfl (fun w' hw' => (E.load rfl (run_loadA Try.isAgg53 Try.sizeOf53 ((SX.box_now hw' (i := 0) rfl).sub (j := 0) (n := 2) (c := [Value.int .i64 r21.2.2.ring.p, Value.int .i64 r21.2.2.ring.vars]) rfl) rfl))) ?_
      refine FB.t (i := 9) (bs 13 767) rfl (SP.nil ⟨_, (S58.selT (a := [.row 3 1 v32 n33 cs34, .box b0 87 [Value.int .i64 r21.2.2.ring.p, Value.int .i64 r21.2.2.ring.vars, v0_2, v0_3, Value.int .i64 r21.2.2.many], .row 48 1 v0_2 n0_2 k0_2, .row 48 1 v0_3 n0_3 k0_3]) (l' := [.box b0 87 [Value.int .i64 r21.2.2.ring.p, Value.int .i64 r21.2.2.ring.vars, v0_2, v0_3, Value.int .i64 r21.2.2.many]]) [1] (by decide) rfl), (Inc.rfl _)⟩) rfl (fun w' hw' => (E.move (v := v30) rfl)) ?_
      refine FB.t (i := 10) (bs 13 1791) rfl (SP.nil ⟨_, (S58.selT (a := [.row 3 1 v32 n33 cs34, .box b0 87 [Value.int .i64 r21.2.2.ring.p, Value.int .i64 r21.2.2.ring.vars, v0_2, v0_3, Value.int .i64 r21.2.2.many], .row 48 1 v0_2 n0_2 k0_2, .row 48 1 v0_3 n0_3 k0_3]) (l' := [.box b0 87 [Value.int .i64 r21.2.2.ring.p, Value.int .i64 r21.2.2.ring.vars, v0_2, v0_3, Value.int .i64 r21.2.2.many]]) [1] (by decide) rfl), (Inc.rfl _)⟩) rfl (fun w' hw' => (E.move (v := Value.int .i64 r51) rfl)) ?_
      refine FB.all1 (i := 8) (by kernel_rfl) ?_
      ·
        refine FC.call (l' := (bs 13 2047)) rfl (by kernel_rfl) rfl rfl rfl (E.call Try.call24 (A1 rfl)) (w_impl_ring_zero S58.sl r21.2.2.ring hr59) ?_
        rintro e w61 ⟨H60, v64, n65, cs66, rfl, r63, els67⟩
        refine ⟨_, rfl, ?_⟩
        have els67 := els67.mono (up_le S58.size)
        have S62 := S58.join (l' := (.row 3 1 v64 n65 cs66 :: .row 3 1 v32 n33 cs34 :: .box b0 87 [Value.int .i64 r21.2.2.ring.p, Value.int .i64 r21.2.2.ring.vars, v0_2, v0_3, Value.int .i64 r21.2.2.many] :: .row 48 1 v0_2 n0_2 k0_2 :: .row 48 1 v0_3 n0_3 k0_3 :: L)) r63 rfl
        refine ⟨(SP.nil ⟨_, (S62.selT (a := [.row 3 1 v64 n65 cs66, .row 3 1 v32 n33 cs34, .box b0 87 [Value.int .i64 r21.2.2.ring.p, Value.int .i64 r21.2.2.ring.vars, v0_2, v0_3, Value.int .i64 r21.2.2.many], .row 48 1 v0_2 n0_2 k0_2, .row 48 1 v0_3 n0_3 k0_3]) (l' := [.box b0 87 [Value.int .i64 r21.2.2.ring.p, Value.int .i64 r21.2.2.ring.vars, v0_2, v0_3, Value.int .i64 r21.2.2.many]]) [2] (by decide) rfl), r63.run.inc⟩), ?_⟩
        refine FB.all1 (i := 11) (by kernel_rfl) ?_
        ·
          obtain ⟨H68, S69, i70, h71, nv72⟩ := S62.sealRowU (i := 0) (l' := (.row 3 1 v32 n33 cs34 :: .box b0 87 [Value.int .i64 r21.2.2.ring.p, Value.int .i64 r21.2.2.ring.vars, v0_2, v0_3, Value.int .i64 r21.2.2.many] :: .row 48 1 v0_2 n0_2 k0_2 :: .row 48 1 v0_3 n0_3 k0_3 :: L)) rfl els67 (by decide) rfl
          refine FC.call (l' := (bs 13 4095)) rfl (by kernel_rfl) rfl rfl rfl (E.call Try.call25 (A4 rfl rfl rfl rfl)) (w_impl_ring_plus S69.sl r21.2.2.ring v64 r42 (h71.mono upI) v30 r21.1 (h31.mono (r63.run.inc.tr i70)) r51 hr74) ?_
          rintro e w76 ⟨H75, v81, n82, cs83, rfl, r78, els84⟩
          refine ⟨_, rfl, ?_⟩
          obtain ⟨H79, r78, hU80⟩ := St.lendX i70 S62.sl r78
          have els84 := els84.mono (hU80.tr (up_le S62.size))
          have S77 := S62.join (l' := (.row 3 1 v81 n82 cs83 :: .row 3 1 v64 n65 cs66 :: .row 3 1 v32 n33 cs34 :: .box b0 87 [Value.int .i64 r21.2.2.ring.p, Value.int .i64 r21.2.2.ring.vars, v0_2, v0_3, Value.int .i64 r21.2.2.many] :: .row 48 1 v0_2 n0_2 k0_2 :: .row 48 1 v0_3 n0_3 k0_3 :: L)) r78 rfl
          refine ⟨(SP.nil ⟨_, (S77.selT (a := [.row 3 1 v81 n82 cs83, .row 3 1 v64 n65 cs66, .row 3 1 v32 n33 cs34, .box b0 87 [Value.int .i64 r21.2.2.ring.p, Value.int .i64 r21.2.2.ring.vars, v0_2, v0_3, Value.int .i64 r21.2.2.many], .row 48 1 v0_2 n0_2 k0_2, .row 48 1 v0_3 n0_3 k0_3]) (l' := [.box b0 87 [Value.int .i64 r21.2.2.ring.p, Value.int .i64 r21.2.2.ring.vars, v0_2, v0_3, Value.int .i64 r21.2.2.many]]) [3] (by decide) rfl), (r63.run.inc.tr r78.run.inc)⟩), ?_⟩
          refine FB.t (i := 12) (bs 13 8191) rfl (SP.nil ⟨_, (S77.selT (a := [.row 3 1 v81 n82 cs83, .row 3 1 v64 n65 cs66, .row 3 1 v32 n33 cs34, .box b0 87 [Value.int .i64 r21.2.2.ring.p, Value.int .i64 r21.2.2.ring.vars, v0_2, v0_3, Value.int .i64 r21.2.2.many], .row 48 1 v0_2 n0_2 k0_2, .row 48 1 v0_3 n0_3 k0_3]) (l' := [.box b0 87 [Value.int .i64 r21.2.2.ring.p, Value.int .i64 r21.2.2.ring.vars, v0_2, v0_3, Value.int .i64 r21.2.2.many]]) [3] (by decide) rfl), (r63.run.inc.tr r78.run.inc)⟩) rfl (fun w' hw' => (E.assign (v := v81) rfl)) ?_
          exact FB.done (by kernel_rfl) ⟨_, _, _, _, (S77.selT (a := [.row 3 1 v81 n82 cs83, .row 3 1 v64 n65 cs66, .row 3 1 v32 n33 cs34, .box b0 87 [Value.int .i64 r21.2.2.ring.p, Value.int .i64 r21.2.2.ring.vars, v0_2, v0_3, Value.int .i64 r21.2.2.many], .row 48 1 v0_2 n0_2 k0_2, .row 48 1 v0_3 n0_3 k0_3]) (l' := [.row 3 1 v32 n33 cs34, .box b0 87 [Value.int .i64 r21.2.2.ring.p, Value.int .i64 r21.2.2.ring.vars, v0_2, v0_3, Value.int .i64 r21.2.2.many], .row 48 1 v0_2 n0_2 k0_2, .row 48 1 v0_3 n0_3 k0_3, .row 3 1 v81 n82 cs83]) [2, 3, 4, 5, 0] (by decide) rfl), (r63.run.inc.tr r78.run.inc), els84, rfl, rfl, rfl, rfl, rfl⟩
    ·
      rintro f94 w93 ⟨H90, v85, n86, cs88, S91, i92, els89, k95, k96, k97, k98, k99⟩
      refine FW.seq (FW.region ?_)
      refine FL.v (E.move k95) ?_
      refine FL.v (E.nilCheck rfl) ?_
      refine FL.v (E.fieldAddr tf87_3 rfl) ?_
      refine FL.v (E.load rfl (run_load1 Try.isAgg3 (S91.box_now (i := 1) rfl) rfl)) ?_
      refine FL.v (E.add rfl rfl) ?_
      obtain ⟨xs100, hm101, hp⟩ := bnd hp
      obtain ⟨v102, w103, n107, cs108, run104, S105, els106, hbl109⟩ := S91.makeEls (P := Try.prog) te48 (G := (up w0.heap.size H90)) (En := eI) (x0 := (0 : Int)) hm101 rfl (ones_cons rfl ones_nil) .i64 .i64
      refine FL.v (E.makeSlice rfl rfl run104) ?_
      refine FL.v (E.assign (v := v102) rfl) ?_
      refine FL.nil (FW.seq (FW.seq (FW.region ?_)))
      refine FL.v (E.move k97) ?_
      refine FL.v (E.lenO te48 rfl S105 (i := 1) rfl els35 (by decide)) ?_
      refine FL.v (E.move (v := Value.int .i64 0) rfl) ?_
      refine FL.nil ?_
      obtain ⟨m110, hchk111, hp⟩ := bnd hp
      obtain ⟨q111, hq, hp⟩ := bndR hp
      refine FW.block ?_
      refine FW.mono (FW.forR (S := (List Int)) (X := Empty) (fun (i111 : Nat) (s111 : (List Int)) f w => ∃ H : GH, ∃ v112 : Value, ∃ n113 : Nat, ∃ cs114 : List Value, St H0 w0 H w (.row 3 1 v112 n113 cs114 :: .row 3 1 v32 n33 cs34 :: .box b0 87 [Value.int .i64 r21.2.2.ring.p, Value.int .i64 r21.2.2.ring.vars, v0_2, v0_3, Value.int .i64 r21.2.2.many] :: .row 48 1 v0_2 n0_2 k0_2 :: .row 48 1 v0_3 n0_3 k0_3 :: .row 3 1 v85 n86 cs88 :: L) ∧ Inc H90 H ∧ Els (up w0.heap.size H) eI 1 cs114 s111 ∧ f 56 = Value.int .i64 ((i111 : Nat) : Int) ∧ f 0 = Value.pointer (some (⟨b0, 0, none⟩ : Addr)) ∧ f 5 = v85 ∧ f 7 = Value.int .i64 r36 ∧ f 8 = Value.int .i64 r51 ∧ f 9 = v112 ∧ f 54 = v32 ∧ f 55 = Value.int .i64 (len r21.2.1)) (fun (q : Rs (List Int) Empty) e f w => match q with | .go s111 => e = Exit.exit 0 ∧ (∃ H : GH, ∃ v112 : Value, ∃ n113 : Nat, ∃ cs114 : List Value, St H0 w0 H w (.row 3 1 v112 n113 cs114 :: .row 3 1 v32 n33 cs34 :: .box b0 87 [Value.int .i64 r21.2.2.ring.p, Value.int .i64 r21.2.2.ring.vars, v0_2, v0_3, Value.int .i64 r21.2.2.many] :: .row 48 1 v0_2 n0_2 k0_2 :: .row 48 1 v0_3 n0_3 k0_3 :: .row 3 1 v85 n86 cs88 :: L) ∧ Inc H90 H ∧ Els (up w0.heap.size H) eI 1 cs114 s111 ∧ f 0 = Value.pointer (some (⟨b0, 0, none⟩ : Addr)) ∧ f 5 = v85 ∧ f 7 = Value.int .i64 r36 ∧ f 8 = Value.int .i64 r51 ∧ f 9 = v112) | .rt x => x.elim) hq ⟨_, _, _, _, S105, (Inc.rfl _), els106, rfl, k95, k96, k98, k99, rfl, rfl, rfl⟩ ?_ ?_) ?_
      ·
        clear hp hq
        rintro i111 s111 f120 w119 ⟨H116, v112, n113, cs114, S117, i118, els115, k121, k122, k123, k124, k125, k126, k127, k128⟩ hi111 hj111 o176 hp
        refine FW.seq (FW.region ?_)
        refine FL.v (E.lssT k121 k128 (lss_chk hj111 hchk111)) ?_
        refine FL.nil (FW.seq ?_)
        refine FW.condT rfl rfl ?_
        refine FW.skip (FW.seq (FW.block (FW.seq (FW.region ?_))))
        refine FL.v (E.move k121) ?_
        obtain ⟨x135, hx136, hp⟩ := bnd hp
        obtain ⟨p129, cs130, pt131, l132, at133, rel134⟩ := S117.row_at (i := 1) rfl els35 (by decide) hx136
        obtain rfl := eI_open rel134
        refine FL.v (E.indexAddr te48 k127 k121 pt131) ?_
        refine FL.v (E.load rfl (run_load0 Try.isAgg3 at133 rfl)) ?_
        refine FL.v (E.assign (v := Value.int .i64 ((i111 : Nat) : Int)) rfl) ?_
        refine FL.v (E.assign (v := Value.int .i64 x135) rfl) ?_
        refine FL.nil ?_
        obtain ⟨u141, z140, hp⟩ := bnd hp
        obtain ⟨x148, hx149, hp⟩ := bnd hp
        obtain ⟨xs154, hput155, hp⟩ := bnd hp
        refine FW.drawB (SX H0 w0 H116 (.box b0 87 [Value.int .i64 r21.2.2.ring.p, Value.int .i64 r21.2.2.ring.vars, v0_2, v0_3, Value.int .i64 r21.2.2.many] :: L)) (fun f w => ∃ H : GH, ∃ v159 : Value, ∃ n160 : Nat, ∃ cs161 : List Value, St H0 w0 H w (.row 3 1 v159 n160 cs161 :: .row 3 1 v32 n33 cs34 :: .box b0 87 [Value.int .i64 r21.2.2.ring.p, Value.int .i64 r21.2.2.ring.vars, v0_2, v0_3, Value.int .i64 r21.2.2.many] :: .row 48 1 v0_2 n0_2 k0_2 :: .row 48 1 v0_3 n0_3 k0_3 :: .row 3 1 v85 n86 cs88 :: L) ∧ Inc H116 H ∧ Els (up w0.heap.size H) eI 1 cs161 xs154 ∧ f 0 = Value.pointer (some (⟨b0, 0, none⟩ : Addr)) ∧ f 5 = v85 ∧ f 7 = Value.int .i64 r36 ∧ f 8 = Value.int .i64 r51 ∧ f 9 = v159 ∧ f 54 = v32 ∧ f 55 = Value.int .i64 (len r21.2.1) ∧ f 56 = Value.int .i64 ((i111 : Nat) : Int)) (by kernel_rfl) S117.sl ?_ ?_
        ·
          intro w137 r138
          have S139 := S117.call r138
          refine FB.t (i := 0) (bs 19 1) rfl (SP.nil ⟨_, (S139.selT (a := [.row 3 1 v112 n113 cs114, .row 3 1 v32 n33 cs34, .box b0 87 [Value.int .i64 r21.2.2.ring.p, Value.int .i64 r21.2.2.ring.vars, v0_2, v0_3, Value.int .i64 r21.2.2.many], .row 48 1 v0_2 n0_2 k0_2, .row 48 1 v0_3 n0_3 k0_3, .row 3 1 v85 n86 cs88]) (l' := [.box b0 87 [Value.int .i64 r21.2.2.ring.p, Value.int .i64 r21.2.2.ring.vars, v0_2, v0_3, Value.int .i64 r21.2.2.many]]) [2] (by decide) rfl), (Inc.rfl _)⟩) rfl (fun w' hw' => (E.move k126)) ?_
          refine FB.t (i := 1) (bs 19 3) rfl (SP.nil ⟨_, (S139.selT (a := [.row 3 1 v112 n113 cs114, .row 3 1 v32 n33 cs34, .box b0 87 [Value.int .i64 r21.2.2.ring.p, Value.int .i64 r21.2.2.ring.vars, v0_2, v0_3, Value.int .i64 r21.2.2.many], .row 48 1 v0_2 n0_2 k0_2, .row 48 1 v0_3 n0_3 k0_3, .row 3 1 v85 n86 cs88]) (l' := [.box b0 87 [Value.int .i64 r21.2.2.ring.p, Value.int .i64 r21.2.2.ring.vars, v0_2, v0_3, Value.int .i64 r21.2.2.many]]) [2] (by decide) rfl), (Inc.rfl _)⟩) rfl (fun w' hw' => (E.move (v := Value.int .i64 ((i111 : Nat) : Int)) rfl)) ?_
          refine FB.t (i := 2) (bs 19 7) rfl (SP.nil ⟨_, (S139.selT (a := [.row 3 1 v112 n113 cs114, .row 3 1 v32 n33 cs34, .box b0 87 [Value.int .i64 r21.2.2.ring.p, Value.int .i64 r21.2.2.ring.vars, v0_2, v0_3, Value.int .i64 r21.2.2.many], .row 48 1 v0_2 n0_2 k0_2, .row 48 1 v0_3 n0_3 k0_3, .row 3 1 v85 n86 cs88]) (l' := [.box b0 87 [Value.int .i64 r21.2.2.ring.p, Value.int .i64 r21.2.2.ring.vars, v0_2, v0_3, Value.int .i64 r21.2.2.many]]) [2] (by decide) rfl), (Inc.rfl _)⟩) rfl (fun w' hw' => (E.move k122)) ?_
          refine FB.t (i := 3) (bs 19 15) rfl (SP.nil ⟨_, (S139.selT (a := [.row 3 1 v112 n113 cs114, .row 3 1 v32 n33 cs34, .box b0 87 [Value.int .i64 r21.2.2.ring.p, Value.int .i64 r21.2.2.ring.vars, v0_2, v0_3, Value.int .i64 r21.2.2.many], .row 48 1 v0_2 n0_2 k0_2, .row 48 1 v0_3 n0_3 k0_3, .row 3 1 v85 n86 cs88]) (l' := [.box b0 87 [Value.int .i64 r21.2.2.ring.p, Value.int .i64 r21.2.2.ring.vars, v0_2, v0_3, Value.int .i64 r21.2.2.many]]) [2] (by decide) rfl), (Inc.rfl _)⟩) rfl (fun w' hw' => (E.nilCheck rfl)) ?_
          refine FB.t (i := 4) (bs 19 31) rfl (SP.nil ⟨_, (S139.selT (a := [.row 3 1 v112 n113 cs114, .row 3 1 v32 n33 cs34, .box b0 87 [Value.int .i64 r21.2.2.ring.p, Value.int .i64 r21.2.2.ring.vars, v0_2, v0_3, Value.int .i64 r21.2.2.many], .row 48 1 v0_2 n0_2 k0_2, .row 48 1 v0_3 n0_3 k0_3, .row 3 1 v85 n86 cs88]) (l' := [.box b0 87 [Value.int .i64 r21.2.2.ring.p, Value.int .i64 r21.2.2.ring.vars, v0_2, v0_3, Value.int .i64 r21.2.2.many]]) [2] (by decide) rfl), (Inc.rfl _)⟩) rfl (fun w' hw' => (E.fieldAddr tf87_0 rfl)) ?_
          refine FB.t (i := 5) (bs 19 63) rfl (SP.nil ⟨_, (S139.selT (a := [.row 3 1 v112 n113 cs114, .row 3 1 v32 n33 cs34, .box b0 87 [Value.int .i64 r21.2.2.ring.p, Value.int .i64 r21.2.2.ring.vars, v0_2, v0_3, Value.int .i64 r21.2.2.many], .row 48 1 v0_2 n0_2 k0_2, .row 48 1 v0_3 n0_3 k0_3, .row 3 1 v85 n86 cs88]) (l' := [.box b0 87 [Value.int .i64 r21.2.2.ring.p, Value.int .i64 r21.2.2.ring.vars, v0_2, v0_3, Value.int .i64 r21.2.2.many]]) [2] (by decide) rfl), (Inc.rfl _)⟩) rfl (fun w' hw' => (E.fieldAddrN tf53_0 rfl rfl)) ?_
          refine FB.t (i := 6) (bs 19 127) rfl (SP.nil ⟨_, (S139.selT (a := [.row 3 1 v112 n113 cs114, .row 3 1 v32 n33 cs34, .box b0 87 [Value.int .i64 r21.2.2.ring.p, Value.int .i64 r21.2.2.ring.vars, v0_2, v0_3, Value.int .i64 r21.2.2.many], .row 48 1 v0_2 n0_2 k0_2, .row 48 1 v0_3 n0_3 k0_3, .row 3 1 v85 n86 cs88]) (l' := [.box b0 87 [Value.int .i64 r21.2.2.ring.p, Value.int .i64 r21.2.2.ring.vars, v0_2, v0_3, Value.int .i64 r21.2.2.many]]) [2] (by decide) rfl), (Inc.rfl _)⟩) rfl (fun w' hw' => (E.load rfl (run_load1 Try.isAgg3 (SX.box_now hw' (i := 0) rfl) rfl))) ?_
          refine FB.t (i := 7) (bs 19 255) rfl (SP.nil ⟨_, (S139.selT (a := [.row 3 1 v112 n113 cs114, .row 3 1 v32 n33 cs34, .box b0 87 [Value.int .i64 r21.2.2.ring.p, Value.int .i64 r21.2.2.ring.vars, v0_2, v0_3, Value.int .i64 r21.2.2.many], .row 48 1 v0_2 n0_2 k0_2, .row 48 1 v0_3 n0_3 k0_3, .row 3 1 v85 n86 cs88]) (l' := [.box b0 87 [Value.int .i64 r21.2.2.ring.p, Value.int .i64 r21.2.2.ring.vars, v0_2, v0_3, Value.int .i64 r21.2.2.many]]) [2] (by decide) rfl), (Inc.rfl _)⟩) rfl (fun w' hw' => (E.move (v := Value.int .i64 x135) rfl)) ?_
          refine FB.t (i := 8) (bs 19 511) rfl (SP.nil ⟨_, (S139.selT (a := [.row 3 1 v112 n113 cs114, .row 3 1 v32 n33 cs34, .box b0 87 [Value.int .i64 r21.2.2.ring.p, Value.int .i64 r21.2.2.ring.vars, v0_2, v0_3, Value.int .i64 r21.2.2.many], .row 48 1 v0_2 n0_2 k0_2, .row 48 1 v0_3 n0_3 k0_3, .row 3 1 v85 n86 cs88]) (l' := [.box b0 87 [Value.int .i64 r21.2.2.ring.p, Value.int .i64 r21.2.2.ring.vars, v0_2, v0_3, Value.int .i64 r21.2.2.many]]) [2] (by decide) rfl), (Inc.rfl _)⟩) rfl (fun w' hw' => (E.sub rfl rfl)) ?_
          refine FB.t (i := 9) (bs 19 1023) rfl (SP.nil ⟨_, (S139.selT (a := [.row 3 1 v112 n113 cs114, .row 3 1 v32 n33 cs34, .box b0 87 [Value.int .i64 r21.2.2.ring.p, Value.int .i64 r21.2.2.ring.vars, v0_2, v0_3, Value.int .i64 r21.2.2.many], .row 48 1 v0_2 n0_2 k0_2, .row 48 1 v0_3 n0_3 k0_3, .row 3 1 v85 n86 cs88]) (l' := [.box b0 87 [Value.int .i64 r21.2.2.ring.p, Value.int .i64 r21.2.2.ring.vars, v0_2, v0_3, Value.int .i64 r21.2.2.many]]) [2] (by decide) rfl), (Inc.rfl _)⟩) rfl (fun w' hw' => (E.move k125)) ?_
          refine FB.t (i := 10) (bs 19 2047) rfl (SP.nil ⟨_, (S139.selT (a := [.row 3 1 v112 n113 cs114, .row 3 1 v32 n33 cs34, .box b0 87 [Value.int .i64 r21.2.2.ring.p, Value.int .i64 r21.2.2.ring.vars, v0_2, v0_3, Value.int .i64 r21.2.2.many], .row 48 1 v0_2 n0_2 k0_2, .row 48 1 v0_3 n0_3 k0_3, .row 3 1 v85 n86 cs88]) (l' := [.box b0 87 [Value.int .i64 r21.2.2.ring.p, Value.int .i64 r21.2.2.ring.vars, v0_2, v0_3, Value.int .i64 r21.2.2.many]]) [2] (by decide) rfl), (Inc.rfl _)⟩) rfl (fun w' hw' => (E.mul rfl rfl)) ?_
          refine FB.t (i := 11) (bs 19 4095) rfl (SP.nil ⟨_, (S139.selT (a := [.row 3 1 v112 n113 cs114, .row 3 1 v32 n33 cs34, .box b0 87 [Value.int .i64 r21.2.2.ring.p, Value.int .i64 r21.2.2.ring.vars, v0_2, v0_3, Value.int .i64 r21.2.2.many], .row 48 1 v0_2 n0_2 k0_2, .row 48 1 v0_3 n0_3 k0_3, .row 3 1 v85 n86 cs88]) (l' := [.box b0 87 [Value.int .i64 r21.2.2.ring.p, Value.int .i64 r21.2.2.ring.vars, v0_2, v0_3, Value.int .i64 r21.2.2.many]]) [2] (by decide) rfl), (Inc.rfl _)⟩) rfl (fun w' hw' => (E.move k122)) ?_
          refine FB.t (i := 12) (bs 19 8191) rfl (SP.nil ⟨_, (S139.selT (a := [.row 3 1 v112 n113 cs114, .row 3 1 v32 n33 cs34, .box b0 87 [Value.int .i64 r21.2.2.ring.p, Value.int .i64 r21.2.2.ring.vars, v0_2, v0_3, Value.int .i64 r21.2.2.many], .row 48 1 v0_2 n0_2 k0_2, .row 48 1 v0_3 n0_3 k0_3, .row 3 1 v85 n86 cs88]) (l' := [.box b0 87 [Value.int .i64 r21.2.2.ring.p, Value.int .i64 r21.2.2.ring.vars, v0_2, v0_3, Value.int .i64 r21.2.2.many]]) [2] (by decide) rfl), (Inc.rfl _)⟩) rfl (fun w' hw' => (E.nilCheck rfl)) ?_
          refine FB.t (i := 13) (bs 19 16383) rfl (SP.nil ⟨_, (S139.selT (a := [.row 3 1 v112 n113 cs114, .row 3 1 v32 n33 cs34, .box b0 87 [Value.int .i64 r21.2.2.ring.p, Value.int .i64 r21.2.2.ring.vars, v0_2, v0_3, Value.int .i64 r21.2.2.many], .row 48 1 v0_2 n0_2 k0_2, .row 48 1 v0_3 n0_3 k0_3, .row 3 1 v85 n86 cs88]) (l' := [.box b0 87 [Value.int .i64 r21.2.2.ring.p, Value.int .i64 r21.2.2.ring.vars, v0_2, v0_3, Value.int .i64 r21.2.2.many]]) [2] (by decide) rfl), (Inc.rfl _)⟩) rfl (fun w' hw' => (E.fieldAddr tf87_0 rfl)) ?_
          refine FB.t (i := 14) (bs 19 32767) rfl (SP.nil ⟨_, (S139.selT (a := [.row 3 1 v112 n113 cs114, .row 3 1 v32 n33 cs34, .box b0 87 [Value.int .i64 r21.2.2.ring.p, Value.int .i64 r21.2.2.ring.vars, v0_2, v0_3, Value.int .i64 r21.2.2.many], .row 48 1 v0_2 n0_2 k0_2, .row 48 1 v0_3 n0_3 k0_3, .row 3 1 v85 n86 cs88]) (l' := [.box b0 87 [Value.int .i64 r21.2.2.ring.p, Value.int .i64 r21.2.2.ring.vars, v0_2, v0_3, Value.int .i64 r21.2.2.many]]) [2] (by decide) rfl), (Inc.rfl _)⟩) rfl (fun w' hw' => (E.fieldAddrN tf53_0 rfl rfl)) ?_
          refine FB.t (i := 15) (bs 19 65535) rfl (SP.nil ⟨_, (S139.selT (a := [.row 3 1 v112 n113 cs114, .row 3 1 v32 n33 cs34, .box b0 87 [Value.int .i64 r21.2.2.ring.p, Value.int .i64 r21.2.2.ring.vars, v0_2, v0_3, Value.int .i64 r21.2.2.many], .row 48 1 v0_2 n0_2 k0_2, .row 48 1 v0_3 n0_3 k0_3, .row 3 1 v85 n86 cs88]) (l' := [.box b0 87 [Value.int .i64 r21.2.2.ring.p, Value.int .i64 r21.2.2.ring.vars, v0_2, v0_3, Value.int .i64 r21.2.2.many]]) [2] (by decide) rfl), (Inc.rfl _)⟩) rfl (fun w' hw' => (E.load rfl (run_load1 Try.isAgg3 (SX.box_now hw' (i := 0) rfl) rfl))) ?_
          refine FB.t (i := 16) (bs 19 131071) rfl (SP.nil ⟨_, (S139.selT (a := [.row 3 1 v112 n113 cs114, .row 3 1 v32 n33 cs34, .box b0 87 [Value.int .i64 r21.2.2.ring.p, Value.int .i64 r21.2.2.ring.vars, v0_2, v0_3, Value.int .i64 r21.2.2.many], .row 48 1 v0_2 n0_2 k0_2, .row 48 1 v0_3 n0_3 k0_3, .row 3 1 v85 n86 cs88]) (l' := [.box b0 87 [Value.int .i64 r21.2.2.ring.p, Value.int .i64 r21.2.2.ring.vars, v0_2, v0_3, Value.int .i64 r21.2.2.many]]) [2] (by decide) rfl), (Inc.rfl _)⟩) rfl (fun w' hw' => (E.rem rfl rfl (nz_ne z140))) ?_
          obtain ⟨p142, cs143, pt144, l145, at146, rel147, hall150⟩ := S139.row_atA (i := 0) rfl els115 (by decide) hx149
          obtain rfl := eI_open rel147
          refine FB.t (i := 17) (bs 19 262143) rfl (SP.nil ⟨_, (S139.selT (a := [.row 3 1 v112 n113 cs114, .row 3 1 v32 n33 cs34, .box b0 87 [Value.int .i64 r21.2.2.ring.p, Value.int .i64 r21.2.2.ring.vars, v0_2, v0_3, Value.int .i64 r21.2.2.many], .row 48 1 v0_2 n0_2 k0_2, .row 48 1 v0_3 n0_3 k0_3, .row 3 1 v85 n86 cs88]) (l' := [.box b0 87 [Value.int .i64 r21.2.2.ring.p, Value.int .i64 r21.2.2.ring.vars, v0_2, v0_3, Value.int .i64 r21.2.2.many]]) [2] (by decide) rfl), (Inc.rfl _)⟩) rfl (fun w' hw' => (E.indexAddr te48 rfl rfl pt144)) ?_
          refine FB.all1 (i := 18) (by kernel_rfl) ?_
          ·
            obtain ⟨w151, cs157, run152, S153, els156, ce158⟩ := S139.putEls (P := Try.prog) (t := 3) (i := 0) rfl els115 hput155 pt144 Try.sizeOf3 (u := Value.int .i64 ((wr ((wr (r21.2.2.ring.p - x135)) * r51)).tmod r21.2.2.ring.p)) (c := [Value.int .i64 ((wr ((wr (r21.2.2.ring.p - x135)) * r51)).tmod r21.2.2.ring.p)]) rfl rfl (ones_cons rfl ones_nil) rfl
            have S153 : St H0 w0 H116 w151 (.row 3 1 v112 n113 cs157 :: .row 3 1 v32 n33 cs34 :: .box b0 87 [Value.int .i64 r21.2.2.ring.p, Value.int .i64 r21.2.2.ring.vars, v0_2, v0_3, Value.int .i64 r21.2.2.many] :: .row 48 1 v0_2 n0_2 k0_2 :: .row 48 1 v0_3 n0_3 k0_3 :: .row 3 1 v85 n86 cs88 :: L) := S153
            refine FC.act (l' := (bs 19 524287)) rfl (by kernel_rfl) rfl rfl (E.store rfl rfl run152) ?_
            refine ⟨(SP.nil ⟨_, (S153.selT (a := [.row 3 1 v112 n113 cs157, .row 3 1 v32 n33 cs34, .box b0 87 [Value.int .i64 r21.2.2.ring.p, Value.int .i64 r21.2.2.ring.vars, v0_2, v0_3, Value.int .i64 r21.2.2.many], .row 48 1 v0_2 n0_2 k0_2, .row 48 1 v0_3 n0_3 k0_3, .row 3 1 v85 n86 cs88]) (l' := [.box b0 87 [Value.int .i64 r21.2.2.ring.p, Value.int .i64 r21.2.2.ring.vars, v0_2, v0_3, Value.int .i64 r21.2.2.many]]) [2] (by decide) rfl), (Inc.rfl _)⟩), ?_⟩
            exact FB.done (by kernel_rfl) ⟨_, _, _, _, S153, (Inc.rfl _), els156, k122, k123, k124, k125, k126, k127, k128, k121⟩
        ·
          rintro f167 w166 ⟨H163, v159, n160, cs161, S164, i165, els162, k168, k169, k170, k171, k172, k173, k174, k175⟩
          refine FW.region ?_
          refine FL.v (E.add k175 rfl) ?_
          refine FL.v (E.move (v := Value.int .i64 (wr (((i111 : Nat) : Int) + 1))) rfl) ?_
          refine FL.nil ?_
          obtain rfl := Option.some.inj hp
          exact ⟨rfl, ⟨_, _, _, _, S164, (i118.tr i165), els162, (nat_succ rfl hj111 (chk_le hchk111)), k168, k169, k170, k171, k172, k173, k174⟩⟩
      ·
        clear hp hq
        rintro s111 f595 w594 ⟨H591, v112, n113, cs114, S592, i593, els115, k596, k597, k598, k599, k600, k601, k602, k603⟩
        refine FW.seq (FW.region ?_)
        refine FL.v (E.lss k596 k603) ?_
        refine FL.nil (FW.seq ?_)
        refine FW.condF rfl (dlt_maxchk hchk111) ?_
        refine FW.exit ?_
        exact ⟨nofun, rfl, ⟨_, _, _, _, S592, i593, els115, k597, k598, k599, k600, k601⟩⟩
      ·
        clear hq
        intro e f181 w180 hD
        rcases q111 with s111 | x111
        ·
          obtain ⟨rfl, hD⟩ := hD
          obtain ⟨H177, v112, n113, cs114, S178, i179, els115, k182, k183, k184, k185, k186⟩ := hD
          replace hp := el_go hp
          refine FW.seq (FW.region ?_)
          refine FL.v (E.move k186) ?_
          refine FL.v (E.move k182) ?_
          refine FL.v (E.nilCheck rfl) ?_
          refine FL.v (E.fieldAddr tf87_3 rfl) ?_
          refine FL.v (E.load rfl (run_load1 Try.isAgg3 (S178.box_now (i := 2) rfl) rfl)) ?_
          refine FL.v (E.move k185) ?_
          obtain ⟨x193, hx194, hp⟩ := bnd hp
          obtain ⟨p187, cs188, pt189, l190, at191, rel192⟩ := S178.row_at (i := 0) rfl els115 (by decide) hx194
          obtain rfl := eI_open rel192
          refine FL.v (E.indexAddr te48 rfl rfl pt189) ?_
          obtain ⟨xs198, hput199, hp⟩ := bnd hp
          obtain ⟨w195, cs201, run196, S197, els200, ce202⟩ := S178.putEls (P := Try.prog) (t := 3) (i := 0) rfl els115 hput199 pt189 Try.sizeOf3 (u := Value.int .i64 r51) (c := [Value.int .i64 r51]) rfl rfl (ones_cons rfl ones_nil) rfl
          have S197 : St H0 w0 H177 w195 (.row 3 1 v112 n113 cs201 :: .row 3 1 v32 n33 cs34 :: .box b0 87 [Value.int .i64 r21.2.2.ring.p, Value.int .i64 r21.2.2.ring.vars, v0_2, v0_3, Value.int .i64 r21.2.2.many] :: .row 48 1 v0_2 n0_2 k0_2 :: .row 48 1 v0_3 n0_3 k0_3 :: .row 3 1 v85 n86 cs88 :: L) := S197
          refine FL.act rfl rfl (E.store rfl rfl run196) ?_
          refine FL.nil (FW.seq (FW.region ?_))
          refine FL.v (E.move k182) ?_
          refine FL.v (E.nilCheck rfl) ?_
          refine FL.v (E.fieldAddr tf87_3 rfl) ?_
          refine FL.v (E.load rfl (run_load1 Try.isAgg3 (S197.box_now (i := 2) rfl) rfl)) ?_
          refine FL.v (E.add rfl rfl) ?_
          refine FL.v (E.nilCheck rfl) ?_
          refine FL.v (E.fieldAddr tf87_3 rfl) ?_
          obtain ⟨w203, run204, S205⟩ := S197.store (P := Try.prog) (t := 3) (i := 2) (j := 4) (cs' := [Value.int .i64 r21.2.2.ring.p, Value.int .i64 r21.2.2.ring.vars, v0_2, v0_3, Value.int .i64 (wr (r21.2.2.many + 1))]) (l' := (.row 3 1 v112 n113 cs201 :: .row 3 1 v32 n33 cs34 :: .box b0 87 [Value.int .i64 r21.2.2.ring.p, Value.int .i64 r21.2.2.ring.vars, v0_2, v0_3, Value.int .i64 (wr (r21.2.2.many + 1))] :: .row 48 1 v0_2 n0_2 k0_2 :: .row 48 1 v0_3 n0_3 k0_3 :: .row 3 1 v85 n86 cs88 :: L)) (v := Value.int .i64 (wr (r21.2.2.many + 1))) (c := [Value.int .i64 (wr (r21.2.2.many + 1))]) rfl Try.sizeOf3 rfl rfl (ones_cons rfl ones_nil) (Nat.le_of_ble_eq_true rfl) rfl rfl
          refine FL.act rfl rfl (E.store rfl rfl run204) ?_
          refine FL.nil (FW.seq (FW.seq (FW.region ?_)))
          refine FL.v (E.move k182) ?_
          refine FL.v (E.nilCheck rfl) ?_
          refine FL.v (E.fieldAddr tf87_1 rfl) ?_
          refine FL.v (E.load rfl (run_load1 Try.isAgg54 (S205.box_now (i := 2) rfl) rfl)) ?_
          refine FL.v (E.lenO te54 rfl S205 (i := 3) rfl p0_2 (by decide)) ?_
          refine FL.v (E.move (v := Value.int .i64 0) rfl) ?_
          refine FL.nil ?_
          obtain ⟨m206, hchk207, hp⟩ := bnd hp
          obtain ⟨q207, hq, hp⟩ := bndR hp
          refine FW.block ?_
          refine FW.mono (FW.forR (S := ((List (List Int)) × (List (List Int)) × Int × Int × Int)) (X := Empty) (fun (i207 : Nat) (s207 : ((List (List Int)) × (List (List Int)) × Int × Int × Int)) f w => ∃ H : GH, ∃ cs208 : List Value, ∃ cs211 : List Value, St H0 w0 H w (.row 3 1 v112 n113 cs201 :: .box b0 87 [Value.int .i64 s207.2.2.1, Value.int .i64 s207.2.2.2.1, v0_2, v0_3, Value.int .i64 s207.2.2.2.2] :: .row 48 1 v0_2 n0_2 cs208 :: .row 48 1 v0_3 n0_3 cs211 :: .row 3 1 v85 n86 cs88 :: L) ∧ Inc H177 H ∧ Els (up w0.heap.size H) (eL eI 1) 1 cs208 s207.1 ∧ Els (up w0.heap.size H) (eL eI 1) 1 cs211 s207.2.1 ∧ (bl cs208).Nodup ∧ f 99 = Value.int .i64 ((i207 : Nat) : Int) ∧ f 0 = Value.pointer (some (⟨b0, 0, none⟩ : Addr)) ∧ f 5 = v85 ∧ f 7 = Value.int .i64 r36 ∧ f 9 = v112 ∧ f 97 = v0_2 ∧ f 98 = Value.int .i64 (len a0.rows)) (fun (q : Rs ((List (List Int)) × (List (List Int)) × Int × Int × Int) Empty) e f w => match q with | .go s207 => e = Exit.exit 2 ∧ (∃ H : GH, ∃ cs208 : List Value, ∃ cs211 : List Value, St H0 w0 H w (.row 3 1 v112 n113 cs201 :: .box b0 87 [Value.int .i64 s207.2.2.1, Value.int .i64 s207.2.2.2.1, v0_2, v0_3, Value.int .i64 s207.2.2.2.2] :: .row 48 1 v0_2 n0_2 cs208 :: .row 48 1 v0_3 n0_3 cs211 :: .row 3 1 v85 n86 cs88 :: L) ∧ Inc H177 H ∧ Els (up w0.heap.size H) (eL eI 1) 1 cs208 s207.1 ∧ Els (up w0.heap.size H) (eL eI 1) 1 cs211 s207.2.1 ∧ (bl cs208).Nodup ∧ f 0 = Value.pointer (some (⟨b0, 0, none⟩ : Addr)) ∧ f 5 = v85 ∧ f 9 = v112) | .rt x => x.elim) hq ⟨_, _, _, (S205.selT (a := [.row 3 1 v112 n113 cs201, .row 3 1 v32 n33 cs34, .box b0 87 [Value.int .i64 r21.2.2.ring.p, Value.int .i64 r21.2.2.ring.vars, v0_2, v0_3, Value.int .i64 (wr (r21.2.2.many + 1))], .row 48 1 v0_2 n0_2 k0_2, .row 48 1 v0_3 n0_3 k0_3, .row 3 1 v85 n86 cs88]) (l' := [.row 3 1 v112 n113 cs201, .box b0 87 [Value.int .i64 r21.2.2.ring.p, Value.int .i64 r21.2.2.ring.vars, v0_2, v0_3, Value.int .i64 (wr (r21.2.2.many + 1))], .row 48 1 v0_2 n0_2 k0_2, .row 48 1 v0_3 n0_3 k0_3, .row 3 1 v85 n86 cs88]) [0, 2, 3, 4, 5] (by decide) rfl), (Inc.rfl _), (p0_2.mono (up_mono ((i29.tr i92).tr i179))), (p0_3.mono (up_mono ((i29.tr i92).tr i179))), d0_2, rfl, k182, k183, k184, k186, rfl, rfl⟩ ?_ ?_) ?_
          ·
            clear hp hq
            rintro i207 s207 f217 w216 ⟨H213, cs208, cs211, S214, i215, els209, els212, nd210, k218, k219, k220, k221, k222, k223, k224⟩ hi207 hj207 o519 hp
            refine FW.seq (FW.region ?_)
            refine FL.v (E.lssT k218 k224 (lss_chk hj207 hchk207)) ?_
            refine FL.nil (FW.seq ?_)
            refine FW.condT rfl rfl ?_
            refine FW.skip (FW.seq (FW.block (FW.seq (FW.region ?_))))
            refine FL.v (E.move k218) ?_
            obtain ⟨x231, hx232, hp⟩ := bnd hp
            obtain ⟨p225, cs226, pt227, l228, at229, rel230⟩ := S214.row_at (i := 2) rfl els209 (by decide) hx232
            obtain ⟨v233, rfl, h234⟩ := eL_open rel230
            refine FL.v (E.indexAddr te54 k223 k218 pt227) ?_
            refine FL.v (E.load rfl (run_load0 Try.isAgg48 at229 rfl)) ?_
            refine FL.v (E.assign (v := Value.int .i64 ((i207 : Nat) : Int)) rfl) ?_
            refine FL.v (E.assign (v := v233) rfl) ?_
            refine FL.nil (FW.seq ?_)
            obtain ⟨x244, hx245, hp⟩ := bnd hp
            obtain ⟨r249, hr250, hp⟩ := bnd hp
            obtain ⟨x265, hx266, hp⟩ := bnd hp
            obtain ⟨xs270, hz271, hp⟩ := bnd hp
            obtain ⟨x285, hx286, hp⟩ := bnd hp
            refine FW.drawB (Sl H213) (fun f w => ∃ H : GH, ∃ cs295 : List Value, ∃ v296 : Value, ∃ n297 : Nat, ∃ cs298 : List Value, St H0 w0 H w (.row 3 1 v112 n113 cs201 :: .box b0 87 [Value.int .i64 s207.2.2.1, Value.int .i64 s207.2.2.2.1, v0_2, v0_3, Value.int .i64 s207.2.2.2.2] :: .row 48 1 v0_2 n0_2 cs208 :: .row 48 1 v0_3 n0_3 cs295 :: .row 3 1 v85 n86 cs88 :: .row 3 1 v296 n297 cs298 :: L) ∧ Inc H213 H ∧ Els (up w0.heap.size H) eI 1 cs298 xs270 ∧ Pend (up w0.heap.size H) (eL eI 1) cs295 s207.2.1 ((i207 : Nat) : Int) v296 ∧ f 0 = Value.pointer (some (⟨b0, 0, none⟩ : Addr)) ∧ f 5 = v85 ∧ f 7 = Value.int .i64 r36 ∧ f 9 = v112 ∧ f 12 = Value.int .i64 ((i207 : Nat) : Int) ∧ f 13 = v233 ∧ f 97 = v0_2 ∧ f 98 = Value.int .i64 (len a0.rows) ∧ f 99 = Value.int .i64 ((i207 : Nat) : Int)) (by kernel_rfl) S214.sl ?_ ?_
            ·
              intro w235 r236
              have S237 := S214.call r236
              refine FB.phase [] (fun w => WAt w (Addr.add ⟨b0, 0, none⟩ 4) [Value.int .i64 s207.2.2.2.2]) ?_
              refine FB.phase [28] (fun w => WAt w (Addr.add ⟨b0, 0, none⟩ 3) [v0_3]) ?_
              refine FB.t (i := 0) (bs 29 1) rfl (SP.on ((S237.box_now (i := 1) rfl).sub (j := 3) (n := 1) (c := [v0_3]) rfl) (SP.on ((S237.box_now (i := 1) rfl).sub (j := 4) (n := 1) (c := [Value.int .i64 s207.2.2.2.2]) rfl) (SP.nil S237.sl))) rfl (fun w' hw' => (E.move k219)) ?_
              refine FB.t (i := 1) (bs 29 3) rfl (SP.on ((S237.box_now (i := 1) rfl).sub (j := 3) (n := 1) (c := [v0_3]) rfl) (SP.on ((S237.box_now (i := 1) rfl).sub (j := 4) (n := 1) (c := [Value.int .i64 s207.2.2.2.2]) rfl) (SP.nil S237.sl))) rfl (fun w' hw' => (E.nilCheck rfl)) ?_
              refine FB.t (i := 2) (bs 29 7) rfl (SP.on ((S237.box_now (i := 1) rfl).sub (j := 3) (n := 1) (c := [v0_3]) rfl) (SP.on ((S237.box_now (i := 1) rfl).sub (j := 4) (n := 1) (c := [Value.int .i64 s207.2.2.2.2]) rfl) (SP.nil S237.sl))) rfl (fun w' hw' => (E.fieldAddr tf87_2 rfl)) ?_
              refine FB.p (i := 3) (bs 29 15) 0 [27, 28] rfl (SP.on ((S237.box_now (i := 1) rfl).sub (j := 3) (n := 1) (c := [v0_3]) rfl) (SP.on ((S237.box_now (i := 1) rfl).sub (j := 4) (n := 1) (c := [Value.int .i64 s207.2.2.2.2]) rfl) (SP.nil S237.sl))) rfl rfl (fun w' hw' => (E.load rfl (run_load0 Try.isAgg54 hw' rfl))) ?_
              refine FB.t (i := 4) (bs 29 31) rfl (SP.on ((S237.box_now (i := 1) rfl).sub (j := 3) (n := 1) (c := [v0_3]) rfl) (SP.on ((S237.box_now (i := 1) rfl).sub (j := 4) (n := 1) (c := [Value.int .i64 s207.2.2.2.2]) rfl) (SP.nil S237.sl))) rfl (fun w' hw' => (E.move (v := Value.int .i64 ((i207 : Nat) : Int)) rfl)) ?_
              refine FB.t (i := 5) (bs 29 63) rfl (SP.on ((S237.box_now (i := 1) rfl).sub (j := 3) (n := 1) (c := [v0_3]) rfl) (SP.on ((S237.box_now (i := 1) rfl).sub (j := 4) (n := 1) (c := [Value.int .i64 s207.2.2.2.2]) rfl) (SP.nil S237.sl))) rfl (fun w' hw' => (E.move k219)) ?_
              refine FB.t (i := 6) (bs 29 127) rfl (SP.on ((S237.box_now (i := 1) rfl).sub (j := 3) (n := 1) (c := [v0_3]) rfl) (SP.on ((S237.box_now (i := 1) rfl).sub (j := 4) (n := 1) (c := [Value.int .i64 s207.2.2.2.2]) rfl) (SP.nil S237.sl))) rfl (fun w' hw' => (E.nilCheck rfl)) ?_
              refine FB.t (i := 7) (bs 29 255) rfl (SP.on ((S237.box_now (i := 1) rfl).sub (j := 3) (n := 1) (c := [v0_3]) rfl) (SP.on ((S237.box_now (i := 1) rfl).sub (j := 4) (n := 1) (c := [Value.int .i64 s207.2.2.2.2]) rfl) (SP.nil S237.sl))) rfl (fun w' hw' => (E.fieldAddr tf87_2 rfl)) ?_
              refine FB.p (i := 8) (bs 29 511) 0 [10, 11, 12, 26, 27, 28] rfl (SP.on ((S237.box_now (i := 1) rfl).sub (j := 3) (n := 1) (c := [v0_3]) rfl) (SP.on ((S237.box_now (i := 1) rfl).sub (j := 4) (n := 1) (c := [Value.int .i64 s207.2.2.2.2]) rfl) (SP.nil S237.sl))) rfl rfl (fun w' hw' => (E.load rfl (run_load0 Try.isAgg54 hw' rfl))) ?_
              refine FB.t (i := 9) (bs 29 1023) rfl (SP.on ((S237.box_now (i := 1) rfl).sub (j := 3) (n := 1) (c := [v0_3]) rfl) (SP.on ((S237.box_now (i := 1) rfl).sub (j := 4) (n := 1) (c := [Value.int .i64 s207.2.2.2.2]) rfl) (SP.nil S237.sl))) rfl (fun w' hw' => (E.move (v := Value.int .i64 ((i207 : Nat) : Int)) rfl)) ?_
              obtain ⟨p238, cs239, pt240, l241, at242, rel243, hall246⟩ := S237.row_atA (i := 3) rfl els212 (by decide) hx245
              obtain ⟨v247, rfl, h248⟩ := eL_open rel243
              refine FB.t (i := 10) (bs 29 2047) rfl (SP.on ((S237.box_now (i := 1) rfl).sub (j := 3) (n := 1) (c := [v0_3]) rfl) (SP.on ((S237.box_now (i := 1) rfl).sub (j := 4) (n := 1) (c := [Value.int .i64 s207.2.2.2.2]) rfl) (SP.nil S237.sl))) rfl (fun w' hw' => (E.indexAddr te54 rfl rfl pt240)) ?_
              refine FB.phase [28] (fun w' => WAt w' p238 [v247]) ?_
              refine FB.p (i := 11) (bs 29 4095) 0 [12, 26, 27, 28] rfl (SP.on (hall246 _ _ _ 3 S237 rfl) (SP.on ((S237.box_now (i := 1) rfl).sub (j := 3) (n := 1) (c := [v0_3]) rfl) (SP.on ((S237.box_now (i := 1) rfl).sub (j := 4) (n := 1) (c := [Value.int .i64 s207.2.2.2.2]) rfl) (SP.nil S237.sl)))) rfl rfl (fun w' hw' => (E.load rfl (run_load0 Try.isAgg48 hw' rfl))) ?_
              refine FB.t (i := 13) (bs 29 12287) rfl (SP.on (hall246 _ _ _ 3 S237 rfl) (SP.on ((S237.box_now (i := 1) rfl).sub (j := 3) (n := 1) (c := [v0_3]) rfl) (SP.on ((S237.box_now (i := 1) rfl).sub (j := 4) (n := 1) (c := [Value.int .i64 s207.2.2.2.2]) rfl) (SP.nil S237.sl)))) rfl (fun w' hw' => (E.move k219)) ?_
              refine FB.t (i := 14) (bs 29 28671) rfl (SP.on (hall246 _ _ _ 3 S237 rfl) (SP.on ((S237.box_now (i := 1) rfl).sub (j := 3) (n := 1) (c := [v0_3]) rfl) (SP.on ((S237.box_now (i := 1) rfl).sub (j := 4) (n := 1) (c := [Value.int .i64 s207.2.2.2.2]) rfl) (SP.nil S237.sl)))) rfl (fun w' hw' => (E.nilCheck rfl)) ?_
              refine FB.t (i := 15) (bs 29 61439) rfl (SP.on (hall246 _ _ _ 3 S237 rfl) (SP.on ((S237.box_now (i := 1) rfl).sub (j := 3) (n := 1) (c := [v0_3]) rfl) (SP.on ((S237.box_now (i := 1) rfl).sub (j := 4) (n := 1) (c := [Value.int .i64 s207.2.2.2.2]) rfl) (SP.nil S237.sl)))) rfl (fun w' hw' => (E.fieldAddr tf87_3 rfl)) ?_
              refine FB.p (i := 16) (bs 29 126975) 2 [25, 26, 27, 28] rfl (SP.on (hall246 _ _ _ 3 S237 rfl) (SP.on ((S237.box_now (i := 1) rfl).sub (j := 3) (n := 1) (c := [v0_3]) rfl) (SP.on ((S237.box_now (i := 1) rfl).sub (j := 4) (n := 1) (c := [Value.int .i64 s207.2.2.2.2]) rfl) (SP.nil S237.sl)))) rfl rfl (fun w' hw' => (E.load rfl (run_load0 Try.isAgg3 hw' rfl))) ?_
              refine FB.t (i := 17) (bs 29 258047) rfl (SP.on (hall246 _ _ _ 3 S237 rfl) (SP.on ((S237.box_now (i := 1) rfl).sub (j := 3) (n := 1) (c := [v0_3]) rfl) (SP.on ((S237.box_now (i := 1) rfl).sub (j := 4) (n := 1) (c := [Value.int .i64 s207.2.2.2.2]) rfl) (SP.nil S237.sl)))) rfl (fun w' hw' => (E.move k219)) ?_
              refine FB.t (i := 18) (bs 29 520191) rfl (SP.on (hall246 _ _ _ 3 S237 rfl) (SP.on ((S237.box_now (i := 1) rfl).sub (j := 3) (n := 1) (c := [v0_3]) rfl) (SP.on ((S237.box_now (i := 1) rfl).sub (j := 4) (n := 1) (c := [Value.int .i64 s207.2.2.2.2]) rfl) (SP.nil S237.sl)))) rfl (fun w' hw' => (E.nilCheck rfl)) ?_
              refine FB.t (i := 19) (bs 29 1044479) rfl (SP.on (hall246 _ _ _ 3 S237 rfl) (SP.on ((S237.box_now (i := 1) rfl).sub (j := 3) (n := 1) (c := [v0_3]) rfl) (SP.on ((S237.box_now (i := 1) rfl).sub (j := 4) (n := 1) (c := [Value.int .i64 s207.2.2.2.2]) rfl) (SP.nil S237.sl)))) rfl (fun w' hw' => (E.fieldAddr tf87_2 rfl)) ?_
              refine FB.p (i := 20) (bs 29 2093055) 1 [22, 23, 24, 25, 26, 27, 28] rfl (SP.on (hall246 _ _ _ 3 S237 rfl) (SP.on ((S237.box_now (i := 1) rfl).sub (j := 3) (n := 1) (c := [v0_3]) rfl) (SP.on ((S237.box_now (i := 1) rfl).sub (j := 4) (n := 1) (c := [Value.int .i64 s207.2.2.2.2]) rfl) (SP.nil S237.sl)))) rfl rfl (fun w' hw' => (E.load rfl (run_load0 Try.isAgg54 hw' rfl))) ?_
              refine FB.t (i := 21) (bs 29 4190207) rfl (SP.on (hall246 _ _ _ 3 S237 rfl) (SP.on ((S237.box_now (i := 1) rfl).sub (j := 3) (n := 1) (c := [v0_3]) rfl) (SP.on ((S237.box_now (i := 1) rfl).sub (j := 4) (n := 1) (c := [Value.int .i64 s207.2.2.2.2]) rfl) (SP.nil S237.sl)))) rfl (fun w' hw' => (E.move (v := Value.int .i64 ((i207 : Nat) : Int)) rfl)) ?_
              obtain ⟨p259, cs260, pt261, l262, at263, rel264, hall267⟩ := S237.row_atA (i := 3) rfl els212 (by decide) hx266
              obtain ⟨v268, rfl, h269⟩ := eL_open rel264
              refine FB.t (i := 22) (bs 29 8384511) rfl (SP.on (hall246 _ _ _ 3 S237 rfl) (SP.on ((S237.box_now (i := 1) rfl).sub (j := 3) (n := 1) (c := [v0_3]) rfl) (SP.on ((S237.box_now (i := 1) rfl).sub (j := 4) (n := 1) (c := [Value.int .i64 s207.2.2.2.2]) rfl) (SP.nil S237.sl)))) rfl (fun w' hw' => (E.indexAddr te54 rfl rfl pt261)) ?_
              refine FB.phase [28] (fun w' => WAt w' p259 [v268]) ?_
              refine FB.p (i := 23) (bs 29 16773119) 0 [24, 25, 26, 27, 28] rfl (SP.on (hall267 _ _ _ 3 S237 rfl) (SP.on (hall246 _ _ _ 3 S237 rfl) (SP.on ((S237.box_now (i := 1) rfl).sub (j := 3) (n := 1) (c := [v0_3]) rfl) (SP.on ((S237.box_now (i := 1) rfl).sub (j := 4) (n := 1) (c := [Value.int .i64 s207.2.2.2.2]) rfl) (SP.nil S237.sl))))) rfl rfl (fun w' hw' => (E.load rfl (run_load0 Try.isAgg48 hw' rfl))) ?_
              refine FB.t (i := 24) (bs 29 33550335) rfl (SP.on (hall267 _ _ _ 3 S237 rfl) (SP.on (hall246 _ _ _ 3 S237 rfl) (SP.on ((S237.box_now (i := 1) rfl).sub (j := 3) (n := 1) (c := [v0_3]) rfl) (SP.on ((S237.box_now (i := 1) rfl).sub (j := 4) (n := 1) (c := [Value.int .i64 s207.2.2.2.2]) rfl) (SP.nil S237.sl))))) rfl (fun w' hw' => (E.lenP te48 rfl h269)) ?_
              refine FB.t (i := 25) (bs 29 67104767) rfl (SP.on (hall267 _ _ _ 3 S237 rfl) (SP.on (hall246 _ _ _ 3 S237 rfl) (SP.on ((S237.box_now (i := 1) rfl).sub (j := 3) (n := 1) (c := [v0_3]) rfl) (SP.on ((S237.box_now (i := 1) rfl).sub (j := 4) (n := 1) (c := [Value.int .i64 s207.2.2.2.2]) rfl) (SP.nil S237.sl))))) rfl (fun w' hw' => (E.sub rfl rfl)) ?_
              refine FB.all1 (i := 12) (by kernel_rfl) ?_
              ·
                refine FC.call (l' := (bs 29 67108863)) rfl (by kernel_rfl) rfl rfl rfl (E.call Try.call50 (A1 rfl)) (w_slices_Clone_impl_dense_int S237.sl v247 x244 (h248.mono upI) hr250) ?_
                rintro e w252 ⟨H251, v255, n256, cs257, rfl, r254, els258⟩
                refine ⟨_, rfl, ?_⟩
                have els258 := els258.mono (up_le S237.size)
                have S253 := S237.join (l' := (.row 3 1 v255 n256 cs257 :: .row 3 1 v112 n113 cs201 :: .box b0 87 [Value.int .i64 s207.2.2.1, Value.int .i64 s207.2.2.2.1, v0_2, v0_3, Value.int .i64 s207.2.2.2.2] :: .row 48 1 v0_2 n0_2 cs208 :: .row 48 1 v0_3 n0_3 cs211 :: .row 3 1 v85 n86 cs88 :: L)) r254 rfl
                refine ⟨(SP.on (hall267 _ _ _ 4 S253 rfl) (SP.on (hall246 _ _ _ 4 S253 rfl) (SP.on ((S253.box_now (i := 2) rfl).sub (j := 3) (n := 1) (c := [v0_3]) rfl) (SP.on ((S253.box_now (i := 2) rfl).sub (j := 4) (n := 1) (c := [Value.int .i64 s207.2.2.2.2]) rfl) (SP.nil (Sl.of_inc r254.run.inc S253.sl)))))), ?_⟩
                refine FB.all1 (i := 26) (by kernel_rfl) ?_
                ·
                  obtain ⟨v272, w275, n273, cs274, run276, S277, els278⟩ := S253.appendZ (P := Try.prog) te48 Try.underlying3 (i := 0) rfl els258 hz271
                  have S277 : St H0 w0 H251 w275 (.row 3 1 v272 n273 cs274 :: .row 3 1 v112 n113 cs201 :: .box b0 87 [Value.int .i64 s207.2.2.1, Value.int .i64 s207.2.2.2.1, v0_2, v0_3, Value.int .i64 s207.2.2.2.2] :: .row 48 1 v0_2 n0_2 cs208 :: .row 48 1 v0_3 n0_3 cs211 :: .row 3 1 v85 n86 cs88 :: L) := S277
                  refine FC.val (l' := (bs 29 134217727)) rfl (by kernel_rfl) rfl rfl rfl (E.appendZ rfl rfl run276) ?_
                  refine ⟨(SP.on (hall267 _ _ _ 4 S277 rfl) (SP.on (hall246 _ _ _ 4 S277 rfl) (SP.on ((S277.box_now (i := 2) rfl).sub (j := 3) (n := 1) (c := [v0_3]) rfl) (SP.on ((S277.box_now (i := 2) rfl).sub (j := 4) (n := 1) (c := [Value.int .i64 s207.2.2.2.2]) rfl) (SP.nil (Sl.of_inc r254.run.inc S277.sl)))))), ?_⟩
                  obtain ⟨p279, cs280, pt281, l282, at283, rel284, hall287⟩ := S277.row_atA (i := 4) rfl els212 (by decide) hx286
                  obtain ⟨v288, rfl, h289⟩ := eL_open rel284
                  refine FB.t (i := 27) (bs 29 268435455) rfl (SP.on (hall267 _ _ _ 4 S277 rfl) (SP.on (hall246 _ _ _ 4 S277 rfl) (SP.on ((S277.box_now (i := 2) rfl).sub (j := 3) (n := 1) (c := [v0_3]) rfl) (SP.on ((S277.box_now (i := 2) rfl).sub (j := 4) (n := 1) (c := [Value.int .i64 s207.2.2.2.2]) rfl) (SP.nil (Sl.of_inc r254.run.inc S277.sl)))))) rfl (fun w' hw' => (E.indexAddr te54 rfl rfl pt281)) ?_
                  refine FB.all1 (i := 28) (by kernel_rfl) ?_
                  ·
                    obtain ⟨w290, cs291, run292, S293, pd294⟩ := S277.pend (P := Try.prog) (t := 48) (i := 4) rfl els212 hx286 pt281 Try.sizeOf48 (u := v272) (Ln.cells (S277.row_ln (i := 0) rfl)) (ones_cons (Ln.one (S277.row_ln (i := 0) rfl)) ones_nil)
                    have S293 : St H0 w0 H251 w290 (.row 3 1 v272 n273 cs274 :: .row 3 1 v112 n113 cs201 :: .box b0 87 [Value.int .i64 s207.2.2.1, Value.int .i64 s207.2.2.2.1, v0_2, v0_3, Value.int .i64 s207.2.2.2.2] :: .row 48 1 v0_2 n0_2 cs208 :: .row 48 1 v0_3 n0_3 cs291 :: .row 3 1 v85 n86 cs88 :: L) := S293
                    refine FC.act (l' := (bs 29 536870911)) rfl (by kernel_rfl) rfl rfl (E.store rfl rfl run292) ?_
                    refine ⟨(SP.o (SP.o (SP.o (SP.on ((S293.box_now (i := 2) rfl).sub (j := 4) (n := 1) (c := [Value.int .i64 s207.2.2.2.2]) rfl) (SP.nil (Sl.of_inc r254.run.inc S293.sl)))))), ?_⟩
                    exact FB.done (by kernel_rfl) ⟨_, _, _, _, _, (S293.selT (a := [.row 3 1 v272 n273 cs274, .row 3 1 v112 n113 cs201, .box b0 87 [Value.int .i64 s207.2.2.1, Value.int .i64 s207.2.2.2.1, v0_2, v0_3, Value.int .i64 s207.2.2.2.2], .row 48 1 v0_2 n0_2 cs208, .row 48 1 v0_3 n0_3 cs291, .row 3 1 v85 n86 cs88]) (l' := [.row 3 1 v112 n113 cs201, .box b0 87 [Value.int .i64 s207.2.2.1, Value.int .i64 s207.2.2.2.1, v0_2, v0_3, Value.int .i64 s207.2.2.2.2], .row 48 1 v0_2 n0_2 cs208, .row 48 1 v0_3 n0_3 cs291, .row 3 1 v85 n86 cs88, .row 3 1 v272 n273 cs274]) [1, 2, 3, 4, 5, 0] (by decide) rfl), r254.run.inc, els278, (pd294.mono (up_mono r254.run.inc)), k219, k220, k221, k222, rfl, rfl, k223, k224, k218⟩
            ·
              rintro f305 w304 ⟨H301, cs295, v296, n297, cs298, S302, i303, els299, pd300, k306, k307, k308, k309, k310, k311, k312, k313, k314⟩
              refine FW.seq (FW.region ?_)
              refine FL.v (E.move k311) ?_
              refine FL.v (E.move k308) ?_
              obtain ⟨x321, hx322, hp⟩ := bnd hp
              obtain ⟨p315, cs316, pt317, l318, at319, rel320⟩ := h234.at hx322
              obtain rfl := eI_open rel320
              refine FL.v (E.indexAddr te48 rfl rfl pt317) ?_
              refine FL.v (E.load rfl (run_load0 Try.isAgg3 ((at319.mono (upI.tr i303)).now S302.sl) rfl)) ?_
              refine FL.v (E.assign (v := Value.int .i64 x321) rfl) ?_
              refine FL.nil (FW.seq (FW.region ?_))
              refine FL.v (E.move (v := Value.int .i64 x321) rfl) ?_
              refine FL.v (E.neq rfl rfl) ?_
              refine FL.nil ?_
              rcases ifB hp with ⟨c323, hp⟩ | ⟨c323, hp⟩
              ·
                refine FW.condT rfl c323 ?_
                refine FW.seq ?_
                obtain ⟨r332, hr333, hp⟩ := bnd hp
                obtain ⟨x350, hx351, hp⟩ := bnd hp
                obtain ⟨xs363, hput364, hp⟩ := bnd hp
                refine FW.drawB (Sl H301) (fun f w => ∃ H : GH, ∃ cs369 : List Value, St H0 w0 H w (.row 3 1 v112 n113 cs201 :: .box b0 87 [Value.int .i64 s207.2.2.1, Value.int .i64 s207.2.2.2.1, v0_2, v0_3, Value.int .i64 s207.2.2.2.2] :: .row 48 1 v0_2 n0_2 cs369 :: .row 48 1 v0_3 n0_3 cs295 :: .row 3 1 v85 n86 cs88 :: .row 3 1 v296 n297 cs298 :: L) ∧ Inc H301 H ∧ Els (up w0.heap.size H) (eL eI 1) 1 cs369 xs363 ∧ (bl cs369).Nodup ∧ f 0 = Value.pointer (some (⟨b0, 0, none⟩ : Addr)) ∧ f 5 = v85 ∧ f 7 = Value.int .i64 r36 ∧ f 9 = v112 ∧ f 12 = Value.int .i64 ((i207 : Nat) : Int) ∧ f 14 = Value.int .i64 x321 ∧ f 97 = v0_2 ∧ f 98 = Value.int .i64 (len a0.rows) ∧ f 99 = Value.int .i64 ((i207 : Nat) : Int)) (by kernel_rfl) S302.sl ?_ ?_
                ·
                  intro w324 r325
                  have S326 := S302.call r325
                  refine FB.phase [] (fun w => WAt w (Addr.add ⟨b0, 0, none⟩ 0) [Value.int .i64 s207.2.2.1]) ?_
                  refine FB.phase [] (fun w => WAt w (Addr.add ⟨b0, 0, none⟩ 0) [Value.int .i64 s207.2.2.1, Value.int .i64 s207.2.2.2.1]) ?_
                  refine FB.phase [20] (fun w => WAt w (Addr.add ⟨b0, 0, none⟩ 2) [v0_2]) ?_
                  refine FB.t (i := 0) (bs 21 1) rfl (SP.on ((S326.box_now (i := 1) rfl).sub (j := 2) (n := 1) (c := [v0_2]) rfl) (SP.on ((S326.box_now (i := 1) rfl).sub (j := 0) (n := 2) (c := [Value.int .i64 s207.2.2.1, Value.int .i64 s207.2.2.2.1]) rfl) (SP.on ((S326.box_now (i := 1) rfl).sub (j := 0) (n := 1) (c := [Value.int .i64 s207.2.2.1]) rfl) (SP.nil S326.sl)))) rfl (fun w' hw' => (E.move k306)) ?_
                  refine FB.t (i := 1) (bs 21 3) rfl (SP.on ((S326.box_now (i := 1) rfl).sub (j := 2) (n := 1) (c := [v0_2]) rfl) (SP.on ((S326.box_now (i := 1) rfl).sub (j := 0) (n := 2) (c := [Value.int .i64 s207.2.2.1, Value.int .i64 s207.2.2.2.1]) rfl) (SP.on ((S326.box_now (i := 1) rfl).sub (j := 0) (n := 1) (c := [Value.int .i64 s207.2.2.1]) rfl) (SP.nil S326.sl)))) rfl (fun w' hw' => (E.nilCheck rfl)) ?_
                  refine FB.t (i := 2) (bs 21 7) rfl (SP.on ((S326.box_now (i := 1) rfl).sub (j := 2) (n := 1) (c := [v0_2]) rfl) (SP.on ((S326.box_now (i := 1) rfl).sub (j := 0) (n := 2) (c := [Value.int .i64 s207.2.2.1, Value.int .i64 s207.2.2.2.1]) rfl) (SP.on ((S326.box_now (i := 1) rfl).sub (j := 0) (n := 1) (c := [Value.int .i64 s207.2.2.1]) rfl) (SP.nil S326.sl)))) rfl (fun w' hw' => (E.fieldAddr tf87_1 rfl)) ?_
                  refine FB.p (i := 3) (bs 21 15) 0 [19, 20] rfl (SP.on ((S326.box_now (i := 1) rfl).sub (j := 2) (n := 1) (c := [v0_2]) rfl) (SP.on ((S326.box_now (i := 1) rfl).sub (j := 0) (n := 2) (c := [Value.int .i64 s207.2.2.1, Value.int .i64 s207.2.2.2.1]) rfl) (SP.on ((S326.box_now (i := 1) rfl).sub (j := 0) (n := 1) (c := [Value.int .i64 s207.2.2.1]) rfl) (SP.nil S326.sl)))) rfl rfl (fun w' hw' => (E.load rfl (run_load0 Try.isAgg54 hw' rfl))) ?_
                  refine FB.t (i := 4) (bs 21 31) rfl (SP.on ((S326.box_now (i := 1) rfl).sub (j := 2) (n := 1) (c := [v0_2]) rfl) (SP.on ((S326.box_now (i := 1) rfl).sub (j := 0) (n := 2) (c := [Value.int .i64 s207.2.2.1, Value.int .i64 s207.2.2.2.1]) rfl) (SP.on ((S326.box_now (i := 1) rfl).sub (j := 0) (n := 1) (c := [Value.int .i64 s207.2.2.1]) rfl) (SP.nil S326.sl)))) rfl (fun w' hw' => (E.move k310)) ?_
                  refine FB.t (i := 5) (bs 21 63) rfl (SP.on ((S326.box_now (i := 1) rfl).sub (j := 2) (n := 1) (c := [v0_2]) rfl) (SP.on ((S326.box_now (i := 1) rfl).sub (j := 0) (n := 2) (c := [Value.int .i64 s207.2.2.1, Value.int .i64 s207.2.2.2.1]) rfl) (SP.on ((S326.box_now (i := 1) rfl).sub (j := 0) (n := 1) (c := [Value.int .i64 s207.2.2.1]) rfl) (SP.nil S326.sl)))) rfl (fun w' hw' => (E.move k306)) ?_
                  refine FB.t (i := 6) (bs 21 127) rfl (SP.on ((S326.box_now (i := 1) rfl).sub (j := 2) (n := 1) (c := [v0_2]) rfl) (SP.on ((S326.box_now (i := 1) rfl).sub (j := 0) (n := 2) (c := [Value.int .i64 s207.2.2.1, Value.int .i64 s207.2.2.2.1]) rfl) (SP.on ((S326.box_now (i := 1) rfl).sub (j := 0) (n := 1) (c := [Value.int .i64 s207.2.2.1]) rfl) (SP.nil S326.sl)))) rfl (fun w' hw' => (E.nilCheck rfl)) ?_
                  refine FB.t (i := 7) (bs 21 255) rfl (SP.on ((S326.box_now (i := 1) rfl).sub (j := 2) (n := 1) (c := [v0_2]) rfl) (SP.on ((S326.box_now (i := 1) rfl).sub (j := 0) (n := 2) (c := [Value.int .i64 s207.2.2.1, Value.int .i64 s207.2.2.2.1]) rfl) (SP.on ((S326.box_now (i := 1) rfl).sub (j := 0) (n := 1) (c := [Value.int .i64 s207.2.2.1]) rfl) (SP.nil S326.sl)))) rfl (fun w' hw' => (E.fieldAddr tf87_0 rfl)) ?_
                  refine FB.p (i := 8) (bs 21 511) 1 [18, 19, 20] rfl (SP.on ((S326.box_now (i := 1) rfl).sub (j := 2) (n := 1) (c := [v0_2]) rfl) (SP.on ((S326.box_now (i := 1) rfl).sub (j := 0) (n := 2) (c := [Value.int .i64 s207.2.2.1, Value.int .i64 s207.2.2.2.1]) rfl) (SP.on ((S326.box_now (i := 1) rfl).sub (j := 0) (n := 1) (c := [Value.int .i64 s207.2.2.1]) rfl) (SP.nil S326.sl)))) rfl rfl (fun w' hw' => (E.load rfl (run_loadA Try.isAgg53 Try.sizeOf53 hw' rfl))) ?_
                  refine FB.t (i := 9) (bs 21 1023) rfl (SP.on ((S326.box_now (i := 1) rfl).sub (j := 2) (n := 1) (c := [v0_2]) rfl) (SP.on ((S326.box_now (i := 1) rfl).sub (j := 0) (n := 2) (c := [Value.int .i64 s207.2.2.1, Value.int .i64 s207.2.2.2.1]) rfl) (SP.on ((S326.box_now (i := 1) rfl).sub (j := 0) (n := 1) (c := [Value.int .i64 s207.2.2.1]) rfl) (SP.nil S326.sl)))) rfl (fun w' hw' => (E.move k311)) ?_
                  refine FB.t (i := 10) (bs 21 2047) rfl (SP.on ((S326.box_now (i := 1) rfl).sub (j := 2) (n := 1) (c := [v0_2]) rfl) (SP.on ((S326.box_now (i := 1) rfl).sub (j := 0) (n := 2) (c := [Value.int .i64 s207.2.2.1, Value.int .i64 s207.2.2.2.1]) rfl) (SP.on ((S326.box_now (i := 1) rfl).sub (j := 0) (n := 1) (c := [Value.int .i64 s207.2.2.1]) rfl) (SP.nil S326.sl)))) rfl (fun w' hw' => (E.move k307)) ?_
                  refine FB.t (i := 11) (bs 21 4095) rfl (SP.on ((S326.box_now (i := 1) rfl).sub (j := 2) (n := 1) (c := [v0_2]) rfl) (SP.on ((S326.box_now (i := 1) rfl).sub (j := 0) (n := 2) (c := [Value.int .i64 s207.2.2.1, Value.int .i64 s207.2.2.2.1]) rfl) (SP.on ((S326.box_now (i := 1) rfl).sub (j := 0) (n := 1) (c := [Value.int .i64 s207.2.2.1]) rfl) (SP.nil S326.sl)))) rfl (fun w' hw' => (E.move k306)) ?_
                  refine FB.t (i := 12) (bs 21 8191) rfl (SP.on ((S326.box_now (i := 1) rfl).sub (j := 2) (n := 1) (c := [v0_2]) rfl) (SP.on ((S326.box_now (i := 1) rfl).sub (j := 0) (n := 2) (c := [Value.int .i64 s207.2.2.1, Value.int .i64 s207.2.2.2.1]) rfl) (SP.on ((S326.box_now (i := 1) rfl).sub (j := 0) (n := 1) (c := [Value.int .i64 s207.2.2.1]) rfl) (SP.nil S326.sl)))) rfl (fun w' hw' => (E.nilCheck rfl)) ?_
                  refine FB.t (i := 13) (bs 21 16383) rfl (SP.on ((S326.box_now (i := 1) rfl).sub (j := 2) (n := 1) (c := [v0_2]) rfl) (SP.on ((S326.box_now (i := 1) rfl).sub (j := 0) (n := 2) (c := [Value.int .i64 s207.2.2.1, Value.int .i64 s207.2.2.2.1]) rfl) (SP.on ((S326.box_now (i := 1) rfl).sub (j := 0) (n := 1) (c := [Value.int .i64 s207.2.2.1]) rfl) (SP.nil S326.sl)))) rfl (fun w' hw' => (E.fieldAddr tf87_0 rfl)) ?_
                  refine FB.t (i := 14) (bs 21 32767) rfl (SP.on ((S326.box_now (i := 1) rfl).sub (j := 2) (n := 1) (c := [v0_2]) rfl) (SP.on ((S326.box_now (i := 1) rfl).sub (j := 0) (n := 2) (c := [Value.int .i64 s207.2.2.1, Value.int .i64 s207.2.2.2.1]) rfl) (SP.on ((S326.box_now (i := 1) rfl).sub (j := 0) (n := 1) (c := [Value.int .i64 s207.2.2.1]) rfl) (SP.nil S326.sl)))) rfl (fun w' hw' => (E.fieldAddrN tf53_0 rfl rfl)) ?_
                  refine FB.p (i := 15) (bs 21 65535) 2 [17, 18, 19, 20] rfl (SP.on ((S326.box_now (i := 1) rfl).sub (j := 2) (n := 1) (c := [v0_2]) rfl) (SP.on ((S326.box_now (i := 1) rfl).sub (j := 0) (n := 2) (c := [Value.int .i64 s207.2.2.1, Value.int .i64 s207.2.2.2.1]) rfl) (SP.on ((S326.box_now (i := 1) rfl).sub (j := 0) (n := 1) (c := [Value.int .i64 s207.2.2.1]) rfl) (SP.nil S326.sl)))) rfl rfl (fun w' hw' => (E.load rfl (run_load0 Try.isAgg3 hw' rfl))) ?_
                  refine FB.t (i := 16) (bs 21 131071) rfl (SP.on ((S326.box_now (i := 1) rfl).sub (j := 2) (n := 1) (c := [v0_2]) rfl) (SP.on ((S326.box_now (i := 1) rfl).sub (j := 0) (n := 2) (c := [Value.int .i64 s207.2.2.1, Value.int .i64 s207.2.2.2.1]) rfl) (SP.on ((S326.box_now (i := 1) rfl).sub (j := 0) (n := 1) (c := [Value.int .i64 s207.2.2.1]) rfl) (SP.nil S326.sl)))) rfl (fun w' hw' => (E.move (v := Value.int .i64 x321) rfl)) ?_
                  refine FB.t (i := 17) (bs 21 262143) rfl (SP.on ((S326.box_now (i := 1) rfl).sub (j := 2) (n := 1) (c := [v0_2]) rfl) (SP.on ((S326.box_now (i := 1) rfl).sub (j := 0) (n := 2) (c := [Value.int .i64 s207.2.2.1, Value.int .i64 s207.2.2.2.1]) rfl) (SP.on ((S326.box_now (i := 1) rfl).sub (j := 0) (n := 1) (c := [Value.int .i64 s207.2.2.1]) rfl) (SP.nil S326.sl)))) rfl (fun w' hw' => (E.sub rfl rfl)) ?_
                  refine FB.all1 (i := 18) (by kernel_rfl) ?_
                  ·
                    obtain ⟨H327, S328, i329, h330, nv331⟩ := S326.sealRowU (i := 4) (l' := (.row 3 1 v112 n113 cs201 :: .box b0 87 [Value.int .i64 s207.2.2.1, Value.int .i64 s207.2.2.2.1, v0_2, v0_3, Value.int .i64 s207.2.2.2.2] :: .row 48 1 v0_2 n0_2 cs208 :: .row 48 1 v0_3 n0_3 cs295 :: .row 3 1 v296 n297 cs298 :: L)) rfl (els89.mono (up_mono ((i179.tr i215).tr i303))) (by decide) rfl
                    refine FC.call (l' := (bs 21 524287)) rfl (by kernel_rfl) rfl rfl rfl (E.call Try.call25 (A4 rfl rfl rfl rfl)) (w_impl_ring_plus S328.sl (ring.mk s207.2.2.1 s207.2.2.2.1) v233 x231 (h234.mono (upI.tr (i303.tr i329))) v85 r73 (h330.mono upI) (wr (s207.2.2.1 - x321)) hr333) ?_
                    rintro e w335 ⟨H334, v340, n341, cs342, rfl, r337, els343⟩
                    refine ⟨_, rfl, ?_⟩
                    obtain ⟨H338, r337, hU339⟩ := St.lendX i329 S326.sl r337
                    have els343 := els343.mono (hU339.tr (up_le S326.size))
                    have S336 := S326.join (l' := (.row 3 1 v340 n341 cs342 :: .row 3 1 v112 n113 cs201 :: .box b0 87 [Value.int .i64 s207.2.2.1, Value.int .i64 s207.2.2.2.1, v0_2, v0_3, Value.int .i64 s207.2.2.2.2] :: .row 48 1 v0_2 n0_2 cs208 :: .row 48 1 v0_3 n0_3 cs295 :: .row 3 1 v85 n86 cs88 :: .row 3 1 v296 n297 cs298 :: L)) r337 rfl
                    refine ⟨(SP.on ((S336.box_now (i := 2) rfl).sub (j := 2) (n := 1) (c := [v0_2]) rfl) (SP.on ((S336.box_now (i := 2) rfl).sub (j := 0) (n := 2) (c := [Value.int .i64 s207.2.2.1, Value.int .i64 s207.2.2.2.1]) rfl) (SP.on ((S336.box_now (i := 2) rfl).sub (j := 0) (n := 1) (c := [Value.int .i64 s207.2.2.1]) rfl) (SP.nil (Sl.of_inc r337.run.inc S336.sl))))), ?_⟩
                    obtain ⟨p344, cs345, pt346, l347, at348, rel349, hall352⟩ := S336.row_atA (i := 3) rfl els209 (by decide) hx351
                    obtain ⟨v353, rfl, h354⟩ := eL_open rel349
                    refine FB.t (i := 19) (bs 21 1048575) rfl (SP.on ((S336.box_now (i := 2) rfl).sub (j := 2) (n := 1) (c := [v0_2]) rfl) (SP.on ((S336.box_now (i := 2) rfl).sub (j := 0) (n := 2) (c := [Value.int .i64 s207.2.2.1, Value.int .i64 s207.2.2.2.1]) rfl) (SP.on ((S336.box_now (i := 2) rfl).sub (j := 0) (n := 1) (c := [Value.int .i64 s207.2.2.1]) rfl) (SP.nil (Sl.of_inc r337.run.inc S336.sl))))) rfl (fun w' hw' => (E.indexAddr te54 rfl rfl pt346)) ?_
                    refine FB.all1 (i := 20) (by kernel_rfl) ?_
                    ·
                      obtain ⟨H355, S356, i357, h358, nv359⟩ := S336.sealRowU (i := 0) (l' := (.row 3 1 v112 n113 cs201 :: .box b0 87 [Value.int .i64 s207.2.2.1, Value.int .i64 s207.2.2.2.1, v0_2, v0_3, Value.int .i64 s207.2.2.2.2] :: .row 48 1 v0_2 n0_2 cs208 :: .row 48 1 v0_3 n0_3 cs295 :: .row 3 1 v85 n86 cs88 :: .row 3 1 v296 n297 cs298 :: L)) rfl els343 (by decide) rfl
                      obtain ⟨w360, cs366, run361, S362, els365, ce367⟩ := S356.putEls (P := Try.prog) (t := 48) (i := 2) rfl (els209.mono (up_mono ((i303.tr r337.run.inc).tr i357))) hput364 pt346 Try.sizeOf48 (u := v340) (c := [v340]) h358.cells rfl (ones_cons h358.one ones_nil) ⟨_, rfl, h358⟩
                      have S362 : St H0 w0 H355 w360 (.row 3 1 v112 n113 cs201 :: .box b0 87 [Value.int .i64 s207.2.2.1, Value.int .i64 s207.2.2.2.1, v0_2, v0_3, Value.int .i64 s207.2.2.2.2] :: .row 48 1 v0_2 n0_2 cs366 :: .row 48 1 v0_3 n0_3 cs295 :: .row 3 1 v85 n86 cs88 :: .row 3 1 v296 n297 cs298 :: L) := S362
                      have nd368 : (bl cs366).Nodup := by rw [ce367]; exact nd_put (Nat.le_add_right _ _) nd210 (by exact nd_one v340) (Els.dom (els209.mono (upI.tr (i303.tr r337.run.inc)))) (by exact nv359)
                      refine FC.act (l' := (bs 21 2097151)) rfl (by kernel_rfl) rfl rfl (E.store rfl rfl run361) ?_
                      refine ⟨(SP.o (SP.on ((S362.box_now (i := 1) rfl).sub (j := 0) (n := 2) (c := [Value.int .i64 s207.2.2.1, Value.int .i64 s207.2.2.2.1]) rfl) (SP.on ((S362.box_now (i := 1) rfl).sub (j := 0) (n := 1) (c := [Value.int .i64 s207.2.2.1]) rfl) (SP.nil (Sl.of_inc (r337.run.inc.tr i357) S362.sl))))), ?_⟩
                      exact FB.done (by kernel_rfl) ⟨_, _, S362, (r337.run.inc.tr i357), els365, nd368, k306, k307, k308, k309, k310, rfl, k312, k313, k314⟩
                ·
                  rintro f376 w375 ⟨H372, cs369, S373, i374, els370, nd371, k377, k378, k379, k380, k381, k382, k383, k384, k385⟩
                  refine FW.seq (FW.region ?_)
                  refine FL.v (E.move k380) ?_
                  refine FL.v (E.lenO te48 rfl S373 (i := 0) rfl els200 (by decide)) ?_
                  refine FL.v (E.move (v := Value.int .i64 0) rfl) ?_
                  refine FL.nil ?_
                  obtain ⟨m386, hchk387, hp⟩ := bnd hp
                  obtain ⟨q387, hq, hp⟩ := bndR hp
                  refine FW.block ?_
                  refine FW.mono (FW.forR (S := (List Int)) (X := Empty) (fun (i387 : Nat) (s387 : (List Int)) f w => ∃ H : GH, ∃ cs388 : List Value, St H0 w0 H w (.row 3 1 v112 n113 cs201 :: .box b0 87 [Value.int .i64 s207.2.2.1, Value.int .i64 s207.2.2.2.1, v0_2, v0_3, Value.int .i64 s207.2.2.2.2] :: .row 48 1 v0_2 n0_2 cs369 :: .row 48 1 v0_3 n0_3 cs295 :: .row 3 1 v85 n86 cs88 :: .row 3 1 v296 n297 cs388 :: L) ∧ Inc H372 H ∧ Els (up w0.heap.size H) eI 1 cs388 s387 ∧ f 160 = Value.int .i64 ((i387 : Nat) : Int) ∧ f 0 = Value.pointer (some (⟨b0, 0, none⟩ : Addr)) ∧ f 5 = v85 ∧ f 7 = Value.int .i64 r36 ∧ f 9 = v112 ∧ f 12 = Value.int .i64 ((i207 : Nat) : Int) ∧ f 14 = Value.int .i64 x321 ∧ f 97 = v0_2 ∧ f 98 = Value.int .i64 (len a0.rows) ∧ f 99 = Value.int .i64 ((i207 : Nat) : Int) ∧ f 158 = v112 ∧ f 159 = Value.int .i64 (len xs198)) (fun (q : Rs (List Int) Empty) e f w => match q with | .go s387 => e = Exit.exit 4 ∧ (∃ H : GH, ∃ cs388 : List Value, St H0 w0 H w (.row 3 1 v112 n113 cs201 :: .box b0 87 [Value.int .i64 s207.2.2.1, Value.int .i64 s207.2.2.2.1, v0_2, v0_3, Value.int .i64 s207.2.2.2.2] :: .row 48 1 v0_2 n0_2 cs369 :: .row 48 1 v0_3 n0_3 cs295 :: .row 3 1 v85 n86 cs88 :: .row 3 1 v296 n297 cs388 :: L) ∧ Inc H372 H ∧ Els (up w0.heap.size H) eI 1 cs388 s387 ∧ f 0 = Value.pointer (some (⟨b0, 0, none⟩ : Addr)) ∧ f 5 = v85 ∧ f 7 = Value.int .i64 r36 ∧ f 9 = v112 ∧ f 97 = v0_2 ∧ f 98 = Value.int .i64 (len a0.rows) ∧ f 99 = Value.int .i64 ((i207 : Nat) : Int)) | .rt x => x.elim) hq ⟨_, _, S373, (Inc.rfl _), (els299.mono (up_mono i374)), rfl, k377, k378, k379, k380, k381, k382, k383, k384, k385, rfl, rfl⟩ ?_ ?_) ?_
                  ·
                    clear hp hq
                    rintro i387 s387 f394 w393 ⟨H390, cs388, S391, i392, els389, k395, k396, k397, k398, k399, k400, k401, k402, k403, k404, k405, k406⟩ hi387 hj387 o473 hp
                    refine FW.seq (FW.region ?_)
                    refine FL.v (E.lssT k395 k406 (lss_chk hj387 hchk387)) ?_
                    refine FL.nil (FW.seq ?_)
                    refine FW.condT rfl rfl ?_
                    refine FW.skip (FW.seq (FW.block (FW.seq (FW.region ?_))))
                    refine FL.v (E.move k395) ?_
                    obtain ⟨x413, hx414, hp⟩ := bnd hp
                    obtain ⟨p407, cs408, pt409, l410, at411, rel412⟩ := S391.row_at (i := 0) rfl els200 (by decide) hx414
                    obtain rfl := eI_open rel412
                    refine FL.v (E.indexAddr te48 k405 k395 pt409) ?_
                    refine FL.v (E.load rfl (run_load0 Try.isAgg3 at411 rfl)) ?_
                    refine FL.v (E.assign (v := Value.int .i64 ((i387 : Nat) : Int)) rfl) ?_
                    refine FL.v (E.assign (v := Value.int .i64 x413) rfl) ?_
                    refine FL.nil ?_
                    obtain ⟨x432, hx433, hp⟩ := bnd hp
                    obtain ⟨u436, z435, hp⟩ := bnd hp
                    obtain ⟨x443, hx444, hp⟩ := bnd hp
                    obtain ⟨xs449, hput450, hp⟩ := bnd hp
                    refine FW.drawB (SX H0 w0 H390 (.box b0 87 [Value.int .i64 s207.2.2.1, Value.int .i64 s207.2.2.2.1, v0_2, v0_3, Value.int .i64 s207.2.2.2.2] :: .row 48 1 v0_3 n0_3 cs295 :: L)) (fun f w => ∃ H : GH, ∃ cs454 : List Value, St H0 w0 H w (.row 3 1 v112 n113 cs201 :: .box b0 87 [Value.int .i64 s207.2.2.1, Value.int .i64 s207.2.2.2.1, v0_2, v0_3, Value.int .i64 s207.2.2.2.2] :: .row 48 1 v0_2 n0_2 cs369 :: .row 48 1 v0_3 n0_3 cs295 :: .row 3 1 v85 n86 cs88 :: .row 3 1 v296 n297 cs454 :: L) ∧ Inc H390 H ∧ Els (up w0.heap.size H) eI 1 cs454 xs449 ∧ f 0 = Value.pointer (some (⟨b0, 0, none⟩ : Addr)) ∧ f 5 = v85 ∧ f 7 = Value.int .i64 r36 ∧ f 9 = v112 ∧ f 12 = Value.int .i64 ((i207 : Nat) : Int) ∧ f 14 = Value.int .i64 x321 ∧ f 97 = v0_2 ∧ f 98 = Value.int .i64 (len a0.rows) ∧ f 99 = Value.int .i64 ((i207 : Nat) : Int) ∧ f 158 = v112 ∧ f 159 = Value.int .i64 (len xs198) ∧ f 160 = Value.int .i64 ((i387 : Nat) : Int)) (by kernel_rfl) S391.sl ?_ ?_
                    ·
                      intro w415 r416
                      have S417 := S391.call r416
                      refine FB.t (i := 0) (bs 36 1) rfl (SP.nil ⟨_, (S417.selT (a := [.row 3 1 v112 n113 cs201, .box b0 87 [Value.int .i64 s207.2.2.1, Value.int .i64 s207.2.2.2.1, v0_2, v0_3, Value.int .i64 s207.2.2.2.2], .row 48 1 v0_2 n0_2 cs369, .row 48 1 v0_3 n0_3 cs295, .row 3 1 v85 n86 cs88, .row 3 1 v296 n297 cs388]) (l' := [.box b0 87 [Value.int .i64 s207.2.2.1, Value.int .i64 s207.2.2.2.1, v0_2, v0_3, Value.int .i64 s207.2.2.2.2], .row 48 1 v0_3 n0_3 cs295]) [1, 3] (by decide) rfl), (Inc.rfl _)⟩) rfl (fun w' hw' => (E.move k396)) ?_
                      refine FB.t (i := 1) (bs 36 3) rfl (SP.nil ⟨_, (S417.selT (a := [.row 3 1 v112 n113 cs201, .box b0 87 [Value.int .i64 s207.2.2.1, Value.int .i64 s207.2.2.2.1, v0_2, v0_3, Value.int .i64 s207.2.2.2.2], .row 48 1 v0_2 n0_2 cs369, .row 48 1 v0_3 n0_3 cs295, .row 3 1 v85 n86 cs88, .row 3 1 v296 n297 cs388]) (l' := [.box b0 87 [Value.int .i64 s207.2.2.1, Value.int .i64 s207.2.2.2.1, v0_2, v0_3, Value.int .i64 s207.2.2.2.2], .row 48 1 v0_3 n0_3 cs295]) [1, 3] (by decide) rfl), (Inc.rfl _)⟩) rfl (fun w' hw' => (E.nilCheck rfl)) ?_
                      refine FB.t (i := 2) (bs 36 7) rfl (SP.nil ⟨_, (S417.selT (a := [.row 3 1 v112 n113 cs201, .box b0 87 [Value.int .i64 s207.2.2.1, Value.int .i64 s207.2.2.2.1, v0_2, v0_3, Value.int .i64 s207.2.2.2.2], .row 48 1 v0_2 n0_2 cs369, .row 48 1 v0_3 n0_3 cs295, .row 3 1 v85 n86 cs88, .row 3 1 v296 n297 cs388]) (l' := [.box b0 87 [Value.int .i64 s207.2.2.1, Value.int .i64 s207.2.2.2.1, v0_2, v0_3, Value.int .i64 s207.2.2.2.2], .row 48 1 v0_3 n0_3 cs295]) [1, 3] (by decide) rfl), (Inc.rfl _)⟩) rfl (fun w' hw' => (E.fieldAddr tf87_2 rfl)) ?_
                      refine FB.t (i := 3) (bs 36 15) rfl (SP.nil ⟨_, (S417.selT (a := [.row 3 1 v112 n113 cs201, .box b0 87 [Value.int .i64 s207.2.2.1, Value.int .i64 s207.2.2.2.1, v0_2, v0_3, Value.int .i64 s207.2.2.2.2], .row 48 1 v0_2 n0_2 cs369, .row 48 1 v0_3 n0_3 cs295, .row 3 1 v85 n86 cs88, .row 3 1 v296 n297 cs388]) (l' := [.box b0 87 [Value.int .i64 s207.2.2.1, Value.int .i64 s207.2.2.2.1, v0_2, v0_3, Value.int .i64 s207.2.2.2.2], .row 48 1 v0_3 n0_3 cs295]) [1, 3] (by decide) rfl), (Inc.rfl _)⟩) rfl (fun w' hw' => (E.load rfl (run_load1 Try.isAgg54 (SX.box_now hw' (i := 0) rfl) rfl))) ?_
                      refine FB.t (i := 4) (bs 36 31) rfl (SP.nil ⟨_, (S417.selT (a := [.row 3 1 v112 n113 cs201, .box b0 87 [Value.int .i64 s207.2.2.1, Value.int .i64 s207.2.2.2.1, v0_2, v0_3, Value.int .i64 s207.2.2.2.2], .row 48 1 v0_2 n0_2 cs369, .row 48 1 v0_3 n0_3 cs295, .row 3 1 v85 n86 cs88, .row 3 1 v296 n297 cs388]) (l' := [.box b0 87 [Value.int .i64 s207.2.2.1, Value.int .i64 s207.2.2.2.1, v0_2, v0_3, Value.int .i64 s207.2.2.2.2], .row 48 1 v0_3 n0_3 cs295]) [1, 3] (by decide) rfl), (Inc.rfl _)⟩) rfl (fun w' hw' => (E.move k400)) ?_
                      obtain ⟨p418, pt419, at420, hall421⟩ := S417.pend_atA (i := 3) rfl pd300
                      refine FB.t (i := 5) (bs 36 63) rfl (SP.nil ⟨_, (S417.selT (a := [.row 3 1 v112 n113 cs201, .box b0 87 [Value.int .i64 s207.2.2.1, Value.int .i64 s207.2.2.2.1, v0_2, v0_3, Value.int .i64 s207.2.2.2.2], .row 48 1 v0_2 n0_2 cs369, .row 48 1 v0_3 n0_3 cs295, .row 3 1 v85 n86 cs88, .row 3 1 v296 n297 cs388]) (l' := [.box b0 87 [Value.int .i64 s207.2.2.1, Value.int .i64 s207.2.2.2.1, v0_2, v0_3, Value.int .i64 s207.2.2.2.2], .row 48 1 v0_3 n0_3 cs295]) [1, 3] (by decide) rfl), (Inc.rfl _)⟩) rfl (fun w' hw' => (E.indexAddr te54 rfl rfl pt419)) ?_
                      refine FB.t (i := 6) (bs 36 127) rfl (SP.nil ⟨_, (S417.selT (a := [.row 3 1 v112 n113 cs201, .box b0 87 [Value.int .i64 s207.2.2.1, Value.int .i64 s207.2.2.2.1, v0_2, v0_3, Value.int .i64 s207.2.2.2.2], .row 48 1 v0_2 n0_2 cs369, .row 48 1 v0_3 n0_3 cs295, .row 3 1 v85 n86 cs88, .row 3 1 v296 n297 cs388]) (l' := [.box b0 87 [Value.int .i64 s207.2.2.1, Value.int .i64 s207.2.2.2.1, v0_2, v0_3, Value.int .i64 s207.2.2.2.2], .row 48 1 v0_3 n0_3 cs295]) [1, 3] (by decide) rfl), (Inc.rfl _)⟩) rfl (fun w' hw' => (E.load rfl (run_load0 Try.isAgg48 (hw'.use fun _ st => hall421 _ _ _ 1 st rfl) rfl))) ?_
                      refine FB.t (i := 7) (bs 36 255) rfl (SP.nil ⟨_, (S417.selT (a := [.row 3 1 v112 n113 cs201, .box b0 87 [Value.int .i64 s207.2.2.1, Value.int .i64 s207.2.2.2.1, v0_2, v0_3, Value.int .i64 s207.2.2.2.2], .row 48 1 v0_2 n0_2 cs369, .row 48 1 v0_3 n0_3 cs295, .row 3 1 v85 n86 cs88, .row 3 1 v296 n297 cs388]) (l' := [.box b0 87 [Value.int .i64 s207.2.2.1, Value.int .i64 s207.2.2.2.1, v0_2, v0_3, Value.int .i64 s207.2.2.2.2], .row 48 1 v0_3 n0_3 cs295]) [1, 3] (by decide) rfl), (Inc.rfl _)⟩) rfl (fun w' hw' => (E.move (v := Value.int .i64 ((i387 : Nat) : Int)) rfl)) ?_
                      refine FB.t (i := 8) (bs 36 511) rfl (SP.nil ⟨_, (S417.selT (a := [.row 3 1 v112 n113 cs201, .box b0 87 [Value.int .i64 s207.2.2.1, Value.int .i64 s207.2.2.2.1, v0_2, v0_3, Value.int .i64 s207.2.2.2.2], .row 48 1 v0_2 n0_2 cs369, .row 48 1 v0_3 n0_3 cs295, .row 3 1 v85 n86 cs88, .row 3 1 v296 n297 cs388]) (l' := [.box b0 87 [Value.int .i64 s207.2.2.1, Value.int .i64 s207.2.2.2.1, v0_2, v0_3, Value.int .i64 s207.2.2.2.2], .row 48 1 v0_3 n0_3 cs295]) [1, 3] (by decide) rfl), (Inc.rfl _)⟩) rfl (fun w' hw' => (E.move k396)) ?_
                      refine FB.t (i := 9) (bs 36 1023) rfl (SP.nil ⟨_, (S417.selT (a := [.row 3 1 v112 n113 cs201, .box b0 87 [Value.int .i64 s207.2.2.1, Value.int .i64 s207.2.2.2.1, v0_2, v0_3, Value.int .i64 s207.2.2.2.2], .row 48 1 v0_2 n0_2 cs369, .row 48 1 v0_3 n0_3 cs295, .row 3 1 v85 n86 cs88, .row 3 1 v296 n297 cs388]) (l' := [.box b0 87 [Value.int .i64 s207.2.2.1, Value.int .i64 s207.2.2.2.1, v0_2, v0_3, Value.int .i64 s207.2.2.2.2], .row 48 1 v0_3 n0_3 cs295]) [1, 3] (by decide) rfl), (Inc.rfl _)⟩) rfl (fun w' hw' => (E.nilCheck rfl)) ?_
                      refine FB.t (i := 10) (bs 36 2047) rfl (SP.nil ⟨_, (S417.selT (a := [.row 3 1 v112 n113 cs201, .box b0 87 [Value.int .i64 s207.2.2.1, Value.int .i64 s207.2.2.2.1, v0_2, v0_3, Value.int .i64 s207.2.2.2.2], .row 48 1 v0_2 n0_2 cs369, .row 48 1 v0_3 n0_3 cs295, .row 3 1 v85 n86 cs88, .row 3 1 v296 n297 cs388]) (l' := [.box b0 87 [Value.int .i64 s207.2.2.1, Value.int .i64 s207.2.2.2.1, v0_2, v0_3, Value.int .i64 s207.2.2.2.2], .row 48 1 v0_3 n0_3 cs295]) [1, 3] (by decide) rfl), (Inc.rfl _)⟩) rfl (fun w' hw' => (E.fieldAddr tf87_2 rfl)) ?_
                      refine FB.t (i := 11) (bs 36 4095) rfl (SP.nil ⟨_, (S417.selT (a := [.row 3 1 v112 n113 cs201, .box b0 87 [Value.int .i64 s207.2.2.1, Value.int .i64 s207.2.2.2.1, v0_2, v0_3, Value.int .i64 s207.2.2.2.2], .row 48 1 v0_2 n0_2 cs369, .row 48 1 v0_3 n0_3 cs295, .row 3 1 v85 n86 cs88, .row 3 1 v296 n297 cs388]) (l' := [.box b0 87 [Value.int .i64 s207.2.2.1, Value.int .i64 s207.2.2.2.1, v0_2, v0_3, Value.int .i64 s207.2.2.2.2], .row 48 1 v0_3 n0_3 cs295]) [1, 3] (by decide) rfl), (Inc.rfl _)⟩) rfl (fun w' hw' => (E.load rfl (run_load1 Try.isAgg54 (SX.box_now hw' (i := 0) rfl) rfl))) ?_
                      refine FB.t (i := 12) (bs 36 8191) rfl (SP.nil ⟨_, (S417.selT (a := [.row 3 1 v112 n113 cs201, .box b0 87 [Value.int .i64 s207.2.2.1, Value.int .i64 s207.2.2.2.1, v0_2, v0_3, Value.int .i64 s207.2.2.2.2], .row 48 1 v0_2 n0_2 cs369, .row 48 1 v0_3 n0_3 cs295, .row 3 1 v85 n86 cs88, .row 3 1 v296 n297 cs388]) (l' := [.box b0 87 [Value.int .i64 s207.2.2.1, Value.int .i64 s207.2.2.2.1, v0_2, v0_3, Value.int .i64 s207.2.2.2.2], .row 48 1 v0_3 n0_3 cs295]) [1, 3] (by decide) rfl), (Inc.rfl _)⟩) rfl (fun w' hw' => (E.move k400)) ?_
                      obtain ⟨p422, pt423, at424, hall425⟩ := S417.pend_atA (i := 3) rfl pd300
                      refine FB.t (i := 13) (bs 36 16383) rfl (SP.nil ⟨_, (S417.selT (a := [.row 3 1 v112 n113 cs201, .box b0 87 [Value.int .i64 s207.2.2.1, Value.int .i64 s207.2.2.2.1, v0_2, v0_3, Value.int .i64 s207.2.2.2.2], .row 48 1 v0_2 n0_2 cs369, .row 48 1 v0_3 n0_3 cs295, .row 3 1 v85 n86 cs88, .row 3 1 v296 n297 cs388]) (l' := [.box b0 87 [Value.int .i64 s207.2.2.1, Value.int .i64 s207.2.2.2.1, v0_2, v0_3, Value.int .i64 s207.2.2.2.2], .row 48 1 v0_3 n0_3 cs295]) [1, 3] (by decide) rfl), (Inc.rfl _)⟩) rfl (fun w' hw' => (E.indexAddr te54 rfl rfl pt423)) ?_
                      refine FB.t (i := 14) (bs 36 32767) rfl (SP.nil ⟨_, (S417.selT (a := [.row 3 1 v112 n113 cs201, .box b0 87 [Value.int .i64 s207.2.2.1, Value.int .i64 s207.2.2.2.1, v0_2, v0_3, Value.int .i64 s207.2.2.2.2], .row 48 1 v0_2 n0_2 cs369, .row 48 1 v0_3 n0_3 cs295, .row 3 1 v85 n86 cs88, .row 3 1 v296 n297 cs388]) (l' := [.box b0 87 [Value.int .i64 s207.2.2.1, Value.int .i64 s207.2.2.2.1, v0_2, v0_3, Value.int .i64 s207.2.2.2.2], .row 48 1 v0_3 n0_3 cs295]) [1, 3] (by decide) rfl), (Inc.rfl _)⟩) rfl (fun w' hw' => (E.load rfl (run_load0 Try.isAgg48 (hw'.use fun _ st => hall425 _ _ _ 1 st rfl) rfl))) ?_
                      refine FB.t (i := 15) (bs 36 65535) rfl (SP.nil ⟨_, (S417.selT (a := [.row 3 1 v112 n113 cs201, .box b0 87 [Value.int .i64 s207.2.2.1, Value.int .i64 s207.2.2.2.1, v0_2, v0_3, Value.int .i64 s207.2.2.2.2], .row 48 1 v0_2 n0_2 cs369, .row 48 1 v0_3 n0_3 cs295, .row 3 1 v85 n86 cs88, .row 3 1 v296 n297 cs388]) (l' := [.box b0 87 [Value.int .i64 s207.2.2.1, Value.int .i64 s207.2.2.2.1, v0_2, v0_3, Value.int .i64 s207.2.2.2.2], .row 48 1 v0_3 n0_3 cs295]) [1, 3] (by decide) rfl), (Inc.rfl _)⟩) rfl (fun w' hw' => (E.move (v := Value.int .i64 ((i387 : Nat) : Int)) rfl)) ?_
                      obtain ⟨p426, cs427, pt428, l429, at430, rel431, hall434⟩ := S417.row_atA (i := 5) rfl els389 (by decide) hx433
                      obtain rfl := eI_open rel431
                      refine FB.t (i := 16) (bs 36 131071) rfl (SP.nil ⟨_, (S417.selT (a := [.row 3 1 v112 n113 cs201, .box b0 87 [Value.int .i64 s207.2.2.1, Value.int .i64 s207.2.2.2.1, v0_2, v0_3, Value.int .i64 s207.2.2.2.2], .row 48 1 v0_2 n0_2 cs369, .row 48 1 v0_3 n0_3 cs295, .row 3 1 v85 n86 cs88, .row 3 1 v296 n297 cs388]) (l' := [.box b0 87 [Value.int .i64 s207.2.2.1, Value.int .i64 s207.2.2.2.1, v0_2, v0_3, Value.int .i64 s207.2.2.2.2], .row 48 1 v0_3 n0_3 cs295]) [1, 3] (by decide) rfl), (Inc.rfl _)⟩) rfl (fun w' hw' => (E.indexAddr te48 rfl rfl pt428)) ?_
                      refine FB.phase [35] (fun w' => WAt w' p426 [Value.int .i64 x432]) ?_
                      refine FB.p (i := 17) (bs 36 262143) 0 [27, 33, 34, 35] rfl (SP.on (hall434 _ _ _ 5 S417 rfl) (SP.nil ⟨_, (S417.selT (a := [.row 3 1 v112 n113 cs201, .box b0 87 [Value.int .i64 s207.2.2.1, Value.int .i64 s207.2.2.2.1, v0_2, v0_3, Value.int .i64 s207.2.2.2.2], .row 48 1 v0_2 n0_2 cs369, .row 48 1 v0_3 n0_3 cs295, .row 3 1 v85 n86 cs88, .row 3 1 v296 n297 cs388]) (l' := [.box b0 87 [Value.int .i64 s207.2.2.1, Value.int .i64 s207.2.2.2.1, v0_2, v0_3, Value.int .i64 s207.2.2.2.2], .row 48 1 v0_3 n0_3 cs295]) [1, 3] (by decide) rfl), (Inc.rfl _)⟩)) rfl rfl (fun w' hw' => (E.load rfl (run_load0 Try.isAgg3 hw' rfl))) ?_
                      refine FB.t (i := 18) (bs 36 524287) rfl (SP.on (hall434 _ _ _ 5 S417 rfl) (SP.nil ⟨_, (S417.selT (a := [.row 3 1 v112 n113 cs201, .box b0 87 [Value.int .i64 s207.2.2.1, Value.int .i64 s207.2.2.2.1, v0_2, v0_3, Value.int .i64 s207.2.2.2.2], .row 48 1 v0_2 n0_2 cs369, .row 48 1 v0_3 n0_3 cs295, .row 3 1 v85 n86 cs88, .row 3 1 v296 n297 cs388]) (l' := [.box b0 87 [Value.int .i64 s207.2.2.1, Value.int .i64 s207.2.2.2.1, v0_2, v0_3, Value.int .i64 s207.2.2.2.2], .row 48 1 v0_3 n0_3 cs295]) [1, 3] (by decide) rfl), (Inc.rfl _)⟩)) rfl (fun w' hw' => (E.move k396)) ?_
                      refine FB.t (i := 19) (bs 36 1048575) rfl (SP.on (hall434 _ _ _ 5 S417 rfl) (SP.nil ⟨_, (S417.selT (a := [.row 3 1 v112 n113 cs201, .box b0 87 [Value.int .i64 s207.2.2.1, Value.int .i64 s207.2.2.2.1, v0_2, v0_3, Value.int .i64 s207.2.2.2.2], .row 48 1 v0_2 n0_2 cs369, .row 48 1 v0_3 n0_3 cs295, .row 3 1 v85 n86 cs88, .row 3 1 v296 n297 cs388]) (l' := [.box b0 87 [Value.int .i64 s207.2.2.1, Value.int .i64 s207.2.2.2.1, v0_2, v0_3, Value.int .i64 s207.2.2.2.2], .row 48 1 v0_3 n0_3 cs295]) [1, 3] (by decide) rfl), (Inc.rfl _)⟩)) rfl (fun w' hw' => (E.nilCheck rfl)) ?_
                      refine FB.t (i := 20) (bs 36 2097151) rfl (SP.on (hall434 _ _ _ 5 S417 rfl) (SP.nil ⟨_, (S417.selT (a := [.row 3 1 v112 n113 cs201, .box b0 87 [Value.int .i64 s207.2.2.1, Value.int .i64 s207.2.2.2.1, v0_2, v0_3, Value.int .i64 s207.2.2.2.2], .row 48 1 v0_2 n0_2 cs369, .row 48 1 v0_3 n0_3 cs295, .row 3 1 v85 n86 cs88, .row 3 1 v296 n297 cs388]) (l' := [.box b0 87 [Value.int .i64 s207.2.2.1, Value.int .i64 s207.2.2.2.1, v0_2, v0_3, Value.int .i64 s207.2.2.2.2], .row 48 1 v0_3 n0_3 cs295]) [1, 3] (by decide) rfl), (Inc.rfl _)⟩)) rfl (fun w' hw' => (E.fieldAddr tf87_0 rfl)) ?_
                      refine FB.t (i := 21) (bs 36 4194303) rfl (SP.on (hall434 _ _ _ 5 S417 rfl) (SP.nil ⟨_, (S417.selT (a := [.row 3 1 v112 n113 cs201, .box b0 87 [Value.int .i64 s207.2.2.1, Value.int .i64 s207.2.2.2.1, v0_2, v0_3, Value.int .i64 s207.2.2.2.2], .row 48 1 v0_2 n0_2 cs369, .row 48 1 v0_3 n0_3 cs295, .row 3 1 v85 n86 cs88, .row 3 1 v296 n297 cs388]) (l' := [.box b0 87 [Value.int .i64 s207.2.2.1, Value.int .i64 s207.2.2.2.1, v0_2, v0_3, Value.int .i64 s207.2.2.2.2], .row 48 1 v0_3 n0_3 cs295]) [1, 3] (by decide) rfl), (Inc.rfl _)⟩)) rfl (fun w' hw' => (E.fieldAddrN tf53_0 rfl rfl)) ?_
                      refine FB.t (i := 22) (bs 36 8388607) rfl (SP.on (hall434 _ _ _ 5 S417 rfl) (SP.nil ⟨_, (S417.selT (a := [.row 3 1 v112 n113 cs201, .box b0 87 [Value.int .i64 s207.2.2.1, Value.int .i64 s207.2.2.2.1, v0_2, v0_3, Value.int .i64 s207.2.2.2.2], .row 48 1 v0_2 n0_2 cs369, .row 48 1 v0_3 n0_3 cs295, .row 3 1 v85 n86 cs88, .row 3 1 v296 n297 cs388]) (l' := [.box b0 87 [Value.int .i64 s207.2.2.1, Value.int .i64 s207.2.2.2.1, v0_2, v0_3, Value.int .i64 s207.2.2.2.2], .row 48 1 v0_3 n0_3 cs295]) [1, 3] (by decide) rfl), (Inc.rfl _)⟩)) rfl (fun w' hw' => (E.load rfl (run_load1 Try.isAgg3 (SX.box_now hw' (i := 0) rfl) rfl))) ?_
                      refine FB.t (i := 23) (bs 36 16777215) rfl (SP.on (hall434 _ _ _ 5 S417 rfl) (SP.nil ⟨_, (S417.selT (a := [.row 3 1 v112 n113 cs201, .box b0 87 [Value.int .i64 s207.2.2.1, Value.int .i64 s207.2.2.2.1, v0_2, v0_3, Value.int .i64 s207.2.2.2.2], .row 48 1 v0_2 n0_2 cs369, .row 48 1 v0_3 n0_3 cs295, .row 3 1 v85 n86 cs88, .row 3 1 v296 n297 cs388]) (l' := [.box b0 87 [Value.int .i64 s207.2.2.1, Value.int .i64 s207.2.2.2.1, v0_2, v0_3, Value.int .i64 s207.2.2.2.2], .row 48 1 v0_3 n0_3 cs295]) [1, 3] (by decide) rfl), (Inc.rfl _)⟩)) rfl (fun w' hw' => (E.move k401)) ?_
                      refine FB.t (i := 24) (bs 36 33554431) rfl (SP.on (hall434 _ _ _ 5 S417 rfl) (SP.nil ⟨_, (S417.selT (a := [.row 3 1 v112 n113 cs201, .box b0 87 [Value.int .i64 s207.2.2.1, Value.int .i64 s207.2.2.2.1, v0_2, v0_3, Value.int .i64 s207.2.2.2.2], .row 48 1 v0_2 n0_2 cs369, .row 48 1 v0_3 n0_3 cs295, .row 3 1 v85 n86 cs88, .row 3 1 v296 n297 cs388]) (l' := [.box b0 87 [Value.int .i64 s207.2.2.1, Value.int .i64 s207.2.2.2.1, v0_2, v0_3, Value.int .i64 s207.2.2.2.2], .row 48 1 v0_3 n0_3 cs295]) [1, 3] (by decide) rfl), (Inc.rfl _)⟩)) rfl (fun w' hw' => (E.sub rfl rfl)) ?_
                      refine FB.t (i := 25) (bs 36 67108863) rfl (SP.on (hall434 _ _ _ 5 S417 rfl) (SP.nil ⟨_, (S417.selT (a := [.row 3 1 v112 n113 cs201, .box b0 87 [Value.int .i64 s207.2.2.1, Value.int .i64 s207.2.2.2.1, v0_2, v0_3, Value.int .i64 s207.2.2.2.2], .row 48 1 v0_2 n0_2 cs369, .row 48 1 v0_3 n0_3 cs295, .row 3 1 v85 n86 cs88, .row 3 1 v296 n297 cs388]) (l' := [.box b0 87 [Value.int .i64 s207.2.2.1, Value.int .i64 s207.2.2.2.1, v0_2, v0_3, Value.int .i64 s207.2.2.2.2], .row 48 1 v0_3 n0_3 cs295]) [1, 3] (by decide) rfl), (Inc.rfl _)⟩)) rfl (fun w' hw' => (E.move (v := Value.int .i64 x413) rfl)) ?_
                      refine FB.t (i := 26) (bs 36 134217727) rfl (SP.on (hall434 _ _ _ 5 S417 rfl) (SP.nil ⟨_, (S417.selT (a := [.row 3 1 v112 n113 cs201, .box b0 87 [Value.int .i64 s207.2.2.1, Value.int .i64 s207.2.2.2.1, v0_2, v0_3, Value.int .i64 s207.2.2.2.2], .row 48 1 v0_2 n0_2 cs369, .row 48 1 v0_3 n0_3 cs295, .row 3 1 v85 n86 cs88, .row 3 1 v296 n297 cs388]) (l' := [.box b0 87 [Value.int .i64 s207.2.2.1, Value.int .i64 s207.2.2.2.1, v0_2, v0_3, Value.int .i64 s207.2.2.2.2], .row 48 1 v0_3 n0_3 cs295]) [1, 3] (by decide) rfl), (Inc.rfl _)⟩)) rfl (fun w' hw' => (E.mul rfl rfl)) ?_
                      refine FB.t (i := 27) (bs 36 268435455) rfl (SP.on (hall434 _ _ _ 5 S417 rfl) (SP.nil ⟨_, (S417.selT (a := [.row 3 1 v112 n113 cs201, .box b0 87 [Value.int .i64 s207.2.2.1, Value.int .i64 s207.2.2.2.1, v0_2, v0_3, Value.int .i64 s207.2.2.2.2], .row 48 1 v0_2 n0_2 cs369, .row 48 1 v0_3 n0_3 cs295, .row 3 1 v85 n86 cs88, .row 3 1 v296 n297 cs388]) (l' := [.box b0 87 [Value.int .i64 s207.2.2.1, Value.int .i64 s207.2.2.2.1, v0_2, v0_3, Value.int .i64 s207.2.2.2.2], .row 48 1 v0_3 n0_3 cs295]) [1, 3] (by decide) rfl), (Inc.rfl _)⟩)) rfl (fun w' hw' => (E.add rfl rfl)) ?_
                      refine FB.t (i := 28) (bs 36 536870911) rfl (SP.on (hall434 _ _ _ 5 S417 rfl) (SP.nil ⟨_, (S417.selT (a := [.row 3 1 v112 n113 cs201, .box b0 87 [Value.int .i64 s207.2.2.1, Value.int .i64 s207.2.2.2.1, v0_2, v0_3, Value.int .i64 s207.2.2.2.2], .row 48 1 v0_2 n0_2 cs369, .row 48 1 v0_3 n0_3 cs295, .row 3 1 v85 n86 cs88, .row 3 1 v296 n297 cs388]) (l' := [.box b0 87 [Value.int .i64 s207.2.2.1, Value.int .i64 s207.2.2.2.1, v0_2, v0_3, Value.int .i64 s207.2.2.2.2], .row 48 1 v0_3 n0_3 cs295]) [1, 3] (by decide) rfl), (Inc.rfl _)⟩)) rfl (fun w' hw' => (E.move k396)) ?_
                      refine FB.t (i := 29) (bs 36 1073741823) rfl (SP.on (hall434 _ _ _ 5 S417 rfl) (SP.nil ⟨_, (S417.selT (a := [.row 3 1 v112 n113 cs201, .box b0 87 [Value.int .i64 s207.2.2.1, Value.int .i64 s207.2.2.2.1, v0_2, v0_3, Value.int .i64 s207.2.2.2.2], .row 48 1 v0_2 n0_2 cs369, .row 48 1 v0_3 n0_3 cs295, .row 3 1 v85 n86 cs88, .row 3 1 v296 n297 cs388]) (l' := [.box b0 87 [Value.int .i64 s207.2.2.1, Value.int .i64 s207.2.2.2.1, v0_2, v0_3, Value.int .i64 s207.2.2.2.2], .row 48 1 v0_3 n0_3 cs295]) [1, 3] (by decide) rfl), (Inc.rfl _)⟩)) rfl (fun w' hw' => (E.nilCheck rfl)) ?_
                      refine FB.t (i := 30) (bs 36 2147483647) rfl (SP.on (hall434 _ _ _ 5 S417 rfl) (SP.nil ⟨_, (S417.selT (a := [.row 3 1 v112 n113 cs201, .box b0 87 [Value.int .i64 s207.2.2.1, Value.int .i64 s207.2.2.2.1, v0_2, v0_3, Value.int .i64 s207.2.2.2.2], .row 48 1 v0_2 n0_2 cs369, .row 48 1 v0_3 n0_3 cs295, .row 3 1 v85 n86 cs88, .row 3 1 v296 n297 cs388]) (l' := [.box b0 87 [Value.int .i64 s207.2.2.1, Value.int .i64 s207.2.2.2.1, v0_2, v0_3, Value.int .i64 s207.2.2.2.2], .row 48 1 v0_3 n0_3 cs295]) [1, 3] (by decide) rfl), (Inc.rfl _)⟩)) rfl (fun w' hw' => (E.fieldAddr tf87_0 rfl)) ?_
                      refine FB.t (i := 31) (bs 36 4294967295) rfl (SP.on (hall434 _ _ _ 5 S417 rfl) (SP.nil ⟨_, (S417.selT (a := [.row 3 1 v112 n113 cs201, .box b0 87 [Value.int .i64 s207.2.2.1, Value.int .i64 s207.2.2.2.1, v0_2, v0_3, Value.int .i64 s207.2.2.2.2], .row 48 1 v0_2 n0_2 cs369, .row 48 1 v0_3 n0_3 cs295, .row 3 1 v85 n86 cs88, .row 3 1 v296 n297 cs388]) (l' := [.box b0 87 [Value.int .i64 s207.2.2.1, Value.int .i64 s207.2.2.2.1, v0_2, v0_3, Value.int .i64 s207.2.2.2.2], .row 48 1 v0_3 n0_3 cs295]) [1, 3] (by decide) rfl), (Inc.rfl _)⟩)) rfl (fun w' hw' => (E.fieldAddrN tf53_0 rfl rfl)) ?_
                      refine FB.t (i := 32) (bs 36 8589934591) rfl (SP.on (hall434 _ _ _ 5 S417 rfl) (SP.nil ⟨_, (S417.selT (a := [.row 3 1 v112 n113 cs201, .box b0 87 [Value.int .i64 s207.2.2.1, Value.int .i64 s207.2.2.2.1, v0_2, v0_3, Value.int .i64 s207.2.2.2.2], .row 48 1 v0_2 n0_2 cs369, .row 48 1 v0_3 n0_3 cs295, .row 3 1 v85 n86 cs88, .row 3 1 v296 n297 cs388]) (l' := [.box b0 87 [Value.int .i64 s207.2.2.1, Value.int .i64 s207.2.2.2.1, v0_2, v0_3, Value.int .i64 s207.2.2.2.2], .row 48 1 v0_3 n0_3 cs295]) [1, 3] (by decide) rfl), (Inc.rfl _)⟩)) rfl (fun w' hw' => (E.load rfl (run_load1 Try.isAgg3 (SX.box_now hw' (i := 0) rfl) rfl))) ?_
                      refine FB.t (i := 33) (bs 36 17179869183) rfl (SP.on (hall434 _ _ _ 5 S417 rfl) (SP.nil ⟨_, (S417.selT (a := [.row 3 1 v112 n113 cs201, .box b0 87 [Value.int .i64 s207.2.2.1, Value.int .i64 s207.2.2.2.1, v0_2, v0_3, Value.int .i64 s207.2.2.2.2], .row 48 1 v0_2 n0_2 cs369, .row 48 1 v0_3 n0_3 cs295, .row 3 1 v85 n86 cs88, .row 3 1 v296 n297 cs388]) (l' := [.box b0 87 [Value.int .i64 s207.2.2.1, Value.int .i64 s207.2.2.2.1, v0_2, v0_3, Value.int .i64 s207.2.2.2.2], .row 48 1 v0_3 n0_3 cs295]) [1, 3] (by decide) rfl), (Inc.rfl _)⟩)) rfl (fun w' hw' => (E.rem rfl rfl (nz_ne z435))) ?_
                      obtain ⟨p437, cs438, pt439, l440, at441, rel442, hall445⟩ := S417.row_atA (i := 5) rfl els389 (by decide) hx444
                      obtain rfl := eI_open rel442
                      refine FB.t (i := 34) (bs 36 34359738367) rfl (SP.on (hall434 _ _ _ 5 S417 rfl) (SP.nil ⟨_, (S417.selT (a := [.row 3 1 v112 n113 cs201, .box b0 87 [Value.int .i64 s207.2.2.1, Value.int .i64 s207.2.2.2.1, v0_2, v0_3, Value.int .i64 s207.2.2.2.2], .row 48 1 v0_2 n0_2 cs369, .row 48 1 v0_3 n0_3 cs295, .row 3 1 v85 n86 cs88, .row 3 1 v296 n297 cs388]) (l' := [.box b0 87 [Value.int .i64 s207.2.2.1, Value.int .i64 s207.2.2.2.1, v0_2, v0_3, Value.int .i64 s207.2.2.2.2], .row 48 1 v0_3 n0_3 cs295]) [1, 3] (by decide) rfl), (Inc.rfl _)⟩)) rfl (fun w' hw' => (E.indexAddr te48 rfl rfl pt439)) ?_
                      refine FB.all1 (i := 35) (by kernel_rfl) ?_
                      ·
                        obtain ⟨w446, cs452, run447, S448, els451, ce453⟩ := S417.putEls (P := Try.prog) (t := 3) (i := 5) rfl els389 hput450 pt439 Try.sizeOf3 (u := Value.int .i64 ((wr (x432 + (wr ((wr (s207.2.2.1 - x321)) * x413)))).tmod s207.2.2.1)) (c := [Value.int .i64 ((wr (x432 + (wr ((wr (s207.2.2.1 - x321)) * x413)))).tmod s207.2.2.1)]) rfl rfl (ones_cons rfl ones_nil) rfl
                        have S448 : St H0 w0 H390 w446 (.row 3 1 v112 n113 cs201 :: .box b0 87 [Value.int .i64 s207.2.2.1, Value.int .i64 s207.2.2.2.1, v0_2, v0_3, Value.int .i64 s207.2.2.2.2] :: .row 48 1 v0_2 n0_2 cs369 :: .row 48 1 v0_3 n0_3 cs295 :: .row 3 1 v85 n86 cs88 :: .row 3 1 v296 n297 cs452 :: L) := S448
                        refine FC.act (l' := (bs 36 68719476735)) rfl (by kernel_rfl) rfl rfl (E.store rfl rfl run447) ?_
                        refine ⟨(SP.o (SP.nil ⟨_, (S448.selT (a := [.row 3 1 v112 n113 cs201, .box b0 87 [Value.int .i64 s207.2.2.1, Value.int .i64 s207.2.2.2.1, v0_2, v0_3, Value.int .i64 s207.2.2.2.2], .row 48 1 v0_2 n0_2 cs369, .row 48 1 v0_3 n0_3 cs295, .row 3 1 v85 n86 cs88, .row 3 1 v296 n297 cs452]) (l' := [.box b0 87 [Value.int .i64 s207.2.2.1, Value.int .i64 s207.2.2.2.1, v0_2, v0_3, Value.int .i64 s207.2.2.2.2], .row 48 1 v0_3 n0_3 cs295]) [1, 3] (by decide) rfl), (Inc.rfl _)⟩)), ?_⟩
                        exact FB.done (by kernel_rfl) ⟨_, _, S448, (Inc.rfl _), els451, k396, k397, k398, k399, k400, k401, k402, k403, k404, k405, k406, k395⟩
                    ·
                      rintro f460 w459 ⟨H456, cs454, S457, i458, els455, k461, k462, k463, k464, k465, k466, k467, k468, k469, k470, k471, k472⟩
                      refine FW.region ?_
                      refine FL.v (E.add k472 rfl) ?_
                      refine FL.v (E.move (v := Value.int .i64 (wr (((i387 : Nat) : Int) + 1))) rfl) ?_
                      refine FL.nil ?_
                      obtain rfl := Option.some.inj hp
                      exact ⟨rfl, ⟨_, _, S457, (i392.tr i458), els455, (nat_succ rfl hj387 (chk_le hchk387)), k461, k462, k463, k464, k465, k466, k467, k468, k469, k470, k471⟩⟩
                  ·
                    clear hp hq
                    rintro s387 f498 w497 ⟨H494, cs388, S495, i496, els389, k499, k500, k501, k502, k503, k504, k505, k506, k507, k508, k509, k510⟩
                    refine FW.seq (FW.region ?_)
                    refine FL.v (E.lss k499 k510) ?_
                    refine FL.nil (FW.seq ?_)
                    refine FW.condF rfl (dlt_maxchk hchk387) ?_
                    refine FW.exit ?_
                    exact ⟨nofun, rfl, ⟨_, _, S495, i496, els389, k500, k501, k502, k503, k506, k507, k508⟩⟩
                  ·
                    clear hq
                    intro e f478 w477 hD
                    rcases q387 with s387 | x387
                    ·
                      obtain ⟨rfl, hD⟩ := hD
                      obtain ⟨H474, cs388, S475, i476, els389, k479, k480, k481, k482, k483, k484, k485⟩ := hD
                      replace hp := el_go hp
                      refine FW.region ?_
                      refine FL.v (E.add k485 rfl) ?_
                      refine FL.v (E.move (v := Value.int .i64 (wr (((i207 : Nat) : Int) + 1))) rfl) ?_
                      refine FL.nil ?_
                      obtain ⟨H486, S487, i488, h489, nv490⟩ := S475.sealRowU (i := 5) (l' := (.row 3 1 v112 n113 cs201 :: .box b0 87 [Value.int .i64 s207.2.2.1, Value.int .i64 s207.2.2.2.1, v0_2, v0_3, Value.int .i64 s207.2.2.2.2] :: .row 48 1 v0_2 n0_2 cs369 :: .row 48 1 v0_3 n0_3 cs295 :: .row 3 1 v85 n86 cs88 :: L)) rfl els389 (by decide) rfl
                      obtain ⟨xs491, hput492, hp⟩ := bnd hp
                      have els493 : Els (up w0.heap.size H486) (eL eI 1) 1 cs295 xs491 := (pd300.mono (up_mono ((i374.tr i476).tr i488))).close ⟨_, rfl, h489⟩ hput492
                      obtain rfl := Option.some.inj hp
                      exact ⟨rfl, ⟨_, _, _, S487, ((((i215.tr i303).tr i374).tr i476).tr i488), (els370.mono (up_mono (i476.tr i488))), els493, nd371, (nat_succ rfl hj207 (chk_le hchk207)), k479, k480, k481, k482, k483, k484⟩⟩
                    · exact x387.elim
              ·
                refine FW.condF rfl c323 ?_
                refine FW.skip (FW.region ?_)
                refine FL.v (E.add k314 rfl) ?_
                refine FL.v (E.move (v := Value.int .i64 (wr (((i207 : Nat) : Int) + 1))) rfl) ?_
                refine FL.nil ?_
                obtain ⟨H511, S512, i513, h514, nv515⟩ := S302.sealRowU (i := 5) (l' := (.row 3 1 v112 n113 cs201 :: .box b0 87 [Value.int .i64 s207.2.2.1, Value.int .i64 s207.2.2.2.1, v0_2, v0_3, Value.int .i64 s207.2.2.2.2] :: .row 48 1 v0_2 n0_2 cs208 :: .row 48 1 v0_3 n0_3 cs295 :: .row 3 1 v85 n86 cs88 :: L)) rfl els299 (by decide) rfl
                obtain ⟨xs516, hput517, hp⟩ := bnd hp
                have els518 : Els (up w0.heap.size H511) (eL eI 1) 1 cs295 xs516 := (pd300.mono (up_mono i513)).close ⟨_, rfl, h514⟩ hput517
                obtain rfl := Option.some.inj hp
                exact ⟨rfl, ⟨_, _, _, S512, ((i215.tr i303).tr i513), (els209.mono (up_mono (i303.tr i513))), els518, nd210, (nat_succ rfl hj207 (chk_le hchk207)), k306, k307, k308, k309, k312, k313⟩⟩
          ·
            clear hp hq
            rintro s207 f583 w582 ⟨H579, cs208, cs211, S580, i581, els209, els212, nd210, k584, k585, k586, k587, k588, k589, k590⟩
            refine FW.seq (FW.region ?_)
            refine FL.v (E.lss k584 k590) ?_
            refine FL.nil (FW.seq ?_)
            refine FW.condF rfl (dlt_maxchk hchk207) ?_
            refine FW.exit ?_
            exact ⟨nofun, rfl, ⟨_, _, _, S580, i581, els209, els212, nd210, k585, k586, k588⟩⟩
          ·
            clear hq
            intro e f524 w523 hD
            rcases q207 with s207 | x207
            ·
              obtain ⟨rfl, hD⟩ := hD
              obtain ⟨H520, cs208, cs211, S521, i522, els209, els212, nd210, k525, k526, k527⟩ := hD
              replace hp := el_go hp
              refine FW.seq (FW.region ?_)
              refine FL.v (E.move k525) ?_
              refine FL.v (E.move k525) ?_
              refine FL.v (E.nilCheck rfl) ?_
              refine FL.v (E.fieldAddr tf87_1 rfl) ?_
              refine FL.v (E.load rfl (run_load1 Try.isAgg54 (S521.box_now (i := 1) rfl) rfl)) ?_
              refine FL.v (E.move k526) ?_
              obtain ⟨H528, S529, i530, h531, nv532⟩ := S521.sealRowU (i := 4) (l' := (.row 3 1 v112 n113 cs201 :: .box b0 87 [Value.int .i64 s207.2.2.1, Value.int .i64 s207.2.2.2.1, v0_2, v0_3, Value.int .i64 s207.2.2.2.2] :: .row 48 1 v0_2 n0_2 cs208 :: .row 48 1 v0_3 n0_3 cs211 :: L)) rfl (els89.mono (up_mono (i179.tr i522))) (by decide) rfl
              obtain ⟨v533, w534, run535, S536⟩ := S529.buildSlice (P := Try.prog) te54 [v85] (parts := #[(0, v85)]) (cells := [v85]) rfl (szs_cons (cells_size h531.cells) szs_nil) (fc_cons h531.cells fc_nil) (ones_cons h531.one ones_nil) (Nat.le_of_ble_eq_true rfl)
              have els537 : Els (up w0.heap.size H528) (eL eI 1) 1 [v85] [r73] := (Els.snoc (H := (up w0.heap.size H528)) (E := (eL eI 1)) (k := 1) (c := [v85]) (x := r73) Els.nil rfl ⟨_, rfl, h531⟩)
              have nd538 : (bl [v85]).Nodup := by exact nd_one v85
              refine FL.v (E.buildSlice (B1 rfl) run535) ?_
              obtain ⟨xs539, hz540, hp⟩ := bnd hp
              obtain ⟨v541, w544, n542, cs543, run545, S546, els547, ce548⟩ := S536.appendO (P := Try.prog) te54 (i := 3) (j := 0) rfl (els209.mono (up_mono i530)) rfl els537 hz540
              have S546 : St H0 w0 H528 w544 (.row 48 1 v533 1 [v85] :: .row 3 1 v112 n113 cs201 :: .box b0 87 [Value.int .i64 s207.2.2.1, Value.int .i64 s207.2.2.2.1, v0_2, v0_3, Value.int .i64 s207.2.2.2.2] :: .row 48 1 v541 n542 cs543 :: .row 48 1 v0_3 n0_3 cs211 :: L) := S546
              have nd549 : (bl cs543).Nodup := by rw [ce548]; exact nd_app nd210 nd538 (Els.dom (els209.mono (upI.tr (Inc.rfl _)))) (by exact nv532)
              have S550 : St H0 w0 H528 w544 (.row 3 1 v112 n113 cs201 :: .box b0 87 [Value.int .i64 s207.2.2.1, Value.int .i64 s207.2.2.2.1, v0_2, v0_3, Value.int .i64 s207.2.2.2.2] :: .row 48 1 v541 n542 cs543 :: .row 48 1 v0_3 n0_3 cs211 :: L) := S546.drop 0
              refine FL.v (E.append rfl rfl run545) ?_
              refine FL.v (E.nilCheck rfl) ?_
              refine FL.v (E.fieldAddr tf87_1 rfl) ?_
              obtain ⟨w551, run552, S553⟩ := S550.store (P := Try.prog) (t := 54) (i := 1) (j := 2) (cs' := [Value.int .i64 s207.2.2.1, Value.int .i64 s207.2.2.2.1, v541, v0_3, Value.int .i64 s207.2.2.2.2]) (l' := (.row 3 1 v112 n113 cs201 :: .box b0 87 [Value.int .i64 s207.2.2.1, Value.int .i64 s207.2.2.2.1, v541, v0_3, Value.int .i64 s207.2.2.2.2] :: .row 48 1 v541 n542 cs543 :: .row 48 1 v0_3 n0_3 cs211 :: L)) (v := v541) (c := [v541]) rfl Try.sizeOf54 (Ln.cells (S550.row_ln (i := 2) rfl)) rfl (ones_cons (Ln.one (S550.row_ln (i := 2) rfl)) ones_nil) (Nat.le_of_ble_eq_true rfl) rfl rfl
              refine FL.act rfl rfl (E.store rfl rfl run552) ?_
              refine FL.nil (FW.seq (FW.region ?_))
              refine FL.v (E.move k525) ?_
              refine FL.v (E.move k525) ?_
              refine FL.v (E.nilCheck rfl) ?_
              refine FL.v (E.fieldAddr tf87_2 rfl) ?_
              refine FL.v (E.load rfl (run_load1 Try.isAgg54 (S553.box_now (i := 1) rfl) rfl)) ?_
              refine FL.v (E.move k527) ?_
              obtain ⟨H554, S555, i556, h557, nv558⟩ := S553.sealRowU (i := 0) (l' := (.box b0 87 [Value.int .i64 s207.2.2.1, Value.int .i64 s207.2.2.2.1, v541, v0_3, Value.int .i64 s207.2.2.2.2] :: .row 48 1 v541 n542 cs543 :: .row 48 1 v0_3 n0_3 cs211 :: L)) rfl (els200.mono (up_mono (i522.tr i530))) (by decide) rfl
              obtain ⟨v559, w560, run561, S562⟩ := S555.buildSlice (P := Try.prog) te54 [v112] (parts := #[(0, v112)]) (cells := [v112]) rfl (szs_cons (cells_size h557.cells) szs_nil) (fc_cons h557.cells fc_nil) (ones_cons h557.one ones_nil) (Nat.le_of_ble_eq_true rfl)
              have els563 : Els (up w0.heap.size H554) (eL eI 1) 1 [v112] [xs198] := (Els.snoc (H := (up w0.heap.size H554)) (E := (eL eI 1)) (k := 1) (c := [v112]) (x := xs198) Els.nil rfl ⟨_, rfl, h557⟩)
              have nd564 : (bl [v112]).Nodup := by exact nd_one v112
              refine FL.v (E.buildSlice (B1 rfl) run561) ?_
              obtain ⟨xs565, hz566, hp⟩ := bnd hp
              obtain ⟨v567, w570, n568, cs569, run571, S572, els573, ce574⟩ := S562.appendO (P := Try.prog) te54 (i := 3) (j := 0) rfl (els212.mono (up_mono (i530.tr i556))) rfl els563 hz566
              have S572 : St H0 w0 H554 w570 (.row 48 1 v559 1 [v112] :: .box b0 87 [Value.int .i64 s207.2.2.1, Value.int .i64 s207.2.2.2.1, v541, v0_3, Value.int .i64 s207.2.2.2.2] :: .row 48 1 v541 n542 cs543 :: .row 48 1 v567 n568 cs569 :: L) := S572
              have S575 : St H0 w0 H554 w570 (.box b0 87 [Value.int .i64 s207.2.2.1, Value.int .i64 s207.2.2.2.1, v541, v0_3, Value.int .i64 s207.2.2.2.2] :: .row 48 1 v541 n542 cs543 :: .row 48 1 v567 n568 cs569 :: L) := S572.drop 0
              refine FL.v (E.append rfl rfl run571) ?_
              refine FL.v (E.nilCheck rfl) ?_
              refine FL.v (E.fieldAddr tf87_2 rfl) ?_
              obtain ⟨w576, run577, S578⟩ := S575.store (P := Try.prog) (t := 54) (i := 0) (j := 3) (cs' := [Value.int .i64 s207.2.2.1, Value.int .i64 s207.2.2.2.1, v541, v567, Value.int .i64 s207.2.2.2.2]) (l' := (.box b0 87 [Value.int .i64 s207.2.2.1, Value.int .i64 s207.2.2.2.1, v541, v567, Value.int .i64 s207.2.2.2.2] :: .row 48 1 v541 n542 cs543 :: .row 48 1 v567 n568 cs569 :: L)) (v := v567) (c := [v567]) rfl Try.sizeOf54 (Ln.cells (S575.row_ln (i := 2) rfl)) rfl (ones_cons (Ln.one (S575.row_ln (i := 2) rfl)) ones_nil) (Nat.le_of_ble_eq_true rfl) rfl rfl
              refine FL.act rfl rfl (E.store rfl rfl run577) ?_
              refine FL.nil (FW.seq (FW.region ?_))
              refine FL.v (E.assign (v := Value.bool true) rfl) ?_
              refine FL.nil ?_
              refine FW.ret ?_
              obtain rfl := Option.some.inj hp
              exact ⟨.inr rfl, res1 rfl rfl ⟨_, _, _, _, _, _, _, rfl, ⟨S578, (((((i29.tr i92).tr i179).tr i522).tr i530).tr i556)⟩, (els547.mono (up_mono i556)), nd549, els573⟩⟩
            · exact x207.elim
        · exact x111.elim

@[reducible] def p_impl_algebra_independent (Ha : GH) (wa : World) (r : ((List product) × (Option echelon))) : Ending → World → Prop :=
  fun e w' => ∃ H' : GH, ∃ v0 : Value, ∃ n0 : Nat, ∃ c0 : List Value, ∃ v1 : Value, e = .returned (Value.tuple #[v0, v1]) ∧ St Ha wa H' w' [.row 60 3 v0 n0 c0] ∧ Els (up wa.heap.size H') eproduct 3 c0 r.1 ∧ OP (fun (q : Addr) (x : echelon) => ∃ v1R_2 : Value, ∃ v1R_3 : Value, (∃ c, Nest (up wa.heap.size H') (eL eI 1) 1 v1R_2 x.rows c) ∧ RSl (up wa.heap.size H') (eL eI 1) 1 v1R_3 x.made ∧ CAt H' q [Value.int .i64 x.ring.p, Value.int .i64 x.ring.vars, v1R_2, v1R_3, Value.int .i64 x.many]) v1 r.2
theorem w_impl_algebra_independent {Ha : GH} {wa : World} (hs : Sl Ha wa) (q0P : Addr) (a0 : algebra) (v0P_3 : Value) (v0P_4 : Value) (p0P_3 : RSl Ha (eL eI 1) 1 v0P_3 a0.f.clauses) (p0P_4 : RSl Ha (eL eI 1) 1 v0P_4 a0.q) (c0P : CAt Ha q0P [Value.int .i64 a0.ring.p, Value.int .i64 a0.ring.vars, Value.int .i64 a0.f.vars, v0P_3, v0P_4]) (a1 : Int) {r : ((List product) × (Option echelon))} (hp : (PF.impl_algebra_independent a0 a1) = some r) :
    Calls Try.prog 20 #[Value.pointer (some q0P), Value.int .i64 a1] wa (p_impl_algebra_independent Ha wa r) := by
  unfold PF.impl_algebra_independent at hp
  have S0 := St.init hs
  refine calls_go (N := 35) (args := [Value.pointer (some q0P), Value.int .i64 a1]) Try.func20 rfl rfl rfl ?_
  refine FW.seq (FW.region ?_)
  refine FL.v (E.assign (v := Value.slice none 0 0) rfl) ?_
  refine FL.v (E.assign (v := Value.pointer none) rfl) ?_
  refine FL.nil (FW.seq (FW.region ?_))
  refine FL.v (E.move (v := Value.pointer (some q0P)) rfl) ?_
  refine FL.v (E.nilCheck rfl) ?_
  refine FL.v (E.fieldAddr tf56_0 rfl) ?_
  refine FL.v (E.load rfl (run_loadA Try.isAgg53 Try.sizeOf53 ((c0P.now S0.sl).sub (j := 0) (n := 2) (c := [Value.int .i64 a0.ring.p, Value.int .i64 a0.ring.vars]) rfl) rfl)) ?_
  refine FL.v (E.build (B1 rfl) (run_build _ 87 #[(0, Value.agg #[Value.int .i64 a0.ring.p, Value.int .i64 a0.ring.vars])] #[Value.int .i64 a0.ring.p, Value.int .i64 a0.ring.vars, Value.slice none 0 0, Value.slice none 0 0, Value.int .i64 0] (by rfl))) ?_
  have S25 := S0.nil 48 1
  have els26 : Els (up wa.heap.size Ha) (eL eI 1) 1 [] [] := Els.nil
  have S27 := S25.nil 48 1
  have els28 : Els (up wa.heap.size Ha) (eL eI 1) 1 [] [] := Els.nil
  obtain ⟨b21, w22, run23, S24⟩ := S27.box (P := Try.prog) 87 [Value.int .i64 a0.ring.p, Value.int .i64 a0.ring.vars, (Value.slice none 0 0), (Value.slice none 0 0), Value.int .i64 0] (v := Value.agg #[Value.int .i64 a0.ring.p, Value.int .i64 a0.ring.vars, Value.slice none 0 0, Value.slice none 0 0, Value.int .i64 0]) rfl (ones_cons rfl (ones_cons rfl (ones_cons (Ln.one (S27.row_ln (i := 1) rfl)) (ones_cons (Ln.one (S27.row_ln (i := 0) rfl)) (ones_cons rfl ones_nil)))))
  refine FL.v (E.box rfl run23) ?_
  refine FL.v (E.assign (v := Value.pointer (some (⟨b21, 0, none⟩ : Addr))) rfl) ?_
  refine FL.nil (FW.seq (FW.region ?_))
  refine FL.v (E.assign (v := Value.slice none 0 0) rfl) ?_
  refine FL.nil (FW.seq (FW.seq (FW.region ?_)))
  refine FL.v (E.move (v := Value.pointer (some q0P)) rfl) ?_
  refine FL.v (E.move (v := Value.int .i64 a1) rfl) ?_
  obtain ⟨r29, hr30, hp⟩ := bnd hp
  refine FL.call rfl rfl rfl (E.call Try.call46 (A2 rfl rfl)) (w_impl_algebra_products S24.sl q0P a0 v0P_3 v0P_4 p0P_3 p0P_4 c0P a1 hr30) ?_
  rintro e w32 ⟨H31, v35, n36, cs37, rfl, r34, els38, nd39⟩
  refine ⟨_, rfl, ?_⟩
  have nv40 : New Ha cs37 := New.of_up S24.sl els38.dom
  have els38 := els38.mono (up_le S24.size)
  have S33 := S24.join (l' := [.row 60 3 v35 n36 cs37, .box b21 87 [Value.int .i64 a0.ring.p, Value.int .i64 a0.ring.vars, (Value.slice none 0 0), (Value.slice none 0 0), Value.int .i64 0], .row 48 1 (Value.slice none 0 0) 0 [], .row 48 1 (Value.slice none 0 0) 0 []]) r34 rfl
  refine FL.v (E.lenO te43 rfl S33 (i := 0) rfl els38 (by decide)) ?_
  refine FL.v (E.move (v := Value.int .i64 0) rfl) ?_
  refine FL.nil ?_
  obtain ⟨m41, hchk42, hp⟩ := bnd hp
  obtain ⟨q42, hq, hp⟩ := bndR hp
  refine FW.block ?_
  refine FW.mono (FW.forR (S := ((List (List Int)) × (List (List Int)) × Int × Int × Int × (List product))) (X := Empty) (fun (i42 : Nat) (s42 : ((List (List Int)) × (List (List Int)) × Int × Int × Int × (List product))) f w => ∃ H : GH, ∃ v113 : Value, ∃ n114 : Nat, ∃ cs115 : List Value, ∃ v117 : Value, ∃ n118 : Nat, ∃ cs119 : List Value, ∃ v122 : Value, ∃ n123 : Nat, ∃ cs124 : List Value, St Ha wa H w [.row 60 3 v35 n36 cs37, .box b21 87 [Value.int .i64 s42.2.2.1, Value.int .i64 s42.2.2.2.1, v117, v113, Value.int .i64 s42.2.2.2.2.1], .row 48 1 v113 n114 cs115, .row 48 1 v117 n118 cs119, .row 60 3 v122 n123 cs124] ∧ Inc H31 H ∧ Els (up wa.heap.size H) (eL eI 1) 1 cs115 s42.1 ∧ Els (up wa.heap.size H) (eL eI 1) 1 cs119 s42.2.1 ∧ Els (up wa.heap.size H) eproduct 3 cs124 s42.2.2.2.2.2 ∧ (bl cs119).Nodup ∧ f 20 = Value.int .i64 ((i42 : Nat) : Int) ∧ f 6 = Value.pointer (some (⟨b21, 0, none⟩ : Addr)) ∧ f 7 = v122 ∧ f 18 = v35 ∧ f 19 = Value.int .i64 (len r29)) (fun (q : Rs ((List (List Int)) × (List (List Int)) × Int × Int × Int × (List product)) Empty) e f w => match q with | .go s42 => e = Exit.exit 0 ∧ (∃ H : GH, ∃ v113 : Value, ∃ n114 : Nat, ∃ cs115 : List Value, ∃ v117 : Value, ∃ n118 : Nat, ∃ cs119 : List Value, ∃ v122 : Value, ∃ n123 : Nat, ∃ cs124 : List Value, St Ha wa H w [.row 60 3 v35 n36 cs37, .box b21 87 [Value.int .i64 s42.2.2.1, Value.int .i64 s42.2.2.2.1, v117, v113, Value.int .i64 s42.2.2.2.2.1], .row 48 1 v113 n114 cs115, .row 48 1 v117 n118 cs119, .row 60 3 v122 n123 cs124] ∧ Inc H31 H ∧ Els (up wa.heap.size H) (eL eI 1) 1 cs115 s42.1 ∧ Els (up wa.heap.size H) (eL eI 1) 1 cs119 s42.2.1 ∧ Els (up wa.heap.size H) eproduct 3 cs124 s42.2.2.2.2.2 ∧ (bl cs119).Nodup ∧ f 6 = Value.pointer (some (⟨b21, 0, none⟩ : Addr)) ∧ f 7 = v122) | .rt x => x.elim) hq ⟨_, _, _, _, _, _, _, _, _, _, ((S33.nil 60 3).sel [1, 2, 3, 4, 0] (by decide) rfl), (Inc.rfl _), (els28.mono (up_mono r34.run.inc)), (els26.mono (up_mono r34.run.inc)), Els.nil, (show (bl []).Nodup from List.nodup_nil), rfl, rfl, rfl, rfl, rfl⟩ ?_ ?_) ?_
  ·
    clear hp hq
    rintro i42 s42 f196 w195 ⟨H192, v113, n114, cs115, v117, n118, cs119, v122, n123, cs124, S193, i194, els116, els120, els125, nd121, k197, k198, k199, k200, k201⟩ hi42 hj42 o258 hp
    refine FW.seq (FW.region ?_)
    refine FL.v (E.lssT k197 k201 (lss_chk hj42 hchk42)) ?_
    refine FL.nil (FW.seq ?_)
    refine FW.condT rfl rfl ?_
    refine FW.skip (FW.seq (FW.block (FW.seq (FW.region ?_))))
    obtain ⟨x208, hx209, hp⟩ := bnd hp
    obtain ⟨p202, cs203, pt204, l205, at206, rel207⟩ := S193.row_at (i := 0) rfl els38 (by decide) hx209
    obtain ⟨v210, rfl, h211⟩ := eproduct_open rel207
    refine FL.v (E.indexAddr te43 k200 k197 pt204) ?_
    refine FL.v (E.load rfl (run_loadA Try.isAgg60 Try.sizeOf60 at206 rfl)) ?_
    obtain ⟨b212, w213, run214, S215⟩ := S193.alloc (P := Try.prog) 60 [Value.int .i64 0, Value.int .i64 0, Value.slice none 0 0] Try.zeroValue60 rfl (ones_cons rfl (ones_cons rfl (ones_cons rfl ones_nil)))
    refine FL.v (E.alloc run214) ?_
    obtain ⟨w216, run217, S218⟩ := S215.store0 (P := Try.prog) (t := 60) (i := 0) (cs' := [Value.int .i64 x208.clause, Value.int .i64 x208.mono, v210]) (l' := [.box b212 60 [Value.int .i64 x208.clause, Value.int .i64 x208.mono, v210], .row 60 3 v35 n36 cs37, .box b21 87 [Value.int .i64 s42.2.2.1, Value.int .i64 s42.2.2.2.1, v117, v113, Value.int .i64 s42.2.2.2.2.1], .row 48 1 v113 n114 cs115, .row 48 1 v117 n118 cs119, .row 60 3 v122 n123 cs124]) (v := Value.agg #[Value.int .i64 x208.clause, Value.int .i64 x208.mono, v210]) (c := [Value.int .i64 x208.clause, Value.int .i64 x208.mono, v210]) rfl Try.sizeOf60 rfl rfl (ones_cons rfl (ones_cons rfl (ones_cons h211.one ones_nil))) (Nat.le_of_ble_eq_true rfl) rfl rfl
    refine FL.act rfl rfl (E.store rfl rfl run217) ?_
    obtain ⟨H219, S220, i221, at222⟩ := S218.sealBox (i := 0) (l' := [.row 60 3 v35 n36 cs37, .box b21 87 [Value.int .i64 s42.2.2.1, Value.int .i64 s42.2.2.2.1, v117, v113, Value.int .i64 s42.2.2.2.2.1], .row 48 1 v113 n114 cs115, .row 48 1 v117 n118 cs119, .row 60 3 v122 n123 cs124]) rfl rfl
    refine FL.nil (FW.seq (FW.region ?_))
    refine FL.v (E.move k198) ?_
    refine FL.v (E.fieldAddr tf60_2 rfl) ?_
    refine FL.v (E.load rfl (run_load1 Try.isAgg48 (at222.now S220.sl) rfl)) ?_
    obtain ⟨r223, hr224, hp⟩ := bnd hp
    have S225 : St Ha wa H219 w216 [.row 48 1 v113 n114 cs115, .row 60 3 v35 n36 cs37, .box b21 87 [Value.int .i64 s42.2.2.1, Value.int .i64 s42.2.2.2.1, v117, v113, Value.int .i64 s42.2.2.2.2.1], .row 48 1 v117 n118 cs119, .row 60 3 v122 n123 cs124] := S220.front 2 rfl rfl
    have S226 : St Ha wa H219 w216 [.row 48 1 v117 n118 cs119, .row 48 1 v113 n114 cs115, .row 60 3 v35 n36 cs37, .box b21 87 [Value.int .i64 s42.2.2.1, Value.int .i64 s42.2.2.2.1, v117, v113, Value.int .i64 s42.2.2.2.2.1], .row 60 3 v122 n123 cs124] := S225.front 3 rfl rfl
    have S227 : St Ha wa H219 w216 [.box b21 87 [Value.int .i64 s42.2.2.1, Value.int .i64 s42.2.2.2.1, v117, v113, Value.int .i64 s42.2.2.2.2.1], .row 48 1 v117 n118 cs119, .row 48 1 v113 n114 cs115, .row 60 3 v35 n36 cs37, .row 60 3 v122 n123 cs124] := S226.front 3 rfl rfl
    refine FL.call rfl rfl rfl (E.call Try.call47 (A2 rfl rfl)) (w_impl_echelon_add (L := [.row 60 3 v35 n36 cs37, .row 60 3 v122 n123 cs124]) S227 (a0 := (echelon.mk (ring.mk s42.2.2.1 s42.2.2.2.1) s42.2.1 s42.1 s42.2.2.2.2.1)) (els120.mono (up_mono i221)) nd121 (els116.mono (up_mono i221)) v210 x208.poly (h211.mono (upI.tr (i194.tr i221))) hr224) ?_
    rintro e w229 ⟨H228, v232, n233, cs234, v237, n238, cs239, rfl, ⟨S230, i231⟩, els235, nd236, els240⟩
    refine ⟨_, rfl, ?_⟩
    have S230 : St Ha wa H228 w229 [.box b21 87 [Value.int .i64 r223.2.ring.p, Value.int .i64 r223.2.ring.vars, v232, v237, Value.int .i64 r223.2.many], .row 48 1 v232 n233 cs234, .row 48 1 v237 n238 cs239, .row 60 3 v35 n36 cs37, .row 60 3 v122 n123 cs124] := S230
    refine FL.nil ?_
    rcases ifB hp with ⟨c241, hp⟩ | ⟨c241, hp⟩
    ·
      refine FW.condT rfl c241 ?_
      refine FW.region ?_
      refine FL.v (E.move k199) ?_
      refine FL.v (E.load rfl (run_loadA Try.isAgg60 Try.sizeOf60 ((at222.mono i231).now S230.sl) rfl)) ?_
      obtain ⟨v242, w243, run244, S245⟩ := S230.buildSlice (P := Try.prog) te43 [Value.agg #[Value.int .i64 x208.clause, Value.int .i64 x208.mono, v210]] (parts := #[(0, Value.agg #[Value.int .i64 x208.clause, Value.int .i64 x208.mono, v210])]) (cells := [Value.int .i64 x208.clause, Value.int .i64 x208.mono, v210]) rfl (szs_cons rfl szs_nil) (fc_cons rfl fc_nil) (ones_cons rfl (ones_cons rfl (ones_cons h211.one ones_nil))) (Nat.le_of_ble_eq_true rfl)
      have els246 : Els (up wa.heap.size H228) eproduct 3 [Value.int .i64 x208.clause, Value.int .i64 x208.mono, v210] [x208] := (Els.snoc (H := (up wa.heap.size H228)) (E := eproduct) (k := 3) (c := [Value.int .i64 x208.clause, Value.int .i64 x208.mono, v210]) (x := x208) Els.nil rfl ⟨_, rfl, (h211.mono (up_mono ((i194.tr i221).tr i231)))⟩)
      refine FL.v (E.buildSlice (B1 rfl) run244) ?_
      obtain ⟨xs247, hz248, hp⟩ := bnd hp
      obtain ⟨v249, w252, n250, cs251, run253, S254, els255, ce256⟩ := S245.appendO (P := Try.prog) te43 (i := 5) (j := 0) rfl (els125.mono (up_mono (i221.tr i231))) rfl els246 hz248
      have S254 : St Ha wa H228 w252 [.row 60 3 v242 1 [Value.int .i64 x208.clause, Value.int .i64 x208.mono, v210], .box b21 87 [Value.int .i64 r223.2.ring.p, Value.int .i64 r223.2.ring.vars, v232, v237, Value.int .i64 r223.2.many], .row 48 1 v232 n233 cs234, .row 48 1 v237 n238 cs239, .row 60 3 v35 n36 cs37, .row 60 3 v249 n250 cs251] := S254
      have S257 : St Ha wa H228 w252 [.box b21 87 [Value.int .i64 r223.2.ring.p, Value.int .i64 r223.2.ring.vars, v232, v237, Value.int .i64 r223.2.many], .row 48 1 v232 n233 cs234, .row 48 1 v237 n238 cs239, .row 60 3 v35 n36 cs37, .row 60 3 v249 n250 cs251] := S254.drop 0
      refine FL.v (E.append rfl rfl run253) ?_
      refine FL.v (E.assign (v := v249) rfl) ?_
      refine FL.nil (FW.region ?_)
      refine FL.v (E.add k197 rfl) ?_
      refine FL.v (E.move (v := Value.int .i64 (wr (((i42 : Nat) : Int) + 1))) rfl) ?_
      refine FL.nil ?_
      obtain rfl := Option.some.inj hp
      exact ⟨rfl, ⟨_, _, _, _, _, _, _, _, _, _, (S257.sel [3, 0, 2, 1, 4] (by decide) rfl), ((i194.tr i221).tr i231), els240, els235, els255, nd236, (nat_succ rfl hj42 (chk_le hchk42)), k198, rfl, k200, k201⟩⟩
    ·
      refine FW.condF rfl c241 ?_
      refine FW.skip (FW.region ?_)
      refine FL.v (E.add k197 rfl) ?_
      refine FL.v (E.move (v := Value.int .i64 (wr (((i42 : Nat) : Int) + 1))) rfl) ?_
      refine FL.nil ?_
      obtain rfl := Option.some.inj hp
      exact ⟨rfl, ⟨_, _, _, _, _, _, _, _, _, _, (S230.sel [3, 0, 2, 1, 4] (by decide) rfl), ((i194.tr i221).tr i231), els240, els235, (els125.mono (up_mono (i221.tr i231))), nd236, (nat_succ rfl hj42 (chk_le hchk42)), k198, k199, k200, k201⟩⟩
  ·
    clear hp hq
    rintro s42 f285 w284 ⟨H281, v113, n114, cs115, v117, n118, cs119, v122, n123, cs124, S282, i283, els116, els120, els125, nd121, k286, k287, k288, k289, k290⟩
    refine FW.seq (FW.region ?_)
    refine FL.v (E.lss k286 k290) ?_
    refine FL.nil (FW.seq ?_)
    refine FW.condF rfl (dlt_maxchk hchk42) ?_
    refine FW.exit ?_
    exact ⟨nofun, rfl, ⟨_, _, _, _, _, _, _, _, _, _, S282, i283, els116, els120, els125, nd121, k287, k288⟩⟩
  ·
    clear hq
    intro e f263 w262 hD
    rcases q42 with s42 | x42
    ·
      obtain ⟨rfl, hD⟩ := hD
      obtain ⟨H259, v113, n114, cs115, v117, n118, cs119, v122, n123, cs124, S260, i261, els116, els120, els125, nd121, k264, k265⟩ := hD
      replace hp := el_go hp
      refine FW.seq (FW.region ?_)
      refine FL.v (E.move k265) ?_
      refine FL.v (E.move k264) ?_
      refine FL.v (E.assign (v := v122) rfl) ?_
      refine FL.v (E.assign (v := Value.pointer (some (⟨b21, 0, none⟩ : Addr))) rfl) ?_
      refine FL.nil ?_
      refine FW.ret ?_
      obtain ⟨H266, S267, i268, ns271, nv270⟩ := S260.sealRowN (i := 3) (l' := [.row 60 3 v35 n36 cs37, .box b21 87 [Value.int .i64 s42.2.2.1, Value.int .i64 s42.2.2.2.1, v117, v113, Value.int .i64 s42.2.2.2.2.1], .row 48 1 v113 n114 cs115, .row 60 3 v122 n123 cs124]) rfl els120 nd121 (by decide) rfl
      have h269 := ns271.rsl
      obtain ⟨H272, S273, i274, h275, nv276⟩ := S267.sealRowU (i := 2) (l' := [.row 60 3 v35 n36 cs37, .box b21 87 [Value.int .i64 s42.2.2.1, Value.int .i64 s42.2.2.2.1, v117, v113, Value.int .i64 s42.2.2.2.2.1], .row 60 3 v122 n123 cs124]) rfl (els116.mono (up_mono i268)) (by decide) rfl
      obtain ⟨H277, S278, i279, at280⟩ := S273.sealBox (i := 1) (l' := [.row 60 3 v35 n36 cs37, .row 60 3 v122 n123 cs124]) rfl rfl
      obtain rfl := Option.some.inj hp
      exact ⟨.inr rfl, res2 rfl rfl rfl ⟨_, _, _, _, _, rfl, (S278.sel [1] (by decide) rfl), (els125.mono (up_mono ((i268.tr i274).tr i279))), ⟨_, rfl, _, _, ⟨_, (ns271.mono (up_mono (i274.tr i279)))⟩, (h275.mono (up_mono i279)), at280⟩⟩⟩
    · exact x42.elim

theorem w_impl_dense_degree {Ha : GH} {wa : World} (hs : Sl Ha wa) (v0 : Value) (a0 : List Int) (p0 : RSl Ha eI 1 v0 a0) {r : Int} (hp : (PF.impl_dense_degree a0) = some r) :
    Calls Try.prog 49 #[v0] wa (Sc Ha wa (Value.int .i64 r)) := by
  unfold PF.impl_dense_degree at hp
  have S0 := St.init hs
  refine calls_go (N := 21) (args := [v0]) Try.func49 rfl rfl rfl ?_
  refine FW.seq (FW.region ?_)
  refine FL.v (E.assign (v := Value.int .i64 0) rfl) ?_
  refine FL.nil (FW.seq (FW.region ?_))
  refine FL.v (E.assign (v := Value.int .i64 (-1)) rfl) ?_
  refine FL.nil (FW.seq (FW.seq (FW.region ?_)))
  refine FL.v (E.move (v := v0) rfl) ?_
  refine FL.v (E.lenP te48 rfl p0) ?_
  refine FL.v (E.move (v := Value.int .i64 0) rfl) ?_
  refine FL.nil ?_
  obtain ⟨q22, hq, hp⟩ := bndR hp
  refine FW.block ?_
  refine FW.mono (FW.forL (S := Int) (X := Empty) (fun (i22 : Nat) (s22 : Int) f w => ∃ H : GH, St Ha wa H w [] ∧ Inc Ha H ∧ f 8 = Value.int .i64 ((i22 : Nat) : Int) ∧ f 3 = Value.int .i64 s22 ∧ f 6 = v0 ∧ f 7 = Value.int .i64 (len a0)) (fun (q : Rs Int Empty) e f w => match q with | .go s22 => e = Exit.exit 0 ∧ (∃ H : GH, St Ha wa H w [] ∧ Inc Ha H ∧ f 3 = Value.int .i64 s22) | .rt x => x.elim) hq ⟨_, S0, (Inc.rfl _), rfl, rfl, rfl, rfl⟩ ?_ ?_) ?_
  ·
    clear hp hq
    rintro i22 y21 s22 f46 w45 ⟨H42, S43, i44, k47, k48, k49, k50⟩ hx22 o61 hp
    refine FW.seq (FW.region ?_)
    refine FL.v (E.lssT k47 k50 (lss_len hx22)) ?_
    refine FL.nil (FW.seq ?_)
    refine FW.condT rfl rfl ?_
    refine FW.skip (FW.seq (FW.block (FW.seq (FW.region ?_))))
    refine FL.v (E.move k47) ?_
    obtain ⟨p51, cs52, pt53, l54, at55, rel56⟩ := p0.at (ix_nat hx22)
    obtain rfl := eI_open rel56
    refine FL.v (E.indexAddr te48 k49 k47 pt53) ?_
    refine FL.v (E.load rfl (run_load0 Try.isAgg3 ((at55.mono i44).now S43.sl) rfl)) ?_
    refine FL.v (E.assign (v := Value.int .i64 ((i22 : Nat) : Int)) rfl) ?_
    refine FL.v (E.assign (v := Value.int .i64 y21) rfl) ?_
    refine FL.nil (FW.seq (FW.region ?_))
    refine FL.v (E.move (v := Value.int .i64 y21) rfl) ?_
    refine FL.v (E.neq rfl rfl) ?_
    refine FL.nil ?_
    rcases ifB hp with ⟨c57, hp⟩ | ⟨c57, hp⟩
    ·
      refine FW.condT rfl c57 ?_
      refine FW.region ?_
      refine FL.v (E.move k48) ?_
      refine FL.v (E.move (v := Value.int .i64 ((i22 : Nat) : Int)) rfl) ?_
      refine FL.call rfl rfl rfl (E.call Try.call65 (A1 rfl)) (w_impl_degreeOf S43.sl ((i22 : Nat) : Int)) ?_
      rintro e w58 ⟨rfl, r59⟩
      refine ⟨_, rfl, ?_⟩
      have S60 := S43.call r59
      refine FL.v (E.max2 rfl rfl) ?_
      refine FL.v (E.assign (v := Value.int .i64 (mx s22 (PF.impl_degreeOf ((i22 : Nat) : Int)))) rfl) ?_
      refine FL.nil (FW.region ?_)
      refine FL.v (E.add k47 rfl) ?_
      refine FL.v (E.move (v := Value.int .i64 (wr (((i22 : Nat) : Int) + 1))) rfl) ?_
      refine FL.nil ?_
      obtain rfl := Option.some.inj hp
      exact ⟨rfl, ⟨_, S60, i44, (nat_succ rfl (lt_of_get hx22) (p0.mono i44).le), rfl, k49, k50⟩⟩
    ·
      refine FW.condF rfl c57 ?_
      refine FW.skip (FW.region ?_)
      refine FL.v (E.add k47 rfl) ?_
      refine FL.v (E.move (v := Value.int .i64 (wr (((i22 : Nat) : Int) + 1))) rfl) ?_
      refine FL.nil ?_
      obtain rfl := Option.some.inj hp
      exact ⟨rfl, ⟨_, S43, i44, (nat_succ rfl (lt_of_get hx22) (p0.mono i44).le), k48, k49, k50⟩⟩
  ·
    clear hp hq
    rintro s22 f72 w71 ⟨H68, S69, i70, k73, k74, k75, k76⟩
    refine FW.seq (FW.region ?_)
    refine FL.v (E.lss k73 k76) ?_
    refine FL.nil (FW.seq ?_)
    refine FW.condF rfl dlt_len ?_
    refine FW.exit ?_
    exact ⟨nofun, rfl, ⟨_, S69, i70, k74⟩⟩
  ·
    clear hq
    intro e f66 w65 hD
    rcases q22 with s22 | x22
    ·
      obtain ⟨rfl, hD⟩ := hD
      obtain ⟨H62, S63, i64, k67⟩ := hD
      replace hp := el_go hp
      refine FW.seq (FW.region ?_)
      refine FL.v (E.move k67) ?_
      refine FL.v (E.assign (v := Value.int .i64 s22) rfl) ?_
      refine FL.nil ?_
      refine FW.ret ?_
      obtain rfl := Option.some.inj hp
      exact ⟨.inr rfl, res1 rfl rfl ⟨rfl, S63.back⟩⟩
    · exact x22.elim

theorem w_impl_dense_isZero {Ha : GH} {wa : World} (hs : Sl Ha wa) (v0 : Value) (a0 : List Int) (p0 : RSl Ha eI 1 v0 a0) {r : Bool} (hp : (PF.impl_dense_isZero a0) = some r) :
  Calls Try.prog 23 #[v0] wa (Sc Ha wa (Value.bool r)) := by
 unfold PF.impl_dense_isZero at hp
 have S0 := St.init hs
 refine calls_go (N := 6) (args := [v0]) Try.func23 rfl rfl rfl ?_
 refine FW.seq (FW.region ?_)
 refine FL.v (E.assign (v := Value.bool false) rfl) ?_
 refine FL.nil (FW.seq (FW.region ?_))
 refine FL.v (E.move (v := v0) rfl) ?_
 obtain ⟨r21, hr22, hp⟩ := bnd hp
 refine FL.call rfl rfl rfl (E.call Try.call49 (A1 rfl)) (w_impl_dense_degree S0.sl v0 a0 p0 hr22) ?_
 rintro e w23 ⟨rfl, r24⟩
 refine ⟨_, rfl, ?_⟩
 have S25 := S0.call r24
 refine FL.v (E.lss rfl rfl) ?_
 refine FL.v (E.assign (v := Value.bool (decide (r21 < 0))) rfl) ?_
 refine FL.nil ?_
 refine FW.ret ?_
 obtain rfl := Option.some.inj hp
 exact ⟨.inr rfl, res1 rfl rfl ⟨rfl, S25.back⟩⟩

@[reducible] def p_impl_dense_terms (Ha : GH) (wa : World) (r : (List Term)) : Ending → World → Prop :=
  fun e w' => ∃ H' : GH, ∃ v0 : Value, ∃ n0 : Nat, ∃ c0 : List Value, e = .returned (v0) ∧ St Ha wa H' w' [.row 94 2 v0 n0 c0] ∧ Els (up wa.heap.size H') eTerm 2 c0 r
theorem w_impl_dense_terms {Ha : GH} {wa : World} (hs : Sl Ha wa) (v0 : Value) (a0 : List Int) (p0 : RSl Ha eI 1 v0 a0) {r : (List Term)} (hp : (PF.impl_dense_terms a0) = some r) :
    Calls Try.prog 26 #[v0] wa (p_impl_dense_terms Ha wa r) := by
  unfold PF.impl_dense_terms at hp
  have S0 := St.init hs
  refine calls_go (N := 23) (args := [v0]) Try.func26 rfl rfl rfl ?_
  refine FW.seq (FW.region ?_)
  refine FL.v (E.assign (v := Value.slice none 0 0) rfl) ?_
  refine FL.nil (FW.seq (FW.region ?_))
  refine FL.v (E.assign (v := Value.slice none 0 0) rfl) ?_
  refine FL.nil (FW.seq (FW.seq (FW.region ?_)))
  refine FL.v (E.move (v := v0) rfl) ?_
  refine FL.v (E.lenP te48 rfl p0) ?_
  refine FL.v (E.move (v := Value.int .i64 0) rfl) ?_
  refine FL.nil ?_
  obtain ⟨q22, hq, hp⟩ := bndR hp
  refine FW.block ?_
  refine FW.mono (FW.forL (S := (List Term)) (X := Empty) (fun (i22 : Nat) (s22 : (List Term)) f w => ∃ H : GH, ∃ v23 : Value, ∃ n24 : Nat, ∃ cs25 : List Value, St Ha wa H w [.row 94 2 v23 n24 cs25] ∧ Inc Ha H ∧ Els (up wa.heap.size H) eTerm 2 cs25 s22 ∧ f 8 = Value.int .i64 ((i22 : Nat) : Int) ∧ f 3 = v23 ∧ f 6 = v0 ∧ f 7 = Value.int .i64 (len a0)) (fun (q : Rs (List Term) Empty) e f w => match q with | .go s22 => e = Exit.exit 0 ∧ (∃ H : GH, ∃ v23 : Value, ∃ n24 : Nat, ∃ cs25 : List Value, St Ha wa H w [.row 94 2 v23 n24 cs25] ∧ Inc Ha H ∧ Els (up wa.heap.size H) eTerm 2 cs25 s22 ∧ f 3 = v23) | .rt x => x.elim) hq ⟨_, _, _, _, (S0.nil 94 2), (Inc.rfl _), Els.nil, rfl, rfl, rfl, rfl⟩ ?_ ?_) ?_
  ·
    clear hp hq
    rintro i22 y21 s22 f63 w62 ⟨H59, v23, n24, cs25, S60, i61, els26, k64, k65, k66, k67⟩ hx22 o91 hp
    refine FW.seq (FW.region ?_)
    refine FL.v (E.lssT k64 k67 (lss_len hx22)) ?_
    refine FL.nil (FW.seq ?_)
    refine FW.condT rfl rfl ?_
    refine FW.skip (FW.seq (FW.block (FW.seq (FW.region ?_))))
    refine FL.v (E.move k64) ?_
    obtain ⟨p68, cs69, pt70, l71, at72, rel73⟩ := p0.at (ix_nat hx22)
    obtain rfl := eI_open rel73
    refine FL.v (E.indexAddr te48 k66 k64 pt70) ?_
    refine FL.v (E.load rfl (run_load0 Try.isAgg3 ((at72.mono i61).now S60.sl) rfl)) ?_
    refine FL.v (E.assign (v := Value.int .i64 ((i22 : Nat) : Int)) rfl) ?_
    refine FL.v (E.assign (v := Value.int .i64 y21) rfl) ?_
    refine FL.nil (FW.seq (FW.region ?_))
    refine FL.v (E.move (v := Value.int .i64 y21) rfl) ?_
    refine FL.v (E.neq rfl rfl) ?_
    refine FL.nil ?_
    rcases ifB hp with ⟨c74, hp⟩ | ⟨c74, hp⟩
    ·
      refine FW.condT rfl c74 ?_
      refine FW.region ?_
      refine FL.v (E.move k65) ?_
      refine FL.v (E.move (v := Value.int .i64 ((i22 : Nat) : Int)) rfl) ?_
      refine FL.v (E.move (v := Value.int .i64 y21) rfl) ?_
      refine FL.v (E.build (B2 rfl rfl) (run_build _ 94 #[(0, Value.int .i64 ((i22 : Nat) : Int)), (1, Value.int .i64 y21)] #[Value.int .i64 ((i22 : Nat) : Int), Value.int .i64 y21] (by rfl))) ?_
      obtain ⟨v75, w76, run77, S78⟩ := S60.buildSlice (P := Try.prog) te62 [Value.agg #[Value.int .i64 ((i22 : Nat) : Int), Value.int .i64 y21]] (parts := #[(0, Value.agg #[Value.int .i64 ((i22 : Nat) : Int), Value.int .i64 y21])]) (cells := [Value.int .i64 ((i22 : Nat) : Int), Value.int .i64 y21]) rfl (szs_cons rfl szs_nil) (fc_cons rfl fc_nil) (ones_cons rfl (ones_cons rfl ones_nil)) (Nat.le_of_ble_eq_true rfl)
      have els79 : Els (up wa.heap.size H59) eTerm 2 [Value.int .i64 ((i22 : Nat) : Int), Value.int .i64 y21] [(Term.mk ((i22 : Nat) : Int) y21)] := (Els.snoc (H := (up wa.heap.size H59)) (E := eTerm) (k := 2) (c := [Value.int .i64 ((i22 : Nat) : Int), Value.int .i64 y21]) (x := (Term.mk ((i22 : Nat) : Int) y21)) Els.nil rfl rfl)
      refine FL.v (E.buildSlice (B1 rfl) run77) ?_
      obtain ⟨xs80, hz81, hp⟩ := bnd hp
      obtain ⟨v82, w85, n83, cs84, run86, S87, els88, ce89⟩ := S78.appendO (P := Try.prog) te62 (i := 1) (j := 0) rfl els26 rfl els79 hz81
      have S87 : St Ha wa H59 w85 [.row 94 2 v75 1 [Value.int .i64 ((i22 : Nat) : Int), Value.int .i64 y21], .row 94 2 v82 n83 cs84] := S87
      have S90 : St Ha wa H59 w85 [.row 94 2 v82 n83 cs84] := S87.drop 0
      refine FL.v (E.append rfl rfl run86) ?_
      refine FL.v (E.assign (v := v82) rfl) ?_
      refine FL.nil (FW.region ?_)
      refine FL.v (E.add k64 rfl) ?_
      refine FL.v (E.move (v := Value.int .i64 (wr (((i22 : Nat) : Int) + 1))) rfl) ?_
      refine FL.nil ?_
      obtain rfl := Option.some.inj hp
      exact ⟨rfl, ⟨_, _, _, _, S90, i61, els88, (nat_succ rfl (lt_of_get hx22) (p0.mono i61).le), rfl, k66, k67⟩⟩
    ·
      refine FW.condF rfl c74 ?_
      refine FW.skip (FW.region ?_)
      refine FL.v (E.add k64 rfl) ?_
      refine FL.v (E.move (v := Value.int .i64 (wr (((i22 : Nat) : Int) + 1))) rfl) ?_
      refine FL.nil ?_
      obtain rfl := Option.some.inj hp
      exact ⟨rfl, ⟨_, _, _, _, S60, i61, els26, (nat_succ rfl (lt_of_get hx22) (p0.mono i61).le), k65, k66, k67⟩⟩
  ·
    clear hp hq
    rintro s22 f102 w101 ⟨H98, v23, n24, cs25, S99, i100, els26, k103, k104, k105, k106⟩
    refine FW.seq (FW.region ?_)
    refine FL.v (E.lss k103 k106) ?_
    refine FL.nil (FW.seq ?_)
    refine FW.condF rfl dlt_len ?_
    refine FW.exit ?_
    exact ⟨nofun, rfl, ⟨_, _, _, _, S99, i100, els26, k104⟩⟩
  ·
    clear hq
    intro e f96 w95 hD
    rcases q22 with s22 | x22
    ·
      obtain ⟨rfl, hD⟩ := hD
      obtain ⟨H92, v23, n24, cs25, S93, i94, els26, k97⟩ := hD
      replace hp := el_go hp
      refine FW.seq (FW.region ?_)
      refine FL.v (E.move k97) ?_
      refine FL.v (E.assign (v := v23) rfl) ?_
      refine FL.nil ?_
      refine FW.ret ?_
      obtain rfl := Option.some.inj hp
      exact ⟨.inr rfl, res1 rfl rfl ⟨_, _, _, _, rfl, S93, els26⟩⟩
    · exact x22.elim

@[reducible] def p_impl_FindCertificate (Ha : GH) (wa : World) (r : ((List (List Term)) × Bool)) : Ending → World → Prop :=
  fun e w' => ∃ H' : GH, ∃ v0 : Value, ∃ n0 : Nat, ∃ c0 : List Value, e = .returned (Value.tuple #[v0, Value.bool r.2]) ∧ St Ha wa H' w' [.row 62 1 v0 n0 c0] ∧ Els (up wa.heap.size H') (eL eTerm 2) 1 c0 r.1 ∧ (bl c0).Nodup
set_option maxHeartbeats 4000000 in
theorem w_impl_FindCertificate {Ha : GH} {wa : World} (hs : Sl Ha wa) (a0 : Int) (a1 : Cnf) (v1_1 : Value) (p1_1 : RSl Ha (eL eI 1) 1 v1_1 a1.clauses) (a2 : Int) {r : ((List (List Term)) × Bool)} (hp : (PF.impl_FindCertificate a0 a1 a2) = some r) :
    Calls Try.prog 7 #[Value.int .i64 a0, Value.agg #[Value.int .i64 a1.vars, v1_1], Value.int .i64 a2] wa (p_impl_FindCertificate Ha wa r) := by
  unfold PF.impl_FindCertificate at hp
  have S0 := St.init hs
  refine calls_go (N := 117) (args := [Value.int .i64 a0, Value.agg #[Value.int .i64 a1.vars, v1_1], Value.int .i64 a2]) Try.func7 rfl rfl rfl ?_
  refine FW.seq (FW.region ?_)
  obtain ⟨b21, w22, run23, S24⟩ := S0.box (P := Try.prog) 29 [Value.int .i64 a1.vars, v1_1] (v := Value.agg #[Value.int .i64 a1.vars, v1_1]) rfl (ones_cons rfl (ones_cons p1_1.one ones_nil))
  refine FL.v (E.box rfl run23) ?_
  obtain ⟨H25, S26, i27, at28⟩ := S24.sealBox (i := 0) (l' := []) rfl rfl
  refine FL.v (E.assign (v := Value.slice none 0 0) rfl) ?_
  refine FL.v (E.assign (v := Value.bool false) rfl) ?_
  refine FL.nil (FW.seq (FW.region ?_))
  refine FL.v (E.move (v := Value.int .i64 a0) rfl) ?_
  refine FL.v (E.load rfl (run_loadA Try.isAgg29 Try.sizeOf29 (at28.now S26.sl) rfl)) ?_
  obtain ⟨r29, hr30, hp⟩ := bnd hp
  refine FL.call rfl rfl rfl (E.call Try.call18 (A2 rfl rfl)) (w_impl_algebraOf S26.sl a0 a1 v1_1 (p1_1.mono i27) hr30) ?_
  rintro e w32 ⟨H31, v35, rfl, r34, h36⟩
  refine ⟨_, rfl, ?_⟩
  have S33 := S26.call r34
  refine FL.v (E.move (v := Value.tuple #[v35, Value.bool r29.2]) rfl) ?_
  refine FL.v (E.extract (i := 0) rfl rfl) ?_
  refine FL.v (E.extract (i := 1) rfl rfl) ?_
  refine FL.v (E.assign (v := v35) rfl) ?_
  refine FL.v (E.assign (v := Value.bool r29.2) rfl) ?_
  refine FL.nil (FW.seq (FW.seq (FW.region ?_)))
  refine FL.v (E.move (v := Value.bool r29.2) rfl) ?_
  refine FL.v (E.not rfl) ?_
  refine FL.v (E.move (v := Value.bool (!r29.2)) rfl) ?_
  refine FL.cut 4 (fun f w => ∃ H : GH, St Ha wa H w [] ∧ Inc H31 H ∧ f 2 = Value.int .i64 a2 ∧ f 4 = Value.pointer (some ⟨b21, 0, none⟩) ∧ f 8 = v35 ∧ f 33 = Value.bool (bif (!r29.2) then true else (!(PF.impl_degreeOk a2)))) ?_ ?_
  ·
    rcases bcase (!r29.2) with c46 | c46
    ·
      refine FL.skip (wF_no rfl rfl rfl c46) rfl ?_
      refine FL.skip (wF_no rfl rfl rfl c46) rfl ?_
      refine FL.skip (wF_no rfl rfl rfl c46) rfl ?_
      refine FL.v (E.pickT rfl c46 rfl) ?_
      exact FL.nil ⟨rfl, _, S33, (Inc.rfl _), rfl, rfl, rfl, (congrArg Value.bool (bifT c46).symm)⟩
    ·
      refine FL.val (wF_yes rfl rfl rfl c46) rfl rfl (E.move (v := Value.int .i64 a2) rfl) ?_
      refine FL.call (wF_yes rfl rfl rfl c46) rfl rfl (E.call Try.call19 (A1 rfl)) (w_impl_degreeOk S33.sl a2) ?_
      rintro e w47 ⟨rfl, r48⟩
      refine ⟨_, rfl, ?_⟩
      have S49 := S33.call r48
      refine FL.val (wF_yes rfl rfl rfl c46) rfl rfl (E.not rfl) ?_
      refine FL.v (E.pickF rfl c46 rfl) ?_
      exact FL.nil ⟨rfl, _, S49, (Inc.rfl _), rfl, rfl, rfl, (congrArg Value.bool (bifF c46).symm)⟩
  rintro f45 w44 ⟨H41, S42, i43, k50, k51, k52, k53⟩
  refine FL.nil ?_
  rcases ifB hp with ⟨c54, hp⟩ | ⟨c54, hp⟩
  ·
    refine FW.condT k53 c54 ?_
    refine FW.seq (FW.region ?_)
    refine FL.v (E.assign (v := Value.slice none 0 0) rfl) ?_
    refine FL.v (E.assign (v := Value.bool false) rfl) ?_
    refine FL.nil ?_
    refine FW.ret ?_
    obtain rfl := Option.some.inj hp
    exact ⟨.inr rfl, res2 rfl rfl rfl ⟨_, _, _, _, rfl, (S42.nil 62 1), Els.nil, List.nodup_nil⟩⟩
  ·
    refine FW.condF k53 c54 ?_
    refine FW.skip (FW.seq ?_)
    obtain ⟨y55, hy56, hp⟩ := bnd hp
    rw [hy56] at h36
    obtain ⟨q57, rfl, v58, v60, h59, ⟨c63, ns62⟩, at65⟩ := h36
    have h61 := ns62.rsl
    have nv64 : New H25 [v60] := New.of_up S26.sl h61.dom
    have h61 := h61.mono (up_le S26.size)
    have ns62 := ns62.mono (up_le S26.size)
    refine FW.region ?_
    refine FL.v (E.move k52) ?_
    refine FL.v (E.move k50) ?_
    obtain ⟨r66, hr67, hp⟩ := bnd hp
    refine FL.call rfl rfl rfl (E.call Try.call20 (A2 rfl rfl)) (w_impl_algebra_independent S42.sl q57 y55 v58 v60 (h59.mono i43) (h61.mono (upI.tr i43)) (at65.mono i43) a2 hr67) ?_
    rintro e w69 ⟨H68, v72, n73, cs74, v77, rfl, r71, els75, h78⟩
    refine ⟨_, rfl, ?_⟩
    have nv76 : New H41 cs74 := New.of_up S42.sl els75.dom
    have els75 := els75.mono (up_le S42.size)
    have S70 := S42.join (l' := [.row 60 3 v72 n73 cs74]) r71 rfl
    refine FL.v (E.move (v := Value.tuple #[v72, v77]) rfl) ?_
    refine FL.v (E.extract (i := 0) rfl rfl) ?_
    refine FL.v (E.extract (i := 1) rfl rfl) ?_
    refine FL.v (E.assign (v := v72) rfl) ?_
    refine FL.v (E.assign (v := v77) rfl) ?_
    refine FL.nil (FW.seq ?_)
    obtain ⟨y79, hy80, hp⟩ := bnd hp
    rw [hy80] at h78
    obtain ⟨q81, rfl, v82, v87, ⟨c85, ns84⟩, h88, at90⟩ := h78
    have h83 := ns84.rsl
    have nv86 : New H41 [v82] := New.of_up S42.sl h83.dom
    have h83 := h83.mono (up_le S42.size)
    have ns84 := ns84.mono (up_le S42.size)
    have nv89 : New H41 [v87] := New.of_up S42.sl h88.dom
    have h88 := h88.mono (up_le S42.size)
    refine FW.region ?_
    refine FL.v (E.move (v := Value.pointer (some q81)) rfl) ?_
    refine FL.v (E.move k52) ?_
    refine FL.v (E.nilCheck rfl) ?_
    refine FL.v (E.fieldAddr tf56_0 rfl) ?_
    refine FL.v (E.load rfl (run_loadA Try.isAgg53 Try.sizeOf53 (((at65.mono (i43.tr r71.run.inc)).now S70.sl).sub (j := 0) (n := 2) (c := [Value.int .i64 y55.ring.p, Value.int .i64 y55.ring.vars]) rfl) rfl)) ?_
    obtain ⟨r91, hr92, hp⟩ := bnd hp
    refine FL.call rfl rfl rfl (E.call Try.call22 (A2 rfl rfl)) (w_impl_ring_mono S70.sl y55.ring 0 hr92) ?_
    rintro e w94 ⟨H93, v97, n98, cs99, rfl, r96, els100⟩
    refine ⟨_, rfl, ?_⟩
    have els100 := els100.mono (up_le S70.size)
    have S95 := S70.join (l' := [.row 3 1 v97 n98 cs99, .row 60 3 v72 n73 cs74]) r96 rfl
    obtain ⟨H37, S38, i39, h40, nv101⟩ := S95.sealRowU (i := 0) (l' := [.row 60 3 v72 n73 cs74]) rfl els100 (by decide) rfl
    obtain ⟨s102, hq102, hp⟩ := bnd hp
    obtain ⟨R102, hR102⟩ : ∃ R102 : ((List Int) × (List Int)) → Ending → World → Prop, R102 = (fun s102 e w => ∃ H : GH, ∃ v103 : Value, ∃ n104 : Nat, ∃ cs105 : List Value, ∃ v107 : Value, e = Ending.returned (Value.tuple #[v107, v103]) ∧ St Ha wa H w [.row 60 3 v72 n73 cs74, .row 3 1 v103 n104 cs105] ∧ Inc H37 H ∧ Els (up wa.heap.size H) eI 1 cs105 s102.1 ∧ RSl (up wa.heap.size H) eI 1 v107 s102.2) := ⟨_, rfl⟩
    have hc102 : Calls Try.prog 21 #[Value.pointer (some q81), v97] w94 (R102 s102) := by
      clear hp; have hp := hq102; clear hq102
      refine calls_go (N := 82) (args := [Value.pointer (some q81), v97]) Try.func21 rfl rfl rfl ?_
      refine FW.seq (FW.region ?_)
      refine FL.v (E.assign (v := Value.slice none 0 0) rfl) ?_
      refine FL.v (E.assign (v := Value.slice none 0 0) rfl) ?_
      refine FL.nil (FW.seq (FW.region ?_))
      refine FL.v (E.move (v := Value.pointer (some q81)) rfl) ?_
      refine FL.v (E.nilCheck rfl) ?_
      refine FL.v (E.fieldAddr tf87_3 rfl) ?_
      refine FL.v (E.load rfl (run_load1 Try.isAgg3 ((at90.mono (r96.run.inc.tr i39)).now S38.sl) rfl)) ?_
      obtain ⟨xs109, hm110, hp⟩ := bnd hp
      obtain ⟨v111, w112, n116, cs117, run113, S114, els115, hbl118⟩ := S38.makeEls (P := Try.prog) te48 (G := (up wa.heap.size H37)) (En := eI) (x0 := (0 : Int)) hm110 rfl (ones_cons rfl ones_nil) .i64 .i64
      refine FL.v (E.makeSlice rfl rfl run113) ?_
      refine FL.v (E.assign (v := v111) rfl) ?_
      refine FL.nil (FW.seq (FW.seq (FW.region ?_)))
      refine FL.v (E.move (v := Value.pointer (some q81)) rfl) ?_
      refine FL.v (E.nilCheck rfl) ?_
      refine FL.v (E.fieldAddr tf87_1 rfl) ?_
      refine FL.v (E.load rfl (run_load1 Try.isAgg54 ((at90.mono (r96.run.inc.tr i39)).now S114.sl) rfl)) ?_
      refine FL.v (E.lenP te54 rfl h83) ?_
      refine FL.v (E.move (v := Value.int .i64 0) rfl) ?_
      refine FL.nil ?_
      obtain ⟨q120, hq, hp⟩ := bndR hp
      refine FW.block ?_
      refine FW.mono (FW.forL (S := ((List Int) × (List Int))) (X := Empty) (fun (i120 : Nat) (s120 : ((List Int) × (List Int))) f w => ∃ H : GH, ∃ v121 : Value, ∃ n122 : Nat, ∃ cs123 : List Value, ∃ v125 : Value, St Ha wa H w [.row 3 1 v121 n122 cs123, .row 60 3 v72 n73 cs74] ∧ Inc H37 H ∧ Els (up wa.heap.size H) eI 1 cs123 s120.1 ∧ RSl (up wa.heap.size H) eI 1 v125 s120.2 ∧ f 22 = Value.int .i64 ((i120 : Nat) : Int) ∧ f 0 = Value.pointer (some q81) ∧ f 1 = v125 ∧ f 6 = v121 ∧ f 20 = v82 ∧ f 21 = Value.int .i64 (len y79.rows)) (fun (q : Rs ((List Int) × (List Int)) Empty) e f w => match q with | .go s120 => e = Exit.exit 0 ∧ (∃ H : GH, ∃ v121 : Value, ∃ n122 : Nat, ∃ cs123 : List Value, ∃ v125 : Value, St Ha wa H w [.row 3 1 v121 n122 cs123, .row 60 3 v72 n73 cs74] ∧ Inc H37 H ∧ Els (up wa.heap.size H) eI 1 cs123 s120.1 ∧ RSl (up wa.heap.size H) eI 1 v125 s120.2 ∧ f 1 = v125 ∧ f 6 = v121) | .rt x => x.elim) hq ⟨_, _, _, _, _, S114, (Inc.rfl _), els115, h40, rfl, rfl, rfl, rfl, rfl, rfl⟩ ?_ ?_) ?_
      ·
        clear hp hq
        rintro i120 y119 s120 f131 w130 ⟨H127, v121, n122, cs123, v125, S128, i129, els124, h126, k132, k133, k134, k135, k136, k137⟩ hx120 o309 hp
        refine FW.seq (FW.region ?_)
        refine FL.v (E.lssT k132 k137 (lss_len hx120)) ?_
        refine FL.nil (FW.seq ?_)
        refine FW.condT rfl rfl ?_
        refine FW.skip (FW.seq (FW.block (FW.seq (FW.region ?_))))
        refine FL.v (E.move k132) ?_
        obtain ⟨p138, cs139, pt140, l141, at142, rel143⟩ := h83.at (ix_nat hx120)
        obtain ⟨v144, rfl, h145⟩ := eL_open rel143
        refine FL.v (E.indexAddr te54 k136 k132 pt140) ?_
        refine FL.v (E.load rfl (run_load0 Try.isAgg48 ((at142.mono (upI.tr ((r96.run.inc.tr i39).tr i129))).now S128.sl) rfl)) ?_
        refine FL.v (E.assign (v := Value.int .i64 ((i120 : Nat) : Int)) rfl) ?_
        refine FL.v (E.assign (v := v144) rfl) ?_
        refine FL.nil (FW.seq (FW.region ?_))
        refine FL.v (E.move k134) ?_
        refine FL.v (E.move (v := v144) rfl) ?_
        obtain ⟨r146, hr147, hp⟩ := bnd hp
        refine FL.call rfl rfl rfl (E.call Try.call48 (A1 rfl)) (w_impl_leading S128.sl v144 y119 (h145.mono (upI.tr ((r96.run.inc.tr i39).tr i129))) hr147) ?_
        rintro e w148 ⟨rfl, r149⟩
        refine ⟨_, rfl, ?_⟩
        have S150 := S128.call r149
        obtain ⟨x157, hx158, hp⟩ := bnd hp
        obtain ⟨p151, cs152, pt153, l154, at155, rel156⟩ := h126.at hx158
        obtain rfl := eI_open rel156
        refine FL.v (E.indexAddr te48 rfl rfl pt153) ?_
        refine FL.v (E.load rfl (run_load0 Try.isAgg3 ((at155.mono upI).now S150.sl) rfl)) ?_
        refine FL.v (E.assign (v := Value.int .i64 x157) rfl) ?_
        refine FL.nil (FW.seq (FW.region ?_))
        refine FL.v (E.move (v := Value.int .i64 x157) rfl) ?_
        refine FL.v (E.neq rfl rfl) ?_
        refine FL.nil ?_
        rcases ifB hp with ⟨c159, hp⟩ | ⟨c159, hp⟩
        ·
          refine FW.condT rfl c159 ?_
          refine FW.seq ?_
          obtain ⟨r163, hr164, hp⟩ := bnd hp
          refine FW.drawB (Sl H127) (fun f w => ∃ H : GH, ∃ v173 : Value, ∃ n174 : Nat, ∃ cs175 : List Value, St Ha wa H w [.row 3 1 v121 n122 cs123, .row 60 3 v72 n73 cs74, .row 3 1 v173 n174 cs175] ∧ Inc H127 H ∧ Els (up wa.heap.size H) eI 1 cs175 r163 ∧ f 0 = Value.pointer (some q81) ∧ f 1 = v173 ∧ f 6 = v121 ∧ f 7 = Value.int .i64 ((i120 : Nat) : Int) ∧ f 9 = Value.int .i64 x157 ∧ f 20 = v82 ∧ f 21 = Value.int .i64 (len y79.rows) ∧ f 22 = Value.int .i64 ((i120 : Nat) : Int)) (by kernel_rfl) S150.sl ?_ ?_
          ·
            intro w160 r161
            have S162 := S150.call r161
            refine FB.t (i := 0) (bs 15 1) rfl (SP.nil S162.sl) rfl (fun w' hw' => (E.move k133)) ?_
            refine FB.t (i := 1) (bs 15 3) rfl (SP.nil S162.sl) rfl (fun w' hw' => (E.nilCheck rfl)) ?_
            refine FB.t (i := 2) (bs 15 7) rfl (SP.nil S162.sl) rfl (fun w' hw' => (E.fieldAddr tf87_0 rfl)) ?_
            refine FB.t (i := 3) (bs 15 15) rfl (SP.nil S162.sl) rfl (fun w' hw' => (E.load rfl (run_loadA Try.isAgg53 Try.sizeOf53 (((at90.mono ((r96.run.inc.tr i39).tr i129)).now hw').sub (j := 0) (n := 2) (c := [Value.int .i64 y79.ring.p, Value.int .i64 y79.ring.vars]) rfl) rfl))) ?_
            refine FB.t (i := 4) (bs 15 31) rfl (SP.nil S162.sl) rfl (fun w' hw' => (E.move k134)) ?_
            refine FB.t (i := 5) (bs 15 63) rfl (SP.nil S162.sl) rfl (fun w' hw' => (E.move (v := v144) rfl)) ?_
            refine FB.t (i := 6) (bs 15 127) rfl (SP.nil S162.sl) rfl (fun w' hw' => (E.move k133)) ?_
            refine FB.t (i := 7) (bs 15 255) rfl (SP.nil S162.sl) rfl (fun w' hw' => (E.nilCheck rfl)) ?_
            refine FB.t (i := 8) (bs 15 511) rfl (SP.nil S162.sl) rfl (fun w' hw' => (E.fieldAddr tf87_0 rfl)) ?_
            refine FB.t (i := 9) (bs 15 1023) rfl (SP.nil S162.sl) rfl (fun w' hw' => (E.fieldAddrN tf53_0 rfl rfl)) ?_
            refine FB.t (i := 10) (bs 15 2047) rfl (SP.nil S162.sl) rfl (fun w' hw' => (E.load rfl (run_load1 Try.isAgg3 ((at90.mono ((r96.run.inc.tr i39).tr i129)).now hw') rfl))) ?_
            refine FB.t (i := 11) (bs 15 4095) rfl (SP.nil S162.sl) rfl (fun w' hw' => (E.move (v := Value.int .i64 x157) rfl)) ?_
            refine FB.t (i := 12) (bs 15 8191) rfl (SP.nil S162.sl) rfl (fun w' hw' => (E.sub rfl rfl)) ?_
            refine FB.all1 (i := 13) (by kernel_rfl) ?_
            ·
              refine FC.call (l' := (bs 15 16383)) rfl (by kernel_rfl) rfl rfl rfl (E.call Try.call25 (A4 rfl rfl rfl rfl)) (w_impl_ring_plus S162.sl y79.ring v125 s120.2 (h126.mono upI) v144 y119 (h145.mono (upI.tr ((r96.run.inc.tr i39).tr i129))) (wr (y79.ring.p - x157)) hr164) ?_
              rintro e w166 ⟨H165, v169, n170, cs171, rfl, r168, els172⟩
              refine ⟨_, rfl, ?_⟩
              have els172 := els172.mono (up_le S162.size)
              have S167 := S162.join (l' := [.row 3 1 v169 n170 cs171, .row 3 1 v121 n122 cs123, .row 60 3 v72 n73 cs74]) r168 rfl
              refine ⟨(SP.nil (Sl.of_inc r168.run.inc S167.sl)), ?_⟩
              refine FB.t (i := 14) (bs 15 32767) rfl (SP.nil (Sl.of_inc r168.run.inc S167.sl)) rfl (fun w' hw' => (E.assign (v := v169) rfl)) ?_
              exact FB.done (by kernel_rfl) ⟨_, _, _, _, (S167.sel [1, 2, 0] (by decide) rfl), r168.run.inc, els172, k133, rfl, k135, rfl, rfl, k136, k137, k132⟩
          ·
            rintro f181 w180 ⟨H177, v173, n174, cs175, S178, i179, els176, k182, k183, k184, k185, k186, k187, k188, k189⟩
            refine FW.seq (FW.region ?_)
            refine FL.v (E.move k182) ?_
            refine FL.v (E.nilCheck rfl) ?_
            refine FL.v (E.fieldAddr tf87_2 rfl) ?_
            refine FL.v (E.load rfl (run_load1 Try.isAgg54 ((at90.mono (((r96.run.inc.tr i39).tr i129).tr i179)).now S178.sl) rfl)) ?_
            refine FL.v (E.move k185) ?_
            obtain ⟨x196, hx197, hp⟩ := bnd hp
            obtain ⟨p190, cs191, pt192, l193, at194, rel195⟩ := h88.at hx197
            obtain ⟨v198, rfl, h199⟩ := eL_open rel195
            refine FL.v (E.indexAddr te54 rfl rfl pt192) ?_
            refine FL.v (E.load rfl (run_load0 Try.isAgg48 ((at194.mono (upI.tr (((r96.run.inc.tr i39).tr i129).tr i179))).now S178.sl) rfl)) ?_
            refine FL.v (E.lenP te48 rfl h199) ?_
            refine FL.v (E.move (v := Value.int .i64 0) rfl) ?_
            refine FL.nil ?_
            obtain ⟨q201, hq, hp⟩ := bndR hp
            refine FW.block ?_
            refine FW.mono (FW.forL (S := (List Int)) (X := Empty) (fun (i201 : Nat) (s201 : (List Int)) f w => ∃ H : GH, ∃ v202 : Value, ∃ n203 : Nat, ∃ cs204 : List Value, St Ha wa H w [.row 3 1 v202 n203 cs204, .row 60 3 v72 n73 cs74, .row 3 1 v173 n174 cs175] ∧ Inc H177 H ∧ Els (up wa.heap.size H) eI 1 cs204 s201 ∧ f 56 = Value.int .i64 ((i201 : Nat) : Int) ∧ f 0 = Value.pointer (some q81) ∧ f 1 = v173 ∧ f 6 = v202 ∧ f 9 = Value.int .i64 x157 ∧ f 20 = v82 ∧ f 21 = Value.int .i64 (len y79.rows) ∧ f 22 = Value.int .i64 ((i120 : Nat) : Int) ∧ f 54 = v198 ∧ f 55 = Value.int .i64 (len x196)) (fun (q : Rs (List Int) Empty) e f w => match q with | .go s201 => e = Exit.exit 2 ∧ (∃ H : GH, ∃ v202 : Value, ∃ n203 : Nat, ∃ cs204 : List Value, St Ha wa H w [.row 3 1 v202 n203 cs204, .row 60 3 v72 n73 cs74, .row 3 1 v173 n174 cs175] ∧ Inc H177 H ∧ Els (up wa.heap.size H) eI 1 cs204 s201 ∧ f 0 = Value.pointer (some q81) ∧ f 1 = v173 ∧ f 6 = v202 ∧ f 20 = v82 ∧ f 21 = Value.int .i64 (len y79.rows) ∧ f 22 = Value.int .i64 ((i120 : Nat) : Int)) | .rt x => x.elim) hq ⟨_, _, _, _, S178, (Inc.rfl _), (els124.mono (up_mono i179)), rfl, k182, k183, k184, k186, k187, k188, k189, rfl, rfl⟩ ?_ ?_) ?_
            ·
              clear hp hq
              rintro i201 y200 s201 f210 w209 ⟨H206, v202, n203, cs204, S207, i208, els205, k211, k212, k213, k214, k215, k216, k217, k218, k219, k220⟩ hx201 o277 hp
              refine FW.seq (FW.region ?_)
              refine FL.v (E.lssT k211 k220 (lss_len hx201)) ?_
              refine FL.nil (FW.seq ?_)
              refine FW.condT rfl rfl ?_
              refine FW.skip (FW.seq (FW.block (FW.seq (FW.region ?_))))
              refine FL.v (E.move k211) ?_
              obtain ⟨p221, cs222, pt223, l224, at225, rel226⟩ := h199.at (ix_nat hx201)
              obtain rfl := eI_open rel226
              refine FL.v (E.indexAddr te48 k219 k211 pt223) ?_
              refine FL.v (E.load rfl (run_load0 Try.isAgg3 ((at225.mono (upI.tr ((((r96.run.inc.tr i39).tr i129).tr i179).tr i208))).now S207.sl) rfl)) ?_
              refine FL.v (E.assign (v := Value.int .i64 ((i201 : Nat) : Int)) rfl) ?_
              refine FL.v (E.assign (v := Value.int .i64 y200) rfl) ?_
              refine FL.nil ?_
              obtain ⟨x236, hx237, hp⟩ := bnd hp
              obtain ⟨u240, z239, hp⟩ := bnd hp
              obtain ⟨x247, hx248, hp⟩ := bnd hp
              obtain ⟨xs253, hput254, hp⟩ := bnd hp
              refine FW.drawB (Sl H206) (fun f w => ∃ H : GH, ∃ v258 : Value, ∃ n259 : Nat, ∃ cs260 : List Value, St Ha wa H w [.row 3 1 v258 n259 cs260, .row 60 3 v72 n73 cs74, .row 3 1 v173 n174 cs175] ∧ Inc H206 H ∧ Els (up wa.heap.size H) eI 1 cs260 xs253 ∧ f 0 = Value.pointer (some q81) ∧ f 1 = v173 ∧ f 6 = v258 ∧ f 9 = Value.int .i64 x157 ∧ f 20 = v82 ∧ f 21 = Value.int .i64 (len y79.rows) ∧ f 22 = Value.int .i64 ((i120 : Nat) : Int) ∧ f 54 = v198 ∧ f 55 = Value.int .i64 (len x196) ∧ f 56 = Value.int .i64 ((i201 : Nat) : Int)) (by kernel_rfl) S207.sl ?_ ?_
              ·
                intro w227 r228
                have S229 := S207.call r228
                refine FB.t (i := 0) (bs 18 1) rfl (SP.nil S229.sl) rfl (fun w' hw' => (E.move k214)) ?_
                refine FB.t (i := 1) (bs 18 3) rfl (SP.nil S229.sl) rfl (fun w' hw' => (E.move (v := Value.int .i64 ((i201 : Nat) : Int)) rfl)) ?_
                refine FB.t (i := 2) (bs 18 7) rfl (SP.nil S229.sl) rfl (fun w' hw' => (E.move k214)) ?_
                refine FB.t (i := 3) (bs 18 15) rfl (SP.nil S229.sl) rfl (fun w' hw' => (E.move (v := Value.int .i64 ((i201 : Nat) : Int)) rfl)) ?_
                obtain ⟨p230, cs231, pt232, l233, at234, rel235, hall238⟩ := S229.row_atA (i := 0) rfl els205 (by decide) hx237
                obtain rfl := eI_open rel235
                refine FB.t (i := 4) (bs 18 31) rfl (SP.nil S229.sl) rfl (fun w' hw' => (E.indexAddr te48 rfl rfl pt232)) ?_
                refine FB.phase [17] (fun w' => WAt w' p230 [Value.int .i64 x236]) ?_
                refine FB.p (i := 5) (bs 18 63) 0 [9, 15, 16, 17] rfl (SP.on (hall238 _ _ _ 0 S229 rfl) (SP.nil S229.sl)) rfl rfl (fun w' hw' => (E.load rfl (run_load0 Try.isAgg3 hw' rfl))) ?_
                refine FB.t (i := 6) (bs 18 127) rfl (SP.on (hall238 _ _ _ 0 S229 rfl) (SP.nil S229.sl)) rfl (fun w' hw' => (E.move k215)) ?_
                refine FB.t (i := 7) (bs 18 255) rfl (SP.on (hall238 _ _ _ 0 S229 rfl) (SP.nil S229.sl)) rfl (fun w' hw' => (E.move (v := Value.int .i64 y200) rfl)) ?_
                refine FB.t (i := 8) (bs 18 511) rfl (SP.on (hall238 _ _ _ 0 S229 rfl) (SP.nil S229.sl)) rfl (fun w' hw' => (E.mul rfl rfl)) ?_
                refine FB.t (i := 9) (bs 18 1023) rfl (SP.on (hall238 _ _ _ 0 S229 rfl) (SP.nil S229.sl)) rfl (fun w' hw' => (E.add rfl rfl)) ?_
                refine FB.t (i := 10) (bs 18 2047) rfl (SP.on (hall238 _ _ _ 0 S229 rfl) (SP.nil S229.sl)) rfl (fun w' hw' => (E.move k212)) ?_
                refine FB.t (i := 11) (bs 18 4095) rfl (SP.on (hall238 _ _ _ 0 S229 rfl) (SP.nil S229.sl)) rfl (fun w' hw' => (E.nilCheck rfl)) ?_
                refine FB.t (i := 12) (bs 18 8191) rfl (SP.on (hall238 _ _ _ 0 S229 rfl) (SP.nil S229.sl)) rfl (fun w' hw' => (E.fieldAddr tf87_0 rfl)) ?_
                refine FB.t (i := 13) (bs 18 16383) rfl (SP.on (hall238 _ _ _ 0 S229 rfl) (SP.nil S229.sl)) rfl (fun w' hw' => (E.fieldAddrN tf53_0 rfl rfl)) ?_
                refine FB.t (i := 14) (bs 18 32767) rfl (SP.on (hall238 _ _ _ 0 S229 rfl) (SP.nil S229.sl)) rfl (fun w' hw' => (E.load rfl (run_load1 Try.isAgg3 ((at90.mono ((((r96.run.inc.tr i39).tr i129).tr i179).tr i208)).now hw') rfl))) ?_
                refine FB.t (i := 15) (bs 18 65535) rfl (SP.on (hall238 _ _ _ 0 S229 rfl) (SP.nil S229.sl)) rfl (fun w' hw' => (E.rem rfl rfl (nz_ne z239))) ?_
                obtain ⟨p241, cs242, pt243, l244, at245, rel246, hall249⟩ := S229.row_atA (i := 0) rfl els205 (by decide) hx248
                obtain rfl := eI_open rel246
                refine FB.t (i := 16) (bs 18 131071) rfl (SP.on (hall238 _ _ _ 0 S229 rfl) (SP.nil S229.sl)) rfl (fun w' hw' => (E.indexAddr te48 rfl rfl pt243)) ?_
                refine FB.all1 (i := 17) (by kernel_rfl) ?_
                ·
                  obtain ⟨w250, cs256, run251, S252, els255, ce257⟩ := S229.putEls (P := Try.prog) (t := 3) (i := 0) rfl els205 hput254 pt243 Try.sizeOf3 (u := Value.int .i64 ((wr (x236 + (wr (x157 * y200)))).tmod y79.ring.p)) (c := [Value.int .i64 ((wr (x236 + (wr (x157 * y200)))).tmod y79.ring.p)]) rfl rfl (ones_cons rfl ones_nil) rfl
                  have S252 : St Ha wa H206 w250 [.row 3 1 v202 n203 cs256, .row 60 3 v72 n73 cs74, .row 3 1 v173 n174 cs175] := S252
                  refine FC.act (l' := (bs 18 262143)) rfl (by kernel_rfl) rfl rfl (E.store rfl rfl run251) ?_
                  refine ⟨(SP.o (SP.nil S252.sl)), ?_⟩
                  exact FB.done (by kernel_rfl) ⟨_, _, _, _, S252, (Inc.rfl _), els255, k212, k213, k214, k215, k216, k217, k218, k219, k220, k211⟩
              ·
                rintro f266 w265 ⟨H262, v258, n259, cs260, S263, i264, els261, k267, k268, k269, k270, k271, k272, k273, k274, k275, k276⟩
                refine FW.region ?_
                refine FL.v (E.add k276 rfl) ?_
                refine FL.v (E.move (v := Value.int .i64 (wr (((i201 : Nat) : Int) + 1))) rfl) ?_
                refine FL.nil ?_
                obtain rfl := Option.some.inj hp
                exact ⟨rfl, ⟨_, _, _, _, S263, (i208.tr i264), els261, (nat_succ rfl (lt_of_get hx201) (h199.mono (upI.tr (((((r96.run.inc.tr i39).tr i129).tr i179).tr i208).tr i264))).le), k267, k268, k269, k270, k271, k272, k273, k274, k275⟩⟩
            ·
              clear hp hq
              rintro s201 f298 w297 ⟨H294, v202, n203, cs204, S295, i296, els205, k299, k300, k301, k302, k303, k304, k305, k306, k307, k308⟩
              refine FW.seq (FW.region ?_)
              refine FL.v (E.lss k299 k308) ?_
              refine FL.nil (FW.seq ?_)
              refine FW.condF rfl dlt_len ?_
              refine FW.exit ?_
              exact ⟨nofun, rfl, ⟨_, _, _, _, S295, i296, els205, k300, k301, k302, k304, k305, k306⟩⟩
            ·
              clear hq
              intro e f282 w281 hD
              rcases q201 with s201 | x201
              ·
                obtain ⟨rfl, hD⟩ := hD
                obtain ⟨H278, v202, n203, cs204, S279, i280, els205, k283, k284, k285, k286, k287, k288⟩ := hD
                replace hp := el_go hp
                refine FW.region ?_
                refine FL.v (E.add k288 rfl) ?_
                refine FL.v (E.move (v := Value.int .i64 (wr (((i120 : Nat) : Int) + 1))) rfl) ?_
                refine FL.nil ?_
                obtain ⟨H289, S290, i291, h292, nv293⟩ := S279.sealRowU (i := 2) (l' := [.row 3 1 v202 n203 cs204, .row 60 3 v72 n73 cs74]) rfl (els176.mono (up_mono i280)) (by decide) rfl
                obtain rfl := Option.some.inj hp
                exact ⟨rfl, ⟨_, _, _, _, _, S290, (((i129.tr i179).tr i280).tr i291), (els205.mono (up_mono i291)), h292, (nat_succ rfl (lt_of_get hx120) (h83.mono (upI.tr (((((r96.run.inc.tr i39).tr i129).tr i179).tr i280).tr i291))).le), k283, k284, k285, k286, k287⟩⟩
              · exact x201.elim
        ·
          refine FW.condF rfl c159 ?_
          refine FW.skip (FW.region ?_)
          refine FL.v (E.add k132 rfl) ?_
          refine FL.v (E.move (v := Value.int .i64 (wr (((i120 : Nat) : Int) + 1))) rfl) ?_
          refine FL.nil ?_
          obtain rfl := Option.some.inj hp
          exact ⟨rfl, ⟨_, _, _, _, _, S150, i129, els124, h126, (nat_succ rfl (lt_of_get hx120) (h83.mono (upI.tr ((r96.run.inc.tr i39).tr i129))).le), k133, k134, k135, k136, k137⟩⟩
      ·
        clear hp hq
        rintro s120 f321 w320 ⟨H317, v121, n122, cs123, v125, S318, i319, els124, h126, k322, k323, k324, k325, k326, k327⟩
        refine FW.seq (FW.region ?_)
        refine FL.v (E.lss k322 k327) ?_
        refine FL.nil (FW.seq ?_)
        refine FW.condF rfl dlt_len ?_
        refine FW.exit ?_
        exact ⟨nofun, rfl, ⟨_, _, _, _, _, S318, i319, els124, h126, k324, k325⟩⟩
      ·
        clear hq
        intro e f314 w313 hD
        rcases q120 with s120 | x120
        ·
          obtain ⟨rfl, hD⟩ := hD
          obtain ⟨H310, v121, n122, cs123, v125, S311, i312, els124, h126, k315, k316⟩ := hD
          replace hp := el_go hp
          refine FW.seq (FW.region ?_)
          refine FL.v (E.move k315) ?_
          refine FL.v (E.move k316) ?_
          refine FL.v (E.assign (v := v125) rfl) ?_
          refine FL.v (E.assign (v := v121) rfl) ?_
          refine FL.nil ?_
          refine FW.ret ?_
          obtain rfl := Option.some.inj hp
          exact ⟨.inr rfl, res2 rfl rfl rfl (by rw [hR102]; exact ⟨_, _, _, _, _, rfl, (S311.sel [1, 0] (by decide) rfl), i312, els124, h126⟩)⟩
        · exact x120.elim
    clear hq102
    refine FL.call rfl rfl rfl (E.call Try.call21 (A2 rfl rfl)) hc102 ?_
    intro e w331 hQ102
    rw [hR102] at hQ102
    obtain ⟨H328, v103, n104, cs105, v107, rfl, S329, i330, els106, h108⟩ := hQ102
    refine ⟨_, rfl, ?_⟩
    refine FL.v (E.move (v := Value.tuple #[v107, v103]) rfl) ?_
    refine FL.v (E.extract (i := 0) rfl rfl) ?_
    refine FL.v (E.extract (i := 1) rfl rfl) ?_
    refine FL.v (E.assign (v := v107) rfl) ?_
    refine FL.v (E.assign (v := v103) rfl) ?_
    refine FL.nil (FW.seq (FW.seq (FW.region ?_)))
    refine FL.v (E.move (v := v107) rfl) ?_
    obtain ⟨r332, hr333, hp⟩ := bnd hp
    refine FL.call rfl rfl rfl (E.call Try.call23 (A1 rfl)) (w_impl_dense_isZero S329.sl v107 s102.2 (h108.mono upI) hr333) ?_
    rintro e w334 ⟨rfl, r335⟩
    refine ⟨_, rfl, ?_⟩
    have S336 := S329.call r335
    refine FL.v (E.not rfl) ?_
    refine FL.nil ?_
    rcases ifB hp with ⟨c337, hp⟩ | ⟨c337, hp⟩
    ·
      refine FW.condT rfl c337 ?_
      refine FW.seq (FW.region ?_)
      refine FL.v (E.assign (v := Value.slice none 0 0) rfl) ?_
      refine FL.v (E.assign (v := Value.bool false) rfl) ?_
      refine FL.nil ?_
      refine FW.ret ?_
      obtain rfl := Option.some.inj hp
      exact ⟨.inr rfl, res2 rfl rfl rfl ⟨_, _, _, _, rfl, ((S336.nil 62 1).sel [0] (by decide) rfl), Els.nil, List.nodup_nil⟩⟩
    ·
      refine FW.condF rfl c337 ?_
      refine FW.skip (FW.seq (FW.region ?_))
      refine FL.v (E.fieldAddr tf29_1 k51) ?_
      refine FL.v (E.load rfl (run_load1 Try.isAgg22 ((at28.mono (((((r34.inc.tr i43).tr r71.run.inc).tr r96.run.inc).tr i39).tr i330)).now S336.sl) rfl)) ?_
      refine FL.v (E.lenP te22 rfl p1_1) ?_
      obtain ⟨xs338, hm339, hp⟩ := bnd hp
      obtain ⟨v340, w341, n345, cs346, run342, S343, els344, hbl347⟩ := S336.makeEls (P := Try.prog) te54 (G := (up wa.heap.size H328)) (En := (eL eI 1)) (x0 := ([] : List Int)) hm339 ⟨_, rfl, RSl.nil _ _ _⟩ (ones_cons rfl ones_nil) .i64 .i64
      have nd348 : (bl cs346).Nodup := by rw [hbl347 (by simp [Value.cells, neb])]; exact List.nodup_nil
      refine FL.v (E.makeSlice rfl rfl run342) ?_
      refine FL.v (E.assign (v := v340) rfl) ?_
      refine FL.nil (FW.seq (FW.seq (FW.region ?_)))
      refine FL.v (E.move (v := v340) rfl) ?_
      refine FL.v (E.lenO te54 rfl S343 (i := 0) rfl els344 (by decide)) ?_
      refine FL.v (E.move (v := Value.int .i64 0) rfl) ?_
      refine FL.nil ?_
      obtain ⟨m349, hchk350, hp⟩ := bnd hp
      obtain ⟨q350, hq, hp⟩ := bndR hp
      refine FW.block ?_
      refine FW.mono (FW.forR (S := (List (List Int))) (X := Empty) (fun (i350 : Nat) (s350 : (List (List Int))) f w => ∃ H : GH, ∃ v351 : Value, ∃ n352 : Nat, ∃ cs353 : List Value, St Ha wa H w [.row 48 1 v351 n352 cs353, .row 60 3 v72 n73 cs74, .row 3 1 v103 n104 cs105] ∧ Inc H328 H ∧ Els (up wa.heap.size H) (eL eI 1) 1 cs353 s350 ∧ (bl cs353).Nodup ∧ f 59 = Value.int .i64 ((i350 : Nat) : Int) ∧ f 8 = Value.pointer (some q57) ∧ f 10 = v72 ∧ f 13 = v103 ∧ f 14 = v351 ∧ f 58 = Value.int .i64 (len xs338)) (fun (q : Rs (List (List Int)) Empty) e f w => match q with | .go s350 => e = Exit.exit 0 ∧ (∃ H : GH, ∃ v351 : Value, ∃ n352 : Nat, ∃ cs353 : List Value, St Ha wa H w [.row 48 1 v351 n352 cs353, .row 60 3 v72 n73 cs74, .row 3 1 v103 n104 cs105] ∧ Inc H328 H ∧ Els (up wa.heap.size H) (eL eI 1) 1 cs353 s350 ∧ (bl cs353).Nodup ∧ f 8 = Value.pointer (some q57) ∧ f 10 = v72 ∧ f 13 = v103 ∧ f 14 = v351) | .rt x => x.elim) hq ⟨_, _, _, _, S343, (Inc.rfl _), els344, nd348, rfl, k52, rfl, rfl, rfl, rfl⟩ ?_ ?_) ?_
      ·
        clear hp hq
        rintro i350 s350 f360 w359 ⟨H356, v351, n352, cs353, S357, i358, els354, nd355, k361, k362, k363, k364, k365, k366⟩ hi350 hj350 o401 hp
        refine FW.seq (FW.region ?_)
        refine FL.v (E.lssT k361 k366 (lss_chk hj350 hchk350)) ?_
        refine FL.nil (FW.seq ?_)
        refine FW.condT rfl rfl ?_
        refine FW.skip (FW.seq (FW.block (FW.seq (FW.region ?_))))
        refine FL.v (E.move k361) ?_
        refine FL.v (E.assign (v := Value.int .i64 ((i350 : Nat) : Int)) rfl) ?_
        refine FL.nil (FW.region ?_)
        refine FL.v (E.move k365) ?_
        refine FL.v (E.move (v := Value.int .i64 ((i350 : Nat) : Int)) rfl) ?_
        refine FL.v (E.move k362) ?_
        refine FL.v (E.nilCheck rfl) ?_
        refine FL.v (E.fieldAddr tf56_0 rfl) ?_
        refine FL.v (E.load rfl (run_loadA Try.isAgg53 Try.sizeOf53 (((at65.mono (((((i43.tr r71.run.inc).tr r96.run.inc).tr i39).tr i330).tr i358)).now S357.sl).sub (j := 0) (n := 2) (c := [Value.int .i64 y55.ring.p, Value.int .i64 y55.ring.vars]) rfl) rfl)) ?_
        obtain ⟨r367, hr368, hp⟩ := bnd hp
        refine FL.call rfl rfl rfl (E.call Try.call24 (A1 rfl)) (w_impl_ring_zero S357.sl y55.ring hr368) ?_
        rintro e w370 ⟨H369, v373, n374, cs375, rfl, r372, els376⟩
        refine ⟨_, rfl, ?_⟩
        have els376 := els376.mono (up_le S357.size)
        have S371 := S357.join (l' := [.row 3 1 v373 n374 cs375, .row 48 1 v351 n352 cs353, .row 60 3 v72 n73 cs74, .row 3 1 v103 n104 cs105]) r372 rfl
        obtain ⟨x383, hx384, hp⟩ := bnd hp
        obtain ⟨p377, cs378, pt379, l380, at381, rel382⟩ := S371.row_at (i := 1) rfl els354 (by decide) hx384
        obtain ⟨v385, rfl, h386⟩ := eL_open rel382
        refine FL.v (E.indexAddr te54 rfl rfl pt379) ?_
        obtain ⟨H387, S388, i389, h390, nv391⟩ := S371.sealRowU (i := 0) (l' := [.row 48 1 v351 n352 cs353, .row 60 3 v72 n73 cs74, .row 3 1 v103 n104 cs105]) rfl els376 (by decide) rfl
        obtain ⟨xs395, hput396, hp⟩ := bnd hp
        obtain ⟨w392, cs398, run393, S394, els397, ce399⟩ := S388.putEls (P := Try.prog) (t := 48) (i := 0) rfl (els354.mono (up_mono (r372.run.inc.tr i389))) hput396 pt379 Try.sizeOf48 (u := v373) (c := [v373]) h390.cells rfl (ones_cons h390.one ones_nil) ⟨_, rfl, h390⟩
        have S394 : St Ha wa H387 w392 [.row 48 1 v351 n352 cs398, .row 60 3 v72 n73 cs74, .row 3 1 v103 n104 cs105] := S394
        have nd400 : (bl cs398).Nodup := by rw [ce399]; exact nd_put (Nat.le_add_right _ _) nd355 (by exact nd_one v373) (Els.dom (els354.mono (upI.tr r372.run.inc))) (by exact nv391)
        refine FL.act rfl rfl (E.store rfl rfl run393) ?_
        refine FL.nil (FW.region ?_)
        refine FL.v (E.add k361 rfl) ?_
        refine FL.v (E.move (v := Value.int .i64 (wr (((i350 : Nat) : Int) + 1))) rfl) ?_
        refine FL.nil ?_
        obtain rfl := Option.some.inj hp
        exact ⟨rfl, ⟨_, _, _, _, S394, ((i358.tr r372.run.inc).tr i389), els397, nd400, (nat_succ rfl hj350 (chk_le hchk350)), k362, k363, k364, k365, k366⟩⟩
      ·
        clear hp hq
        rintro s350 f638 w637 ⟨H634, v351, n352, cs353, S635, i636, els354, nd355, k639, k640, k641, k642, k643, k644⟩
        refine FW.seq (FW.region ?_)
        refine FL.v (E.lss k639 k644) ?_
        refine FL.nil (FW.seq ?_)
        refine FW.condF rfl (dlt_maxchk hchk350) ?_
        refine FW.exit ?_
        exact ⟨nofun, rfl, ⟨_, _, _, _, S635, i636, els354, nd355, k640, k641, k642, k643⟩⟩
      ·
        clear hq
        intro e f406 w405 hD
        rcases q350 with s350 | x350
        ·
          obtain ⟨rfl, hD⟩ := hD
          obtain ⟨H402, v351, n352, cs353, S403, i404, els354, nd355, k407, k408, k409, k410⟩ := hD
          replace hp := el_go hp
          refine FW.seq (FW.seq (FW.region ?_))
          refine FL.v (E.move k408) ?_
          refine FL.v (E.lenO te43 rfl S403 (i := 1) rfl els75 (by decide)) ?_
          refine FL.v (E.move (v := Value.int .i64 0) rfl) ?_
          refine FL.nil ?_
          obtain ⟨m411, hchk412, hp⟩ := bnd hp
          obtain ⟨q412, hq, hp⟩ := bndR hp
          refine FW.block ?_
          refine FW.mono (FW.forR (S := (List (List Int))) (X := Empty) (fun (i412 : Nat) (s412 : (List (List Int))) f w => ∃ H : GH, ∃ v413 : Value, ∃ n414 : Nat, ∃ cs415 : List Value, St Ha wa H w [.row 48 1 v413 n414 cs415, .row 60 3 v72 n73 cs74, .row 3 1 v103 n104 cs105] ∧ Inc H402 H ∧ Els (up wa.heap.size H) (eL eI 1) 1 cs415 s412 ∧ (bl cs415).Nodup ∧ f 73 = Value.int .i64 ((i412 : Nat) : Int) ∧ f 8 = Value.pointer (some q57) ∧ f 13 = v103 ∧ f 14 = v413 ∧ f 71 = v72 ∧ f 72 = Value.int .i64 (len r66.1)) (fun (q : Rs (List (List Int)) Empty) e f w => match q with | .go s412 => e = Exit.exit 2 ∧ (∃ H : GH, ∃ v413 : Value, ∃ n414 : Nat, ∃ cs415 : List Value, St Ha wa H w [.row 48 1 v413 n414 cs415, .row 60 3 v72 n73 cs74, .row 3 1 v103 n104 cs105] ∧ Inc H402 H ∧ Els (up wa.heap.size H) (eL eI 1) 1 cs415 s412 ∧ (bl cs415).Nodup ∧ f 14 = v413) | .rt x => x.elim) hq ⟨_, _, _, _, S403, (Inc.rfl _), els354, nd355, rfl, k407, k409, k410, rfl, rfl⟩ ?_ ?_) ?_
          ·
            clear hp hq
            rintro i412 s412 f422 w421 ⟨H418, v413, n414, cs415, S419, i420, els416, nd417, k423, k424, k425, k426, k427, k428⟩ hi412 hj412 o541 hp
            refine FW.seq (FW.region ?_)
            refine FL.v (E.lssT k423 k428 (lss_chk hj412 hchk412)) ?_
            refine FL.nil (FW.seq ?_)
            refine FW.condT rfl rfl ?_
            refine FW.skip (FW.seq (FW.block (FW.seq (FW.region ?_))))
            refine FL.v (E.move k423) ?_
            obtain ⟨x435, hx436, hp⟩ := bnd hp
            obtain ⟨p429, cs430, pt431, l432, at433, rel434⟩ := S419.row_at (i := 1) rfl els75 (by decide) hx436
            obtain ⟨v437, rfl, h438⟩ := eproduct_open rel434
            refine FL.v (E.indexAddr te43 k427 k423 pt431) ?_
            refine FL.v (E.load rfl (run_loadA Try.isAgg60 Try.sizeOf60 at433 rfl)) ?_
            obtain ⟨b439, w440, run441, S442⟩ := S419.alloc (P := Try.prog) 60 [Value.int .i64 0, Value.int .i64 0, Value.slice none 0 0] Try.zeroValue60 rfl (ones_cons rfl (ones_cons rfl (ones_cons rfl ones_nil)))
            refine FL.v (E.alloc run441) ?_
            refine FL.v (E.assign (v := Value.int .i64 ((i412 : Nat) : Int)) rfl) ?_
            obtain ⟨w443, run444, S445⟩ := S442.store0 (P := Try.prog) (t := 60) (i := 0) (cs' := [Value.int .i64 x435.clause, Value.int .i64 x435.mono, v437]) (l' := [.box b439 60 [Value.int .i64 x435.clause, Value.int .i64 x435.mono, v437], .row 48 1 v413 n414 cs415, .row 60 3 v72 n73 cs74, .row 3 1 v103 n104 cs105]) (v := Value.agg #[Value.int .i64 x435.clause, Value.int .i64 x435.mono, v437]) (c := [Value.int .i64 x435.clause, Value.int .i64 x435.mono, v437]) rfl Try.sizeOf60 rfl rfl (ones_cons rfl (ones_cons rfl (ones_cons h438.one ones_nil))) (Nat.le_of_ble_eq_true rfl) rfl rfl
            refine FL.act rfl rfl (E.store rfl rfl run444) ?_
            obtain ⟨H446, S447, i448, at449⟩ := S445.sealBox (i := 0) (l' := [.row 48 1 v413 n414 cs415, .row 60 3 v72 n73 cs74, .row 3 1 v103 n104 cs105]) rfl rfl
            refine FL.nil ?_
            obtain ⟨x459, hx460, hp⟩ := bnd hp
            obtain ⟨r464, hr465, hp⟩ := bnd hp
            obtain ⟨x480, hx481, hp⟩ := bnd hp
            obtain ⟨r488, hr489, hp⟩ := bnd hp
            obtain ⟨x506, hx507, hp⟩ := bnd hp
            obtain ⟨xs519, hput520, hp⟩ := bnd hp
            refine FW.drawB (SX Ha wa H446 [.row 3 1 v103 n104 cs105]) (fun f w => ∃ H : GH, ∃ v525 : Value, ∃ n526 : Nat, ∃ cs527 : List Value, St Ha wa H w [.row 48 1 v525 n526 cs527, .row 60 3 v72 n73 cs74, .row 3 1 v103 n104 cs105] ∧ Inc H446 H ∧ Els (up wa.heap.size H) (eL eI 1) 1 cs527 xs519 ∧ (bl cs527).Nodup ∧ f 8 = Value.pointer (some q57) ∧ f 13 = v103 ∧ f 14 = v525 ∧ f 71 = v72 ∧ f 72 = Value.int .i64 (len r66.1) ∧ f 73 = Value.int .i64 ((i412 : Nat) : Int)) (by kernel_rfl) S447.sl ?_ ?_
            ·
              intro w450 r451
              have S452 := S447.call r451
              refine FB.t (i := 0) (bs 26 1) rfl (SP.nil ⟨_, (S452.sel [2] (by decide) rfl), (Inc.rfl _)⟩) rfl (fun w' hw' => (E.move k426)) ?_
              refine FB.t (i := 1) (bs 26 3) rfl (SP.nil ⟨_, (S452.sel [2] (by decide) rfl), (Inc.rfl _)⟩) rfl (fun w' hw' => (E.fieldAddr tf60_0 rfl)) ?_
              refine FB.t (i := 2) (bs 26 7) rfl (SP.nil ⟨_, (S452.sel [2] (by decide) rfl), (Inc.rfl _)⟩) rfl (fun w' hw' => (E.load rfl (run_load1 Try.isAgg3 (at449.now hw'.sl) rfl))) ?_
              refine FB.t (i := 3) (bs 26 15) rfl (SP.nil ⟨_, (S452.sel [2] (by decide) rfl), (Inc.rfl _)⟩) rfl (fun w' hw' => (E.move k424)) ?_
              refine FB.t (i := 4) (bs 26 31) rfl (SP.nil ⟨_, (S452.sel [2] (by decide) rfl), (Inc.rfl _)⟩) rfl (fun w' hw' => (E.nilCheck rfl)) ?_
              refine FB.t (i := 5) (bs 26 63) rfl (SP.nil ⟨_, (S452.sel [2] (by decide) rfl), (Inc.rfl _)⟩) rfl (fun w' hw' => (E.fieldAddr tf56_0 rfl)) ?_
              refine FB.t (i := 6) (bs 26 127) rfl (SP.nil ⟨_, (S452.sel [2] (by decide) rfl), (Inc.rfl _)⟩) rfl (fun w' hw' => (E.load rfl (run_loadA Try.isAgg53 Try.sizeOf53 (((at65.mono (((((((i43.tr r71.run.inc).tr r96.run.inc).tr i39).tr i330).tr i404).tr i420).tr i448)).now hw'.sl).sub (j := 0) (n := 2) (c := [Value.int .i64 y55.ring.p, Value.int .i64 y55.ring.vars]) rfl) rfl))) ?_
              refine FB.t (i := 7) (bs 26 255) rfl (SP.nil ⟨_, (S452.sel [2] (by decide) rfl), (Inc.rfl _)⟩) rfl (fun w' hw' => (E.move k426)) ?_
              refine FB.t (i := 8) (bs 26 511) rfl (SP.nil ⟨_, (S452.sel [2] (by decide) rfl), (Inc.rfl _)⟩) rfl (fun w' hw' => (E.fieldAddr tf60_0 rfl)) ?_
              refine FB.t (i := 9) (bs 26 1023) rfl (SP.nil ⟨_, (S452.sel [2] (by decide) rfl), (Inc.rfl _)⟩) rfl (fun w' hw' => (E.load rfl (run_load1 Try.isAgg3 (at449.now hw'.sl) rfl))) ?_
              obtain ⟨p453, cs454, pt455, l456, at457, rel458, hall461⟩ := S452.row_atA (i := 0) rfl els416 (by decide) hx460
              obtain ⟨v462, rfl, h463⟩ := eL_open rel458
              refine FB.t (i := 10) (bs 26 2047) rfl (SP.nil ⟨_, (S452.sel [2] (by decide) rfl), (Inc.rfl _)⟩) rfl (fun w' hw' => (E.indexAddr te54 rfl rfl pt455)) ?_
              refine FB.phase [25] (fun w' => WAt w' p453 [v462]) ?_
              refine FB.p (i := 11) (bs 26 4095) 0 [23, 24, 25] rfl (SP.on (hall461 _ _ _ 0 S452 rfl) (SP.nil ⟨_, (S452.sel [2] (by decide) rfl), (Inc.rfl _)⟩)) rfl rfl (fun w' hw' => (E.load rfl (run_load0 Try.isAgg48 hw' rfl))) ?_
              refine FB.t (i := 12) (bs 26 8191) rfl (SP.on (hall461 _ _ _ 0 S452 rfl) (SP.nil ⟨_, (S452.sel [2] (by decide) rfl), (Inc.rfl _)⟩)) rfl (fun w' hw' => (E.move k424)) ?_
              refine FB.t (i := 13) (bs 26 16383) rfl (SP.on (hall461 _ _ _ 0 S452 rfl) (SP.nil ⟨_, (S452.sel [2] (by decide) rfl), (Inc.rfl _)⟩)) rfl (fun w' hw' => (E.nilCheck rfl)) ?_
              refine FB.t (i := 14) (bs 26 32767) rfl (SP.on (hall461 _ _ _ 0 S452 rfl) (SP.nil ⟨_, (S452.sel [2] (by decide) rfl), (Inc.rfl _)⟩)) rfl (fun w' hw' => (E.fieldAddr tf56_0 rfl)) ?_
              refine FB.t (i := 15) (bs 26 65535) rfl (SP.on (hall461 _ _ _ 0 S452 rfl) (SP.nil ⟨_, (S452.sel [2] (by decide) rfl), (Inc.rfl _)⟩)) rfl (fun w' hw' => (E.load rfl (run_loadA Try.isAgg53 Try.sizeOf53 (((at65.mono (((((((i43.tr r71.run.inc).tr r96.run.inc).tr i39).tr i330).tr i404).tr i420).tr i448)).now hw'.sl).sub (j := 0) (n := 2) (c := [Value.int .i64 y55.ring.p, Value.int .i64 y55.ring.vars]) rfl) rfl))) ?_
              refine FB.t (i := 16) (bs 26 131071) rfl (SP.on (hall461 _ _ _ 0 S452 rfl) (SP.nil ⟨_, (S452.sel [2] (by decide) rfl), (Inc.rfl _)⟩)) rfl (fun w' hw' => (E.fieldAddr tf60_1 rfl)) ?_
              refine FB.t (i := 17) (bs 26 262143) rfl (SP.on (hall461 _ _ _ 0 S452 rfl) (SP.nil ⟨_, (S452.sel [2] (by decide) rfl), (Inc.rfl _)⟩)) rfl (fun w' hw' => (E.load rfl (run_load1 Try.isAgg3 (at449.now hw'.sl) rfl))) ?_
              refine FB.t (i := 19) (bs 26 786431) rfl (SP.on (hall461 _ _ _ 0 S452 rfl) (SP.nil ⟨_, (S452.sel [2] (by decide) rfl), (Inc.rfl _)⟩)) rfl (fun w' hw' => (E.move k425)) ?_
              refine FB.t (i := 20) (bs 26 1835007) rfl (SP.on (hall461 _ _ _ 0 S452 rfl) (SP.nil ⟨_, (S452.sel [2] (by decide) rfl), (Inc.rfl _)⟩)) rfl (fun w' hw' => (E.move (v := Value.int .i64 ((i412 : Nat) : Int)) rfl)) ?_
              obtain ⟨p474, cs475, pt476, l477, at478, rel479, hall482⟩ := S452.row_atA (i := 2) rfl els106 (by decide) hx481
              obtain rfl := eI_open rel479
              refine FB.t (i := 21) (bs 26 3932159) rfl (SP.on (hall461 _ _ _ 0 S452 rfl) (SP.nil ⟨_, (S452.sel [2] (by decide) rfl), (Inc.rfl _)⟩)) rfl (fun w' hw' => (E.indexAddr te48 rfl rfl pt476)) ?_
              refine FB.t (i := 22) (bs 26 8126463) rfl (SP.on (hall461 _ _ _ 0 S452 rfl) (SP.nil ⟨_, (S452.sel [2] (by decide) rfl), (Inc.rfl _)⟩)) rfl (fun w' hw' => (E.load rfl (run_load0 Try.isAgg3 (hw'.use fun _ st => hall482 _ _ _ 0 st rfl) rfl))) ?_
              refine FB.all1 (i := 18) (by kernel_rfl) ?_
              ·
                refine FC.call (l' := (bs 26 8388607)) rfl (by kernel_rfl) rfl rfl rfl (E.call Try.call22 (A2 rfl rfl)) (w_impl_ring_mono S452.sl y55.ring x435.mono hr465) ?_
                rintro e w467 ⟨H466, v470, n471, cs472, rfl, r469, els473⟩
                refine ⟨_, rfl, ?_⟩
                have els473 := els473.mono (up_le S452.size)
                have S468 := S452.join (l' := [.row 3 1 v470 n471 cs472, .row 48 1 v413 n414 cs415, .row 60 3 v72 n73 cs74, .row 3 1 v103 n104 cs105]) r469 rfl
                refine ⟨(SP.on (hall461 _ _ _ 1 S468 rfl) (SP.nil ⟨_, (S468.sel [3] (by decide) rfl), r469.run.inc⟩)), ?_⟩
                refine FB.all1 (i := 23) (by kernel_rfl) ?_
                ·
                  obtain ⟨H483, S484, i485, h486, nv487⟩ := S468.sealRowU (i := 0) (l' := [.row 48 1 v413 n414 cs415, .row 60 3 v72 n73 cs74, .row 3 1 v103 n104 cs105]) rfl els473 (by decide) rfl
                  refine FC.call (l' := (bs 26 16777215)) rfl (by kernel_rfl) rfl rfl rfl (E.call Try.call25 (A4 rfl rfl rfl rfl)) (w_impl_ring_plus S484.sl y55.ring v462 x459 (h463.mono (upI.tr ((i448.tr r469.run.inc).tr i485))) v470 r464 (h486.mono upI) x480 hr489) ?_
                  rintro e w491 ⟨H490, v496, n497, cs498, rfl, r493, els499⟩
                  refine ⟨_, rfl, ?_⟩
                  obtain ⟨H494, r493, hU495⟩ := St.lendX i485 S468.sl r493
                  have els499 := els499.mono (hU495.tr (up_le S468.size))
                  have S492 := S468.join (l' := [.row 3 1 v496 n497 cs498, .row 3 1 v470 n471 cs472, .row 48 1 v413 n414 cs415, .row 60 3 v72 n73 cs74, .row 3 1 v103 n104 cs105]) r493 rfl
                  refine ⟨(SP.on (hall461 _ _ _ 2 S492 rfl) (SP.nil ⟨_, (S492.sel [4] (by decide) rfl), (r469.run.inc.tr r493.run.inc)⟩)), ?_⟩
                  obtain ⟨p500, cs501, pt502, l503, at504, rel505, hall508⟩ := S492.row_atA (i := 2) rfl els416 (by decide) hx507
                  obtain ⟨v509, rfl, h510⟩ := eL_open rel505
                  refine FB.t (i := 24) (bs 26 33554431) rfl (SP.on (hall461 _ _ _ 2 S492 rfl) (SP.nil ⟨_, (S492.sel [4] (by decide) rfl), (r469.run.inc.tr r493.run.inc)⟩)) rfl (fun w' hw' => (E.indexAddr te54 rfl rfl pt502)) ?_
                  refine FB.all1 (i := 25) (by kernel_rfl) ?_
                  ·
                    obtain ⟨H511, S512, i513, h514, nv515⟩ := S492.sealRowU (i := 0) (l' := [.row 3 1 v470 n471 cs472, .row 48 1 v413 n414 cs415, .row 60 3 v72 n73 cs74, .row 3 1 v103 n104 cs105]) rfl els499 (by decide) rfl
                    obtain ⟨w516, cs522, run517, S518, els521, ce523⟩ := S512.putEls (P := Try.prog) (t := 48) (i := 1) rfl (els416.mono (up_mono (((i448.tr r469.run.inc).tr r493.run.inc).tr i513))) hput520 pt502 Try.sizeOf48 (u := v496) (c := [v496]) h514.cells rfl (ones_cons h514.one ones_nil) ⟨_, rfl, h514⟩
                    have S518 : St Ha wa H511 w516 [.row 3 1 v470 n471 cs472, .row 48 1 v413 n414 cs522, .row 60 3 v72 n73 cs74, .row 3 1 v103 n104 cs105] := S518
                    have nd524 : (bl cs522).Nodup := by rw [ce523]; exact nd_put (Nat.le_add_right _ _) nd417 (by exact nd_one v496) (Els.dom (els416.mono (upI.tr ((i448.tr r469.run.inc).tr r493.run.inc)))) (by exact nv515)
                    refine FC.act (l' := (bs 26 67108863)) rfl (by kernel_rfl) rfl rfl (E.store rfl rfl run517) ?_
                    refine ⟨(SP.o (SP.nil ⟨_, (S518.sel [3] (by decide) rfl), ((r469.run.inc.tr r493.run.inc).tr i513)⟩)), ?_⟩
                    exact FB.done (by kernel_rfl) ⟨_, _, _, _, (S518.sel [1, 2, 3] (by decide) rfl), ((r469.run.inc.tr r493.run.inc).tr i513), els521, nd524, k424, k425, k426, k427, k428, k423⟩
            ·
              rintro f534 w533 ⟨H530, v525, n526, cs527, S531, i532, els528, nd529, k535, k536, k537, k538, k539, k540⟩
              refine FW.region ?_
              refine FL.v (E.add k540 rfl) ?_
              refine FL.v (E.move (v := Value.int .i64 (wr (((i412 : Nat) : Int) + 1))) rfl) ?_
              refine FL.nil ?_
              obtain rfl := Option.some.inj hp
              exact ⟨rfl, ⟨_, _, _, _, S531, ((i420.tr i448).tr i532), els528, nd529, (nat_succ rfl hj412 (chk_le hchk412)), k535, k536, k537, k538, k539⟩⟩
          ·
            clear hp hq
            rintro s412 f627 w626 ⟨H623, v413, n414, cs415, S624, i625, els416, nd417, k628, k629, k630, k631, k632, k633⟩
            refine FW.seq (FW.region ?_)
            refine FL.v (E.lss k628 k633) ?_
            refine FL.nil (FW.seq ?_)
            refine FW.condF rfl (dlt_maxchk hchk412) ?_
            refine FW.exit ?_
            exact ⟨nofun, rfl, ⟨_, _, _, _, S624, i625, els416, nd417, k631⟩⟩
          ·
            clear hq
            intro e f546 w545 hD
            rcases q412 with s412 | x412
            ·
              obtain ⟨rfl, hD⟩ := hD
              obtain ⟨H542, v413, n414, cs415, S543, i544, els416, nd417, k547⟩ := hD
              replace hp := el_go hp
              refine FW.seq (FW.region ?_)
              refine FL.v (E.assign (v := Value.slice none 0 0) rfl) ?_
              refine FL.nil (FW.seq (FW.seq (FW.region ?_)))
              refine FL.v (E.move k547) ?_
              refine FL.v (E.lenO te54 rfl S543 (i := 0) rfl els416 (by decide)) ?_
              refine FL.v (E.move (v := Value.int .i64 0) rfl) ?_
              refine FL.nil ?_
              obtain ⟨m548, hchk549, hp⟩ := bnd hp
              obtain ⟨q549, hq, hp⟩ := bndR hp
              refine FW.block ?_
              refine FW.mono (FW.forR (S := (List (List Term))) (X := Empty) (fun (i549 : Nat) (s549 : (List (List Term))) f w => ∃ H : GH, ∃ v550 : Value, ∃ n551 : Nat, ∃ cs552 : List Value, St Ha wa H w [.row 48 1 v413 n414 cs415, .row 62 1 v550 n551 cs552] ∧ Inc H542 H ∧ Els (up wa.heap.size H) (eL eTerm 2) 1 cs552 s549 ∧ (bl cs552).Nodup ∧ f 106 = Value.int .i64 ((i549 : Nat) : Int) ∧ f 18 = v550 ∧ f 104 = v413 ∧ f 105 = Value.int .i64 (len s412)) (fun (q : Rs (List (List Term)) Empty) e f w => match q with | .go s549 => e = Exit.exit 4 ∧ (∃ H : GH, ∃ v550 : Value, ∃ n551 : Nat, ∃ cs552 : List Value, St Ha wa H w [.row 48 1 v413 n414 cs415, .row 62 1 v550 n551 cs552] ∧ Inc H542 H ∧ Els (up wa.heap.size H) (eL eTerm 2) 1 cs552 s549 ∧ (bl cs552).Nodup ∧ f 18 = v550) | .rt x => x.elim) hq ⟨_, _, _, _, ((S543.nil 62 1).sel [1, 0] (by decide) rfl), (Inc.rfl _), Els.nil, List.nodup_nil, rfl, rfl, rfl, rfl⟩ ?_ ?_) ?_
              ·
                clear hp hq
                rintro i549 s549 f559 w558 ⟨H555, v550, n551, cs552, S556, i557, els553, nd554, k560, k561, k562, k563⟩ hi549 hj549 o607 hp
                refine FW.seq (FW.region ?_)
                refine FL.v (E.lssT k560 k563 (lss_chk hj549 hchk549)) ?_
                refine FL.nil (FW.seq ?_)
                refine FW.condT rfl rfl ?_
                refine FW.skip (FW.seq (FW.block (FW.seq (FW.region ?_))))
                obtain ⟨x570, hx571, hp⟩ := bnd hp
                obtain ⟨p564, cs565, pt566, l567, at568, rel569⟩ := S556.row_at (i := 0) rfl els416 (by decide) hx571
                obtain ⟨v572, rfl, h573⟩ := eL_open rel569
                refine FL.v (E.indexAddr te54 k562 k560 pt566) ?_
                refine FL.v (E.load rfl (run_load0 Try.isAgg48 at568 rfl)) ?_
                refine FL.v (E.assign (v := v572) rfl) ?_
                refine FL.nil (FW.region ?_)
                refine FL.v (E.move k561) ?_
                refine FL.v (E.move (v := v572) rfl) ?_
                obtain ⟨r574, hr575, hp⟩ := bnd hp
                refine FL.call rfl rfl rfl (E.call Try.call26 (A1 rfl)) (w_impl_dense_terms S556.sl v572 x570 (h573.mono (upI.tr i557)) hr575) ?_
                rintro e w577 ⟨H576, v580, n581, cs582, rfl, r579, els583⟩
                refine ⟨_, rfl, ?_⟩
                have els583 := els583.mono (up_le S556.size)
                have S578 := S556.join (l' := [.row 94 2 v580 n581 cs582, .row 48 1 v413 n414 cs415, .row 62 1 v550 n551 cs552]) r579 rfl
                obtain ⟨H584, S585, i586, h587, nv588⟩ := S578.sealRowU (i := 0) (l' := [.row 48 1 v413 n414 cs415, .row 62 1 v550 n551 cs552]) rfl els583 (by decide) rfl
                obtain ⟨v589, w590, run591, S592⟩ := S585.buildSlice (P := Try.prog) te26 [v580] (parts := #[(0, v580)]) (cells := [v580]) rfl (szs_cons (cells_size h587.cells) szs_nil) (fc_cons h587.cells fc_nil) (ones_cons h587.one ones_nil) (Nat.le_of_ble_eq_true rfl)
                have els593 : Els (up wa.heap.size H584) (eL eTerm 2) 1 [v580] [r574] := (Els.snoc (H := (up wa.heap.size H584)) (E := (eL eTerm 2)) (k := 1) (c := [v580]) (x := r574) Els.nil rfl ⟨_, rfl, h587⟩)
                have nd594 : (bl [v580]).Nodup := by exact nd_one v580
                refine FL.v (E.buildSlice (B1 rfl) run591) ?_
                obtain ⟨xs595, hz596, hp⟩ := bnd hp
                obtain ⟨v597, w600, n598, cs599, run601, S602, els603, ce604⟩ := S592.appendO (P := Try.prog) te26 (i := 2) (j := 0) rfl (els553.mono (up_mono (r579.run.inc.tr i586))) rfl els593 hz596
                have S602 : St Ha wa H584 w600 [.row 62 1 v589 1 [v580], .row 48 1 v413 n414 cs415, .row 62 1 v597 n598 cs599] := S602
                have nd605 : (bl cs599).Nodup := by rw [ce604]; exact nd_app nd554 nd594 (Els.dom (els553.mono (upI.tr r579.run.inc))) (by exact nv588)
                have S606 : St Ha wa H584 w600 [.row 48 1 v413 n414 cs415, .row 62 1 v597 n598 cs599] := S602.drop 0
                refine FL.v (E.append rfl rfl run601) ?_
                refine FL.v (E.assign (v := v597) rfl) ?_
                refine FL.nil (FW.region ?_)
                refine FL.v (E.add k560 rfl) ?_
                refine FL.v (E.move (v := Value.int .i64 (wr (((i549 : Nat) : Int) + 1))) rfl) ?_
                refine FL.nil ?_
                obtain rfl := Option.some.inj hp
                exact ⟨rfl, ⟨_, _, _, _, S606, ((i557.tr r579.run.inc).tr i586), els603, nd605, (nat_succ rfl hj549 (chk_le hchk549)), rfl, k562, k563⟩⟩
              ·
                clear hp hq
                rintro s549 f618 w617 ⟨H614, v550, n551, cs552, S615, i616, els553, nd554, k619, k620, k621, k622⟩
                refine FW.seq (FW.region ?_)
                refine FL.v (E.lss k619 k622) ?_
                refine FL.nil (FW.seq ?_)
                refine FW.condF rfl (dlt_maxchk hchk549) ?_
                refine FW.exit ?_
                exact ⟨nofun, rfl, ⟨_, _, _, _, S615, i616, els553, nd554, k620⟩⟩
              ·
                clear hq
                intro e f612 w611 hD
                rcases q549 with s549 | x549
                ·
                  obtain ⟨rfl, hD⟩ := hD
                  obtain ⟨H608, v550, n551, cs552, S609, i610, els553, nd554, k613⟩ := hD
                  replace hp := el_go hp
                  refine FW.seq (FW.region ?_)
                  refine FL.v (E.move k613) ?_
                  refine FL.v (E.assign (v := v550) rfl) ?_
                  refine FL.v (E.assign (v := Value.bool true) rfl) ?_
                  refine FL.nil ?_
                  refine FW.ret ?_
                  obtain rfl := Option.some.inj hp
                  exact ⟨.inr rfl, res2 rfl rfl rfl ⟨_, _, _, _, rfl, (S609.sel [1] (by decide) rfl), els553, nd554⟩⟩
                · exact x549.elim
            · exact x412.elim
        · exact x350.elim

theorem w_laws_eqTerm {Ha : GH} {wa : World} (hs : Sl Ha wa) (a0 : Term) (a1 : Term) :
  Calls Try.prog 51 #[Value.agg #[Value.int .i64 a0.mono, Value.int .i64 a0.coeff], Value.agg #[Value.int .i64 a1.mono, Value.int .i64 a1.coeff]] wa (Sc Ha wa (Value.bool (PF.laws_eqTerm a0 a1))) := by
 obtain ⟨r, hp⟩ : ∃ r, (PF.laws_eqTerm a0 a1) = r := ⟨_, rfl⟩
 rw [hp]
 unfold PF.laws_eqTerm at hp
 have S0 := St.init hs
 refine calls_go (N := 15) (args := [Value.agg #[Value.int .i64 a0.mono, Value.int .i64 a0.coeff], Value.agg #[Value.int .i64 a1.mono, Value.int .i64 a1.coeff]]) Try.func51 rfl rfl rfl ?_
 refine FW.seq (FW.region ?_)
 obtain ⟨b21, w22, run23, S24⟩ := S0.box (P := Try.prog) 94 [Value.int .i64 a0.mono, Value.int .i64 a0.coeff] (v := Value.agg #[Value.int .i64 a0.mono, Value.int .i64 a0.coeff]) rfl (ones_cons rfl (ones_cons rfl ones_nil))
 refine FL.v (E.box rfl run23) ?_
 obtain ⟨H25, S26, i27, at28⟩ := S24.sealBox (i := 0) (l' := []) rfl rfl
 obtain ⟨b29, w30, run31, S32⟩ := S26.box (P := Try.prog) 94 [Value.int .i64 a1.mono, Value.int .i64 a1.coeff] (v := Value.agg #[Value.int .i64 a1.mono, Value.int .i64 a1.coeff]) rfl (ones_cons rfl (ones_cons rfl ones_nil))
 refine FL.v (E.box rfl run31) ?_
 obtain ⟨H33, S34, i35, at36⟩ := S32.sealBox (i := 0) (l' := []) rfl rfl
 refine FL.v (E.assign (v := Value.bool false) rfl) ?_
 refine FL.nil (FW.seq (FW.seq (FW.region ?_)))
 refine FL.v (E.fieldAddr tf94_0 rfl) ?_
 refine FL.v (E.load rfl (run_load1 Try.isAgg3 ((at28.mono i35).now S34.sl) rfl)) ?_
 refine FL.v (E.fieldAddr tf94_0 rfl) ?_
 refine FL.v (E.load rfl (run_load1 Try.isAgg3 (at36.now S34.sl) rfl)) ?_
 refine FL.v (E.neq rfl rfl) ?_
 refine FL.nil ?_
 rcases ifT hp with ⟨c37, hp⟩ | ⟨c37, hp⟩
 ·
  refine FW.condT rfl c37 ?_
  refine FW.seq (FW.region ?_)
  refine FL.v (E.assign (v := Value.bool false) rfl) ?_
  refine FL.nil ?_
  refine FW.ret ?_
  obtain rfl := hp
  exact ⟨.inr rfl, res1 rfl rfl ⟨rfl, S34.back⟩⟩
 ·
  refine FW.condF rfl c37 ?_
  refine FW.skip (FW.seq (FW.seq (FW.region ?_)))
  refine FL.v (E.fieldAddr tf94_1 rfl) ?_
  refine FL.v (E.load rfl (run_load1 Try.isAgg3 ((at28.mono i35).now S34.sl) rfl)) ?_
  refine FL.v (E.fieldAddr tf94_1 rfl) ?_
  refine FL.v (E.load rfl (run_load1 Try.isAgg3 (at36.now S34.sl) rfl)) ?_
  refine FL.v (E.neq rfl rfl) ?_
  refine FL.nil ?_
  rcases ifT hp with ⟨c38, hp⟩ | ⟨c38, hp⟩
  ·
   refine FW.condT rfl c38 ?_
   refine FW.seq (FW.region ?_)
   refine FL.v (E.assign (v := Value.bool false) rfl) ?_
   refine FL.nil ?_
   refine FW.ret ?_
   obtain rfl := hp
   exact ⟨.inr rfl, res1 rfl rfl ⟨rfl, S34.back⟩⟩
  ·
   refine FW.condF rfl c38 ?_
   refine FW.skip (FW.seq (FW.region ?_))
   refine FL.v (E.assign (v := Value.bool true) rfl) ?_
   refine FL.nil ?_
   refine FW.ret ?_
   obtain rfl := hp
   exact ⟨.inr rfl, res1 rfl rfl ⟨rfl, S34.back⟩⟩

theorem w_laws_eqTermS {Ha : GH} {wa : World} (hs : Sl Ha wa) (v0 : Value) (a0 : List Term) (p0 : RSl Ha eTerm 2 v0 a0) (v1 : Value) (a1 : List Term) (p1 : RSl Ha eTerm 2 v1 a1) {r : Bool} (hp : (PF.laws_eqTermS a0 a1) = some r) :
  Calls Try.prog 27 #[v0, v1] wa (Sc Ha wa (Value.bool r)) := by
 unfold PF.laws_eqTermS at hp
 have S0 := St.init hs
 refine calls_go (N := 27) (args := [v0, v1]) Try.func27 rfl rfl rfl ?_
 refine FW.seq (FW.region ?_)
 refine FL.v (E.assign (v := Value.bool false) rfl) ?_
 refine FL.nil (FW.seq (FW.seq (FW.region ?_)))
 refine FL.v (E.move (v := v0) rfl) ?_
 refine FL.v (E.lenP te62 rfl p0) ?_
 refine FL.v (E.move (v := v1) rfl) ?_
 refine FL.v (E.lenP te62 rfl p1) ?_
 refine FL.v (E.neq rfl rfl) ?_
 refine FL.nil ?_
 rcases ifB hp with ⟨c21, hp⟩ | ⟨c21, hp⟩
 ·
  refine FW.condT rfl c21 ?_
  refine FW.seq (FW.region ?_)
  refine FL.v (E.assign (v := Value.bool false) rfl) ?_
  refine FL.nil ?_
  refine FW.ret ?_
  obtain rfl := Option.some.inj hp
  exact ⟨.inr rfl, res1 rfl rfl ⟨rfl, S0.back⟩⟩
 ·
  refine FW.condF rfl c21 ?_
  refine FW.skip (FW.seq (FW.seq (FW.region ?_)))
  refine FL.v (E.assign (v := Value.int .i64 0) rfl) ?_
  refine FL.nil ?_
  obtain ⟨q23, hq, hp⟩ := bndR hp
  refine FW.block ?_
  refine FW.mono (FW.forL (S := Unit) (X := Bool) (fun (i23 : Nat) (s23 : Unit) f w => ∃ H : GH, St Ha wa H w [] ∧ Inc Ha H ∧ f 5 = Value.int .i64 ((i23 : Nat) : Int) ∧ f 0 = v0 ∧ f 1 = v1) (fun q e f w => match q with | .go s23 => e = Exit.exit 0 ∧ (∃ H : GH, St Ha wa H w [] ∧ Inc Ha H) | .rt x => ((e = Exit.ret) ∧ (fun e f w => (e = Exit.normal ∨ e = Exit.ret) ∧ ∀ a, Fr (δ := []) 27 a f → ∃ v, (results Try.f27 a.tmps).run Try.prog w = .ok v w ∧ (Sc Ha wa (Value.bool x)) (.returned v) w) e f w)) hq ⟨_, S0, (Inc.rfl _), rfl, rfl, rfl⟩ ?_ ?_) ?_
  ·
   clear hp hq
   rintro i23 y22 s23 f55 w54 ⟨H51, S52, i53, k56, k57, k58⟩ hx23 o78 hp
   refine FW.seq (FW.seq (FW.region ?_))
   refine FL.v (E.move k56) ?_
   refine FL.v (E.move k57) ?_
   refine FL.v (E.lenP te62 rfl p0) ?_
   refine FL.v (E.lssT rfl rfl (lss_len hx23)) ?_
   refine FL.nil ?_
   refine FW.condT rfl rfl ?_
   refine FW.skip (FW.seq (FW.block (FW.seq ?_)))
   refine FW.draw (fun w' => Run w54.heap.size H51 w54 H51 w') (by kernel_rfl) (by kernel_rfl) (run_drew S52.sl) ?_
   refine FD.val rfl rfl rfl (fun w' hw' => (E.move k57)) ?_
   refine FD.val rfl rfl rfl (fun w' hw' => (E.move k56)) ?_
   obtain ⟨p60, cs61, pt62, l63, at64, rel65⟩ := p0.at (ix_nat hx23)
   obtain rfl := eTerm_open rel65
   refine FD.val rfl rfl rfl (fun w' hw' => (E.indexAddr te62 rfl rfl pt62)) ?_
   refine FD.val rfl rfl rfl (fun w' hw' => (E.load rfl (run_loadA Try.isAgg94 Try.sizeOf94 ((at64.mono i53).now (S52.call hw').sl) rfl))) ?_
   refine FD.val rfl rfl rfl (fun w' hw' => (E.move k58)) ?_
   refine FD.val rfl rfl rfl (fun w' hw' => (E.move k56)) ?_
   obtain ⟨x72, hx73, hp⟩ := bnd hp
   obtain ⟨p66, cs67, pt68, l69, at70, rel71⟩ := p1.at hx73
   obtain rfl := eTerm_open rel71
   refine FD.val rfl rfl rfl (fun w' hw' => (E.indexAddr te62 rfl rfl pt68)) ?_
   refine FD.val rfl rfl rfl (fun w' hw' => (E.load rfl (run_loadA Try.isAgg94 Try.sizeOf94 ((at70.mono i53).now (S52.call hw').sl) rfl))) ?_
   refine FD.call rfl rfl rfl (fun w' hw' => (E.call Try.call51 (A2 rfl rfl))) (fun w' hw' => Calls.cls hw' (w_laws_eqTerm (S52.call hw').sl y22 x72)) ?_
   refine FD.val rfl rfl rfl (fun w' hw' => (E.not rfl)) ?_
   refine FD.nil ?_
   intro w74 r76
   have S75 := S52.call r76
   rcases ifB hp with ⟨c77, hp⟩ | ⟨c77, hp⟩
   ·
    refine FW.condT rfl c77 ?_
    refine FW.seq (FW.region ?_)
    refine FL.v (E.assign (v := Value.bool false) rfl) ?_
    refine FL.nil ?_
    refine FW.ret ?_
    obtain rfl := Option.some.inj hp
    exact ⟨nofun, rfl, ⟨.inr rfl, res1 rfl rfl ⟨rfl, S75.back⟩⟩⟩
   ·
    refine FW.condF rfl c77 ?_
    refine FW.skip (FW.region ?_)
    refine FL.v (E.move k56) ?_
    refine FL.v (E.add rfl rfl) ?_
    refine FL.v (E.assign (v := Value.int .i64 (wr (((i23 : Nat) : Int) + 1))) rfl) ?_
    refine FL.nil ?_
    obtain rfl := Option.some.inj hp
    exact ⟨rfl, ⟨_, S75, i53, (nat_succ rfl (lt_of_get hx23) (p0.mono i53).le), k57, k58⟩⟩
  ·
   clear hp hq
   rintro s23 f88 w87 ⟨H84, S85, i86, k89, k90, k91⟩
   refine FW.seq (FW.seq (FW.region ?_))
   refine FL.v (E.move k89) ?_
   refine FL.v (E.move k90) ?_
   refine FL.v (E.lenP te62 rfl p0) ?_
   refine FL.v (E.lss rfl rfl) ?_
   refine FL.nil ?_
   refine FW.condF rfl dlt_len ?_
   refine FW.exit ?_
   exact ⟨nofun, rfl, ⟨_, S85, i86⟩⟩
  ·
   clear hq
   intro e f83 w82 hD
   rcases q23 with s23 | x23
   ·
    obtain ⟨rfl, hD⟩ := hD
    obtain ⟨H79, S80, i81⟩ := hD
    replace hp := el_go hp
    refine FW.seq (FW.region ?_)
    refine FL.v (E.assign (v := Value.bool true) rfl) ?_
    refine FL.nil ?_
    refine FW.ret ?_
    obtain rfl := Option.some.inj hp
    exact ⟨.inr rfl, res1 rfl rfl ⟨rfl, S80.back⟩⟩
   ·
    obtain ⟨he, hL⟩ := hD
    replace hp := el_rt hp
    obtain rfl := Option.some.inj hp
    subst he
    exact hL

theorem w_laws_eqTermSS {Ha : GH} {wa : World} (hs : Sl Ha wa) (v0 : Value) (a0 : List (List Term)) (p0 : RSl Ha (eL eTerm 2) 1 v0 a0) (v1 : Value) (a1 : List (List Term)) (p1 : RSl Ha (eL eTerm 2) 1 v1 a1) {r : Bool} (hp : (PF.laws_eqTermSS a0 a1) = some r) :
  Calls Try.prog 8 #[v0, v1] wa (Sc Ha wa (Value.bool r)) := by
 unfold PF.laws_eqTermSS at hp
 have S0 := St.init hs
 refine calls_go (N := 27) (args := [v0, v1]) Try.func8 rfl rfl rfl ?_
 refine FW.seq (FW.region ?_)
 refine FL.v (E.assign (v := Value.bool false) rfl) ?_
 refine FL.nil (FW.seq (FW.seq (FW.region ?_)))
 refine FL.v (E.move (v := v0) rfl) ?_
 refine FL.v (E.lenP te26 rfl p0) ?_
 refine FL.v (E.move (v := v1) rfl) ?_
 refine FL.v (E.lenP te26 rfl p1) ?_
 refine FL.v (E.neq rfl rfl) ?_
 refine FL.nil ?_
 rcases ifB hp with ⟨c21, hp⟩ | ⟨c21, hp⟩
 ·
  refine FW.condT rfl c21 ?_
  refine FW.seq (FW.region ?_)
  refine FL.v (E.assign (v := Value.bool false) rfl) ?_
  refine FL.nil ?_
  refine FW.ret ?_
  obtain rfl := Option.some.inj hp
  exact ⟨.inr rfl, res1 rfl rfl ⟨rfl, S0.back⟩⟩
 ·
  refine FW.condF rfl c21 ?_
  refine FW.skip (FW.seq (FW.seq (FW.region ?_)))
  refine FL.v (E.assign (v := Value.int .i64 0) rfl) ?_
  refine FL.nil ?_
  obtain ⟨q23, hq, hp⟩ := bndR hp
  refine FW.block ?_
  refine FW.mono (FW.forL (S := Unit) (X := Bool) (fun (i23 : Nat) (s23 : Unit) f w => ∃ H : GH, St Ha wa H w [] ∧ Inc Ha H ∧ f 5 = Value.int .i64 ((i23 : Nat) : Int) ∧ f 0 = v0 ∧ f 1 = v1) (fun q e f w => match q with | .go s23 => e = Exit.exit 0 ∧ (∃ H : GH, St Ha wa H w [] ∧ Inc Ha H) | .rt x => ((e = Exit.ret) ∧ (fun e f w => (e = Exit.normal ∨ e = Exit.ret) ∧ ∀ a, Fr (δ := []) 27 a f → ∃ v, (results Try.f8 a.tmps).run Try.prog w = .ok v w ∧ (Sc Ha wa (Value.bool x)) (.returned v) w) e f w)) hq ⟨_, S0, (Inc.rfl _), rfl, rfl, rfl⟩ ?_ ?_) ?_
  ·
   clear hp hq
   rintro i23 y22 s23 f61 w60 ⟨H57, S58, i59, k62, k63, k64⟩ hx23 o90 hp
   refine FW.seq (FW.seq (FW.region ?_))
   refine FL.v (E.move k62) ?_
   refine FL.v (E.move k63) ?_
   refine FL.v (E.lenP te26 rfl p0) ?_
   refine FL.v (E.lssT rfl rfl (lss_len hx23)) ?_
   refine FL.nil ?_
   refine FW.condT rfl rfl ?_
   refine FW.skip (FW.seq (FW.block (FW.seq ?_)))
   refine FW.draw (fun w' => Run w60.heap.size H57 w60 H57 w') (by kernel_rfl) (by kernel_rfl) (run_drew S58.sl) ?_
   refine FD.val rfl rfl rfl (fun w' hw' => (E.move k63)) ?_
   refine FD.val rfl rfl rfl (fun w' hw' => (E.move k62)) ?_
   obtain ⟨p66, cs67, pt68, l69, at70, rel71⟩ := p0.at (ix_nat hx23)
   obtain ⟨v72, rfl, h73⟩ := eL_open rel71
   refine FD.val rfl rfl rfl (fun w' hw' => (E.indexAddr te26 rfl rfl pt68)) ?_
   refine FD.val rfl rfl rfl (fun w' hw' => (E.load rfl (run_load0 Try.isAgg62 ((at70.mono i59).now (S58.call hw').sl) rfl))) ?_
   refine FD.val rfl rfl rfl (fun w' hw' => (E.move k64)) ?_
   refine FD.val rfl rfl rfl (fun w' hw' => (E.move k62)) ?_
   obtain ⟨x80, hx81, hp⟩ := bnd hp
   obtain ⟨p74, cs75, pt76, l77, at78, rel79⟩ := p1.at hx81
   obtain ⟨v82, rfl, h83⟩ := eL_open rel79
   refine FD.val rfl rfl rfl (fun w' hw' => (E.indexAddr te26 rfl rfl pt76)) ?_
   refine FD.val rfl rfl rfl (fun w' hw' => (E.load rfl (run_load0 Try.isAgg62 ((at78.mono i59).now (S58.call hw').sl) rfl))) ?_
   obtain ⟨r84, hr85, hp⟩ := bnd hp
   refine FD.call rfl rfl rfl (fun w' hw' => (E.call Try.call27 (A2 rfl rfl))) (fun w' hw' => Calls.cls hw' (w_laws_eqTermS (S58.call hw').sl v72 y22 (h73.mono i59) v82 x80 (h83.mono i59) hr85)) ?_
   refine FD.val rfl rfl rfl (fun w' hw' => (E.not rfl)) ?_
   refine FD.nil ?_
   intro w86 r88
   have S87 := S58.call r88
   rcases ifB hp with ⟨c89, hp⟩ | ⟨c89, hp⟩
   ·
    refine FW.condT rfl c89 ?_
    refine FW.seq (FW.region ?_)
    refine FL.v (E.assign (v := Value.bool false) rfl) ?_
    refine FL.nil ?_
    refine FW.ret ?_
    obtain rfl := Option.some.inj hp
    exact ⟨nofun, rfl, ⟨.inr rfl, res1 rfl rfl ⟨rfl, S87.back⟩⟩⟩
   ·
    refine FW.condF rfl c89 ?_
    refine FW.skip (FW.region ?_)
    refine FL.v (E.move k62) ?_
    refine FL.v (E.add rfl rfl) ?_
    refine FL.v (E.assign (v := Value.int .i64 (wr (((i23 : Nat) : Int) + 1))) rfl) ?_
    refine FL.nil ?_
    obtain rfl := Option.some.inj hp
    exact ⟨rfl, ⟨_, S87, i59, (nat_succ rfl (lt_of_get hx23) (p0.mono i59).le), k63, k64⟩⟩
  ·
   clear hp hq
   rintro s23 f100 w99 ⟨H96, S97, i98, k101, k102, k103⟩
   refine FW.seq (FW.seq (FW.region ?_))
   refine FL.v (E.move k101) ?_
   refine FL.v (E.move k102) ?_
   refine FL.v (E.lenP te26 rfl p0) ?_
   refine FL.v (E.lss rfl rfl) ?_
   refine FL.nil ?_
   refine FW.condF rfl dlt_len ?_
   refine FW.exit ?_
   exact ⟨nofun, rfl, ⟨_, S97, i98⟩⟩
  ·
   clear hq
   intro e f95 w94 hD
   rcases q23 with s23 | x23
   ·
    obtain ⟨rfl, hD⟩ := hD
    obtain ⟨H91, S92, i93⟩ := hD
    replace hp := el_go hp
    refine FW.seq (FW.region ?_)
    refine FL.v (E.assign (v := Value.bool true) rfl) ?_
    refine FL.nil ?_
    refine FW.ret ?_
    obtain rfl := Option.some.inj hp
    exact ⟨.inr rfl, res1 rfl rfl ⟨rfl, S92.back⟩⟩
   ·
    obtain ⟨he, hL⟩ := hD
    replace hp := el_rt hp
    obtain rfl := Option.some.inj hp
    subst he
    exact hL

theorem w_laws_eqIntS {Ha : GH} {wa : World} (hs : Sl Ha wa) (v0 : Value) (a0 : List Int) (p0 : RSl Ha eI 1 v0 a0) (v1 : Value) (a1 : List Int) (p1 : RSl Ha eI 1 v1 a1) {r : Bool} (hp : (PF.laws_eqIntS a0 a1) = some r) :
  Calls Try.prog 52 #[v0, v1] wa (Sc Ha wa (Value.bool r)) := by
 unfold PF.laws_eqIntS at hp
 have S0 := St.init hs
 refine calls_go (N := 26) (args := [v0, v1]) Try.func52 rfl rfl rfl ?_
 refine FW.seq (FW.region ?_)
 refine FL.v (E.assign (v := Value.bool false) rfl) ?_
 refine FL.nil (FW.seq (FW.seq (FW.region ?_)))
 refine FL.v (E.move (v := v0) rfl) ?_
 refine FL.v (E.lenP te47 rfl p0) ?_
 refine FL.v (E.move (v := v1) rfl) ?_
 refine FL.v (E.lenP te47 rfl p1) ?_
 refine FL.v (E.neq rfl rfl) ?_
 refine FL.nil ?_
 rcases ifB hp with ⟨c21, hp⟩ | ⟨c21, hp⟩
 ·
  refine FW.condT rfl c21 ?_
  refine FW.seq (FW.region ?_)
  refine FL.v (E.assign (v := Value.bool false) rfl) ?_
  refine FL.nil ?_
  refine FW.ret ?_
  obtain rfl := Option.some.inj hp
  exact ⟨.inr rfl, res1 rfl rfl ⟨rfl, S0.back⟩⟩
 ·
  refine FW.condF rfl c21 ?_
  refine FW.skip (FW.seq (FW.seq (FW.region ?_)))
  refine FL.v (E.assign (v := Value.int .i64 0) rfl) ?_
  refine FL.nil ?_
  obtain ⟨q23, hq, hp⟩ := bndR hp
  refine FW.block ?_
  refine FW.mono (FW.forL (S := Unit) (X := Bool) (fun (i23 : Nat) (s23 : Unit) f w => ∃ H : GH, St Ha wa H w [] ∧ Inc Ha H ∧ f 5 = Value.int .i64 ((i23 : Nat) : Int) ∧ f 0 = v0 ∧ f 1 = v1) (fun q e f w => match q with | .go s23 => e = Exit.exit 0 ∧ (∃ H : GH, St Ha wa H w [] ∧ Inc Ha H) | .rt x => ((e = Exit.ret) ∧ (fun e f w => (e = Exit.normal ∨ e = Exit.ret) ∧ ∀ a, Fr (δ := []) 26 a f → ∃ v, (results Try.f52 a.tmps).run Try.prog w = .ok v w ∧ (Sc Ha wa (Value.bool x)) (.returned v) w) e f w)) hq ⟨_, S0, (Inc.rfl _), rfl, rfl, rfl⟩ ?_ ?_) ?_
  ·
   clear hp hq
   rintro i23 y22 s23 f55 w54 ⟨H51, S52, i53, k56, k57, k58⟩ hx23 o78 hp
   refine FW.seq (FW.seq (FW.region ?_))
   refine FL.v (E.move k56) ?_
   refine FL.v (E.move k57) ?_
   refine FL.v (E.lenP te47 rfl p0) ?_
   refine FL.v (E.lssT rfl rfl (lss_len hx23)) ?_
   refine FL.nil ?_
   refine FW.condT rfl rfl ?_
   refine FW.skip (FW.seq (FW.block (FW.seq ?_)))
   refine FW.draw (fun w' => Run w54.heap.size H51 w54 H51 w') (by kernel_rfl) (by kernel_rfl) (run_drew S52.sl) ?_
   refine FD.val rfl rfl rfl (fun w' hw' => (E.move k57)) ?_
   refine FD.val rfl rfl rfl (fun w' hw' => (E.move k56)) ?_
   obtain ⟨p60, cs61, pt62, l63, at64, rel65⟩ := p0.at (ix_nat hx23)
   obtain rfl := eI_open rel65
   refine FD.val rfl rfl rfl (fun w' hw' => (E.indexAddr te47 rfl rfl pt62)) ?_
   refine FD.val rfl rfl rfl (fun w' hw' => (E.load rfl (run_load0 Try.isAgg3 ((at64.mono i53).now (S52.call hw').sl) rfl))) ?_
   refine FD.val rfl rfl rfl (fun w' hw' => (E.move k58)) ?_
   refine FD.val rfl rfl rfl (fun w' hw' => (E.move k56)) ?_
   obtain ⟨x72, hx73, hp⟩ := bnd hp
   obtain ⟨p66, cs67, pt68, l69, at70, rel71⟩ := p1.at hx73
   obtain rfl := eI_open rel71
   refine FD.val rfl rfl rfl (fun w' hw' => (E.indexAddr te47 rfl rfl pt68)) ?_
   refine FD.val rfl rfl rfl (fun w' hw' => (E.load rfl (run_load0 Try.isAgg3 ((at70.mono i53).now (S52.call hw').sl) rfl))) ?_
   refine FD.val rfl rfl rfl (fun w' hw' => (E.neq rfl rfl)) ?_
   refine FD.nil ?_
   intro w74 r76
   have S75 := S52.call r76
   rcases ifB hp with ⟨c77, hp⟩ | ⟨c77, hp⟩
   ·
    refine FW.condT rfl c77 ?_
    refine FW.seq (FW.region ?_)
    refine FL.v (E.assign (v := Value.bool false) rfl) ?_
    refine FL.nil ?_
    refine FW.ret ?_
    obtain rfl := Option.some.inj hp
    exact ⟨nofun, rfl, ⟨.inr rfl, res1 rfl rfl ⟨rfl, S75.back⟩⟩⟩
   ·
    refine FW.condF rfl c77 ?_
    refine FW.skip (FW.region ?_)
    refine FL.v (E.move k56) ?_
    refine FL.v (E.add rfl rfl) ?_
    refine FL.v (E.assign (v := Value.int .i64 (wr (((i23 : Nat) : Int) + 1))) rfl) ?_
    refine FL.nil ?_
    obtain rfl := Option.some.inj hp
    exact ⟨rfl, ⟨_, S75, i53, (nat_succ rfl (lt_of_get hx23) (p0.mono i53).le), k57, k58⟩⟩
  ·
   clear hp hq
   rintro s23 f88 w87 ⟨H84, S85, i86, k89, k90, k91⟩
   refine FW.seq (FW.seq (FW.region ?_))
   refine FL.v (E.move k89) ?_
   refine FL.v (E.move k90) ?_
   refine FL.v (E.lenP te47 rfl p0) ?_
   refine FL.v (E.lss rfl rfl) ?_
   refine FL.nil ?_
   refine FW.condF rfl dlt_len ?_
   refine FW.exit ?_
   exact ⟨nofun, rfl, ⟨_, S85, i86⟩⟩
  ·
   clear hq
   intro e f83 w82 hD
   rcases q23 with s23 | x23
   ·
    obtain ⟨rfl, hD⟩ := hD
    obtain ⟨H79, S80, i81⟩ := hD
    replace hp := el_go hp
    refine FW.seq (FW.region ?_)
    refine FL.v (E.assign (v := Value.bool true) rfl) ?_
    refine FL.nil ?_
    refine FW.ret ?_
    obtain rfl := Option.some.inj hp
    exact ⟨.inr rfl, res1 rfl rfl ⟨rfl, S80.back⟩⟩
   ·
    obtain ⟨he, hL⟩ := hD
    replace hp := el_rt hp
    obtain rfl := Option.some.inj hp
    subst he
    exact hL

theorem w_laws_eqIntSS {Ha : GH} {wa : World} (hs : Sl Ha wa) (v0 : Value) (a0 : List (List Int)) (p0 : RSl Ha (eL eI 1) 1 v0 a0) (v1 : Value) (a1 : List (List Int)) (p1 : RSl Ha (eL eI 1) 1 v1 a1) {r : Bool} (hp : (PF.laws_eqIntSS a0 a1) = some r) :
  Calls Try.prog 28 #[v0, v1] wa (Sc Ha wa (Value.bool r)) := by
 unfold PF.laws_eqIntSS at hp
 have S0 := St.init hs
 refine calls_go (N := 27) (args := [v0, v1]) Try.func28 rfl rfl rfl ?_
 refine FW.seq (FW.region ?_)
 refine FL.v (E.assign (v := Value.bool false) rfl) ?_
 refine FL.nil (FW.seq (FW.seq (FW.region ?_)))
 refine FL.v (E.move (v := v0) rfl) ?_
 refine FL.v (E.lenP te22 rfl p0) ?_
 refine FL.v (E.move (v := v1) rfl) ?_
 refine FL.v (E.lenP te22 rfl p1) ?_
 refine FL.v (E.neq rfl rfl) ?_
 refine FL.nil ?_
 rcases ifB hp with ⟨c21, hp⟩ | ⟨c21, hp⟩
 ·
  refine FW.condT rfl c21 ?_
  refine FW.seq (FW.region ?_)
  refine FL.v (E.assign (v := Value.bool false) rfl) ?_
  refine FL.nil ?_
  refine FW.ret ?_
  obtain rfl := Option.some.inj hp
  exact ⟨.inr rfl, res1 rfl rfl ⟨rfl, S0.back⟩⟩
 ·
  refine FW.condF rfl c21 ?_
  refine FW.skip (FW.seq (FW.seq (FW.region ?_)))
  refine FL.v (E.assign (v := Value.int .i64 0) rfl) ?_
  refine FL.nil ?_
  obtain ⟨q23, hq, hp⟩ := bndR hp
  refine FW.block ?_
  refine FW.mono (FW.forL (S := Unit) (X := Bool) (fun (i23 : Nat) (s23 : Unit) f w => ∃ H : GH, St Ha wa H w [] ∧ Inc Ha H ∧ f 5 = Value.int .i64 ((i23 : Nat) : Int) ∧ f 0 = v0 ∧ f 1 = v1) (fun q e f w => match q with | .go s23 => e = Exit.exit 0 ∧ (∃ H : GH, St Ha wa H w [] ∧ Inc Ha H) | .rt x => ((e = Exit.ret) ∧ (fun e f w => (e = Exit.normal ∨ e = Exit.ret) ∧ ∀ a, Fr (δ := []) 27 a f → ∃ v, (results Try.f28 a.tmps).run Try.prog w = .ok v w ∧ (Sc Ha wa (Value.bool x)) (.returned v) w) e f w)) hq ⟨_, S0, (Inc.rfl _), rfl, rfl, rfl⟩ ?_ ?_) ?_
  ·
   clear hp hq
   rintro i23 y22 s23 f61 w60 ⟨H57, S58, i59, k62, k63, k64⟩ hx23 o90 hp
   refine FW.seq (FW.seq (FW.region ?_))
   refine FL.v (E.move k62) ?_
   refine FL.v (E.move k63) ?_
   refine FL.v (E.lenP te22 rfl p0) ?_
   refine FL.v (E.lssT rfl rfl (lss_len hx23)) ?_
   refine FL.nil ?_
   refine FW.condT rfl rfl ?_
   refine FW.skip (FW.seq (FW.block (FW.seq ?_)))
   refine FW.draw (fun w' => Run w60.heap.size H57 w60 H57 w') (by kernel_rfl) (by kernel_rfl) (run_drew S58.sl) ?_
   refine FD.val rfl rfl rfl (fun w' hw' => (E.move k63)) ?_
   refine FD.val rfl rfl rfl (fun w' hw' => (E.move k62)) ?_
   obtain ⟨p66, cs67, pt68, l69, at70, rel71⟩ := p0.at (ix_nat hx23)
   obtain ⟨v72, rfl, h73⟩ := eL_open rel71
   refine FD.val rfl rfl rfl (fun w' hw' => (E.indexAddr te22 rfl rfl pt68)) ?_
   refine FD.val rfl rfl rfl (fun w' hw' => (E.load rfl (run_load0 Try.isAgg47 ((at70.mono i59).now (S58.call hw').sl) rfl))) ?_
   refine FD.val rfl rfl rfl (fun w' hw' => (E.move k64)) ?_
   refine FD.val rfl rfl rfl (fun w' hw' => (E.move k62)) ?_
   obtain ⟨x80, hx81, hp⟩ := bnd hp
   obtain ⟨p74, cs75, pt76, l77, at78, rel79⟩ := p1.at hx81
   obtain ⟨v82, rfl, h83⟩ := eL_open rel79
   refine FD.val rfl rfl rfl (fun w' hw' => (E.indexAddr te22 rfl rfl pt76)) ?_
   refine FD.val rfl rfl rfl (fun w' hw' => (E.load rfl (run_load0 Try.isAgg47 ((at78.mono i59).now (S58.call hw').sl) rfl))) ?_
   obtain ⟨r84, hr85, hp⟩ := bnd hp
   refine FD.call rfl rfl rfl (fun w' hw' => (E.call Try.call52 (A2 rfl rfl))) (fun w' hw' => Calls.cls hw' (w_laws_eqIntS (S58.call hw').sl v72 y22 (h73.mono i59) v82 x80 (h83.mono i59) hr85)) ?_
   refine FD.val rfl rfl rfl (fun w' hw' => (E.not rfl)) ?_
   refine FD.nil ?_
   intro w86 r88
   have S87 := S58.call r88
   rcases ifB hp with ⟨c89, hp⟩ | ⟨c89, hp⟩
   ·
    refine FW.condT rfl c89 ?_
    refine FW.seq (FW.region ?_)
    refine FL.v (E.assign (v := Value.bool false) rfl) ?_
    refine FL.nil ?_
    refine FW.ret ?_
    obtain rfl := Option.some.inj hp
    exact ⟨nofun, rfl, ⟨.inr rfl, res1 rfl rfl ⟨rfl, S87.back⟩⟩⟩
   ·
    refine FW.condF rfl c89 ?_
    refine FW.skip (FW.region ?_)
    refine FL.v (E.move k62) ?_
    refine FL.v (E.add rfl rfl) ?_
    refine FL.v (E.assign (v := Value.int .i64 (wr (((i23 : Nat) : Int) + 1))) rfl) ?_
    refine FL.nil ?_
    obtain rfl := Option.some.inj hp
    exact ⟨rfl, ⟨_, S87, i59, (nat_succ rfl (lt_of_get hx23) (p0.mono i59).le), k63, k64⟩⟩
  ·
   clear hp hq
   rintro s23 f100 w99 ⟨H96, S97, i98, k101, k102, k103⟩
   refine FW.seq (FW.seq (FW.region ?_))
   refine FL.v (E.move k101) ?_
   refine FL.v (E.move k102) ?_
   refine FL.v (E.lenP te22 rfl p0) ?_
   refine FL.v (E.lss rfl rfl) ?_
   refine FL.nil ?_
   refine FW.condF rfl dlt_len ?_
   refine FW.exit ?_
   exact ⟨nofun, rfl, ⟨_, S97, i98⟩⟩
  ·
   clear hq
   intro e f95 w94 hD
   rcases q23 with s23 | x23
   ·
    obtain ⟨rfl, hD⟩ := hD
    obtain ⟨H91, S92, i93⟩ := hD
    replace hp := el_go hp
    refine FW.seq (FW.region ?_)
    refine FL.v (E.assign (v := Value.bool true) rfl) ?_
    refine FL.nil ?_
    refine FW.ret ?_
    obtain rfl := Option.some.inj hp
    exact ⟨.inr rfl, res1 rfl rfl ⟨rfl, S92.back⟩⟩
   ·
    obtain ⟨he, hL⟩ := hD
    replace hp := el_rt hp
    obtain rfl := Option.some.inj hp
    subst he
    exact hL

theorem w_laws_eqCnf {Ha : GH} {wa : World} (hs : Sl Ha wa) (a0 : Cnf) (v0_1 : Value) (p0_1 : RSl Ha (eL eI 1) 1 v0_1 a0.clauses) (a1 : Cnf) (v1_1 : Value) (p1_1 : RSl Ha (eL eI 1) 1 v1_1 a1.clauses) {r : Bool} (hp : (PF.laws_eqCnf a0 a1) = some r) :
  Calls Try.prog 9 #[Value.agg #[Value.int .i64 a0.vars, v0_1], Value.agg #[Value.int .i64 a1.vars, v1_1]] wa (Sc Ha wa (Value.bool r)) := by
 unfold PF.laws_eqCnf at hp
 have S0 := St.init hs
 refine calls_go (N := 16) (args := [Value.agg #[Value.int .i64 a0.vars, v0_1], Value.agg #[Value.int .i64 a1.vars, v1_1]]) Try.func9 rfl rfl rfl ?_
 refine FW.seq (FW.region ?_)
 obtain ⟨b21, w22, run23, S24⟩ := S0.box (P := Try.prog) 29 [Value.int .i64 a0.vars, v0_1] (v := Value.agg #[Value.int .i64 a0.vars, v0_1]) rfl (ones_cons rfl (ones_cons p0_1.one ones_nil))
 refine FL.v (E.box rfl run23) ?_
 obtain ⟨H25, S26, i27, at28⟩ := S24.sealBox (i := 0) (l' := []) rfl rfl
 obtain ⟨b29, w30, run31, S32⟩ := S26.box (P := Try.prog) 29 [Value.int .i64 a1.vars, v1_1] (v := Value.agg #[Value.int .i64 a1.vars, v1_1]) rfl (ones_cons rfl (ones_cons p1_1.one ones_nil))
 refine FL.v (E.box rfl run31) ?_
 obtain ⟨H33, S34, i35, at36⟩ := S32.sealBox (i := 0) (l' := []) rfl rfl
 refine FL.v (E.assign (v := Value.bool false) rfl) ?_
 refine FL.nil (FW.seq (FW.seq (FW.region ?_)))
 refine FL.v (E.fieldAddr tf29_0 rfl) ?_
 refine FL.v (E.load rfl (run_load1 Try.isAgg3 ((at28.mono i35).now S34.sl) rfl)) ?_
 refine FL.v (E.fieldAddr tf29_0 rfl) ?_
 refine FL.v (E.load rfl (run_load1 Try.isAgg3 (at36.now S34.sl) rfl)) ?_
 refine FL.v (E.neq rfl rfl) ?_
 refine FL.nil ?_
 rcases ifB hp with ⟨c37, hp⟩ | ⟨c37, hp⟩
 ·
  refine FW.condT rfl c37 ?_
  refine FW.seq (FW.region ?_)
  refine FL.v (E.assign (v := Value.bool false) rfl) ?_
  refine FL.nil ?_
  refine FW.ret ?_
  obtain rfl := Option.some.inj hp
  exact ⟨.inr rfl, res1 rfl rfl ⟨rfl, S34.back⟩⟩
 ·
  refine FW.condF rfl c37 ?_
  refine FW.skip (FW.seq (FW.seq (FW.region ?_)))
  refine FL.v (E.fieldAddr tf29_1 rfl) ?_
  refine FL.v (E.load rfl (run_load1 Try.isAgg22 ((at28.mono i35).now S34.sl) rfl)) ?_
  refine FL.v (E.fieldAddr tf29_1 rfl) ?_
  refine FL.v (E.load rfl (run_load1 Try.isAgg22 (at36.now S34.sl) rfl)) ?_
  obtain ⟨r38, hr39, hp⟩ := bnd hp
  refine FL.call rfl rfl rfl (E.call Try.call28 (A2 rfl rfl)) (w_laws_eqIntSS S34.sl v0_1 a0.clauses (p0_1.mono (i27.tr i35)) v1_1 a1.clauses (p1_1.mono (i27.tr i35)) hr39) ?_
  rintro e w40 ⟨rfl, r41⟩
  refine ⟨_, rfl, ?_⟩
  have S42 := S34.call r41
  refine FL.v (E.not rfl) ?_
  refine FL.nil ?_
  rcases ifB hp with ⟨c43, hp⟩ | ⟨c43, hp⟩
  ·
   refine FW.condT rfl c43 ?_
   refine FW.seq (FW.region ?_)
   refine FL.v (E.assign (v := Value.bool false) rfl) ?_
   refine FL.nil ?_
   refine FW.ret ?_
   obtain rfl := Option.some.inj hp
   exact ⟨.inr rfl, res1 rfl rfl ⟨rfl, S42.back⟩⟩
  ·
   refine FW.condF rfl c43 ?_
   refine FW.skip (FW.seq (FW.region ?_))
   refine FL.v (E.assign (v := Value.bool true) rfl) ?_
   refine FL.nil ?_
   refine FW.ret ?_
   obtain rfl := Option.some.inj hp
   exact ⟨.inr rfl, res1 rfl rfl ⟨rfl, S42.back⟩⟩

theorem w_laws_markIntS {H0 Ha : GH} {w0 wa : World} {l : List MO} (S0 : St H0 w0 Ha wa l) (hs0 : Sl H0 w0) (v0 : Value) (a0 : List Int) (p0 : RSl (up w0.heap.size Ha) eI 1 v0 a0) (a1 : Int) :
  Calls Try.prog 53 #[v0, Value.int .i64 a1] wa (M1 H0 w0 Ha l eI 1 v0 (PF.laws_markIntS a0 a1)) := by
 obtain ⟨c0, n0, hc0⟩ := p0.nest eI_flat (by decide)
 have hln := p0.ln
 have hle := p0.le
 refine calls_go (N := 19) (args := [v0, Value.int .i64 a1]) Try.func53 rfl rfl rfl ?_
 refine FW.seq (FW.region ?_)
 refine FL.v (E.assign (v := Value.int .i64 0) rfl) ?_
 refine FL.nil (FW.seq (FW.seq (FW.region ?_)))
 refine FL.v (E.assign (v := Value.int .i64 0) rfl) ?_
 refine FL.nil (FW.block ?_)
 refine FW.mono (FW.mark (F := fun y m => (m, (wr (m + 1)))) (a0 := a0) (k0 := a1) (fun (i : Nat) (xs : List Int) (k : Int) f w => ∃ (H : GH) (c : List Value), St H0 w0 H w l ∧ Nest (up w0.heap.size H) eI 1 v0 xs c ∧ bl c = bl c0 ∧ (∀ b, b ∉ bl [v0] → b ∉ bl c0 → H b = Ha b) ∧ f 0 = v0 ∧ f 1 = Value.int .i64 k ∧ f 5 = Value.int .i64 ((i : Nat) : Int)) (fun e f w => e = Exit.exit 0 ∧ ∃ (H : GH) (c : List Value), St H0 w0 H w l ∧ Nest (up w0.heap.size H) eI 1 v0 (markFrom (fun y m => (m, (wr (m + 1)))) a0 a1).1 c ∧ bl c = bl c0 ∧ (∀ b, b ∉ bl [v0] → b ∉ bl c0 → H b = Ha b) ∧ f 0 = v0 ∧ f 1 = Value.int .i64 (markFrom (fun y m => (m, (wr (m + 1)))) a0 a1).2) ⟨_, _, S0, n0, rfl, fun _ _ _ => rfl, rfl, rfl, rfl⟩ ?_ ?_) ?_
 ·
  rintro i y xs m f1 w1 ⟨H1, c1, S1, n1, hb, ho, kv, kk, kc⟩ hx hy
  obtain ⟨p, hpt, wr0, hB, hr, nd⟩ := n1.begin hy (by decide)
  have hci := eI_open hr
  have rd := wr0.opens hci
  refine FW.seq (FW.seq (FW.region ?_))
  refine FL.v (E.move kc) ?_
  refine FL.v (E.move kv) ?_
  refine FL.v (E.len te47 rfl hln) ?_
  refine FL.v (E.lssT rfl rfl (lss_len hx)) ?_
  refine FL.nil ?_
  refine FW.condT rfl rfl ?_
  refine FW.skip (FW.seq (FW.block (FW.seq (FW.region ?_))))
  refine FL.v (E.move kv) ?_
  refine FL.v (E.move kc) ?_
  refine FL.v (E.move kk) ?_
  refine FL.v (E.indexAddr te47 rfl rfl hpt) ?_
  obtain ⟨w21, H22, run24, S23, wr25, o26⟩ := rd.poke0 (P := Try.prog) (t := 3) (u := Value.int .i64 m) S1 hs0 hB rfl rfl rfl Try.sizeOf3 rfl rfl (c2 := [Value.int .i64 m]) rfl
  refine FL.act rfl rfl (E.store rfl rfl run24) ?_
  refine FL.nil (FW.region ?_)
  refine FL.v (E.move kk) ?_
  refine FL.v (E.add rfl rfl) ?_
  refine FL.v (E.assign (v := Value.int .i64 (wr (m + 1))) rfl) ?_
  refine FL.nil (FW.region ?_)
  refine FL.v (E.move kc) ?_
  refine FL.v (E.add rfl rfl) ?_
  refine FL.v (E.assign (v := Value.int .i64 (wr (((i : Nat) : Int) + 1))) rfl) ?_
  refine FL.nil ?_
  obtain ⟨c2, n2, hb2, ho2⟩ := n1.round eI_flat.loc hy (by decide) hpt wr25 (y' := m) rfl
  exact ⟨rfl, _, _, S23, n2, hb2.trans hb, fun b q1 q2 => (ho2 b q1 (by rw [hb]; exact q2)).trans (ho b q1 q2), kv, rfl, nat_succ rfl (lt_of_get hx) hle⟩
 ·
  rintro f1 w1 ⟨H1, c1, S1, n1, hb, ho, kv, kk, kc⟩
  refine FW.seq (FW.seq (FW.region ?_))
  refine FL.v (E.move kc) ?_
  refine FL.v (E.move kv) ?_
  refine FL.v (E.len te47 rfl hln) ?_
  refine FL.v (E.lss rfl rfl) ?_
  refine FL.nil ?_
  refine FW.condF rfl dlt_len ?_
  refine FW.exit ?_
  exact ⟨nofun, rfl, _, _, S1, n1, hb, ho, kv, kk⟩
 ·
  rintro e f2 w2 ⟨rfl, H2, c2, S2, n2, hb, ho, kv, kk⟩
  refine FW.seq (FW.region ?_)
  refine FL.v (E.move kk) ?_
  refine FL.v (E.assign (v := Value.int .i64 ((markFrom (fun y m => (m, (wr (m + 1)))) a0 a1).2)) rfl) ?_
  refine FL.nil ?_
  refine FW.ret ?_
  exact ⟨.inr rfl, res1 rfl rfl ⟨_, rfl, S2, n2.rsl, fun b q => ho b q (by rw [hc0]; simp)⟩⟩

theorem w_laws_markIntSS {H0 Ha : GH} {w0 wa : World} {l : List MO} (S0 : St H0 w0 Ha wa l) (hs0 : Sl H0 w0) (v0 : Value) (a0 : List (List Int)) (c0 : List Value) (n0 : Nest (up w0.heap.size Ha) (eL eI 1) 1 v0 a0 c0) (a1 : Int) :
  Calls Try.prog 29 #[v0, Value.int .i64 a1] wa (M2 H0 w0 Ha l (eL eI 1) 1 v0 c0 (PF.laws_markIntSS a0 a1)) := by
 have hln := n0.rsl.ln
 have hle := n0.rsl.le
 refine calls_go (N := 19) (args := [v0, Value.int .i64 a1]) Try.func29 rfl rfl rfl ?_
 refine FW.seq (FW.region ?_)
 refine FL.v (E.assign (v := Value.int .i64 0) rfl) ?_
 refine FL.nil (FW.seq (FW.seq (FW.region ?_)))
 refine FL.v (E.assign (v := Value.int .i64 0) rfl) ?_
 refine FL.nil (FW.block ?_)
 refine FW.mono (FW.mark (F := fun y m => ((PF.laws_markIntS y m).1, (PF.laws_markIntS y m).2)) (a0 := a0) (k0 := a1) (fun (i : Nat) (xs : List (List Int)) (k : Int) f w => ∃ (H : GH) (c : List Value), St H0 w0 H w l ∧ Nest (up w0.heap.size H) (eL eI 1) 1 v0 xs c ∧ bl c = bl c0 ∧ (∀ b, b ∉ bl [v0] → b ∉ bl c0 → H b = Ha b) ∧ f 0 = v0 ∧ f 1 = Value.int .i64 k ∧ f 5 = Value.int .i64 ((i : Nat) : Int)) (fun e f w => e = Exit.exit 0 ∧ ∃ (H : GH) (c : List Value), St H0 w0 H w l ∧ Nest (up w0.heap.size H) (eL eI 1) 1 v0 (markFrom (fun y m => ((PF.laws_markIntS y m).1, (PF.laws_markIntS y m).2)) a0 a1).1 c ∧ bl c = bl c0 ∧ (∀ b, b ∉ bl [v0] → b ∉ bl c0 → H b = Ha b) ∧ f 0 = v0 ∧ f 1 = Value.int .i64 (markFrom (fun y m => ((PF.laws_markIntS y m).1, (PF.laws_markIntS y m).2)) a0 a1).2) ⟨_, _, S0, n0, rfl, fun _ _ _ => rfl, rfl, rfl, rfl⟩ ?_ ?_) ?_
 ·
  rintro i y xs m f1 w1 ⟨H1, c1, S1, n1, hb, ho, kv, kk, kc⟩ hx hy
  obtain ⟨p, hpt, wr0, hB, hr, nd⟩ := n1.begin hy (by decide)
  obtain ⟨u0, hci, hu0⟩ := eL_open hr
  have rd := wr0.opens hci
  refine FW.seq (FW.seq (FW.region ?_))
  refine FL.v (E.move kc) ?_
  refine FL.v (E.move kv) ?_
  refine FL.v (E.len te22 rfl hln) ?_
  refine FL.v (E.lssT rfl rfl (lss_len hx)) ?_
  refine FL.nil ?_
  refine FW.condT rfl rfl ?_
  refine FW.skip (FW.seq (FW.block (FW.region ?_)))
  refine FL.v (E.move kv) ?_
  refine FL.v (E.move kc) ?_
  refine FL.v (E.indexAddr te22 rfl rfl hpt) ?_
  refine FL.v (E.load rfl (run_load0 Try.isAgg47 (rd.now S1.sl) rfl)) ?_
  refine FL.v (E.move kk) ?_
  refine FL.call rfl rfl rfl (E.call Try.call53 (A2 rfl rfl)) (w_laws_markIntS S1 hs0 u0 y hu0 m) ?_
  rintro e w22 ⟨H21, rfl, S23, h24, o25⟩
  refine ⟨_, rfl, ?_⟩
  have wr26 := rd.inner (j := 0) rfl o25
  refine FL.v (E.assign (v := Value.int .i64 ((PF.laws_markIntS y m).2)) rfl) ?_
  refine FL.nil (FW.region ?_)
  refine FL.v (E.move kc) ?_
  refine FL.v (E.add rfl rfl) ?_
  refine FL.v (E.assign (v := Value.int .i64 (wr (((i : Nat) : Int) + 1))) rfl) ?_
  refine FL.nil ?_
  obtain ⟨c2, n2, hb2, ho2⟩ := n1.round (eL_loc eI_flat) hy (by decide) hpt wr26 (y' := (PF.laws_markIntS y m).1) ⟨_, rfl, h24⟩
  exact ⟨rfl, _, _, S23, n2, hb2.trans hb, fun b q1 q2 => (ho2 b q1 (by rw [hb]; exact q2)).trans (ho b q1 q2), kv, rfl, nat_succ rfl (lt_of_get hx) hle⟩
 ·
  rintro f1 w1 ⟨H1, c1, S1, n1, hb, ho, kv, kk, kc⟩
  refine FW.seq (FW.seq (FW.region ?_))
  refine FL.v (E.move kc) ?_
  refine FL.v (E.move kv) ?_
  refine FL.v (E.len te22 rfl hln) ?_
  refine FL.v (E.lss rfl rfl) ?_
  refine FL.nil ?_
  refine FW.condF rfl dlt_len ?_
  refine FW.exit ?_
  exact ⟨nofun, rfl, _, _, S1, n1, hb, ho, kv, kk⟩
 ·
  rintro e f2 w2 ⟨rfl, H2, c2, S2, n2, hb, ho, kv, kk⟩
  refine FW.seq (FW.region ?_)
  refine FL.v (E.move kk) ?_
  refine FL.v (E.assign (v := Value.int .i64 ((markFrom (fun y m => ((PF.laws_markIntS y m).1, (PF.laws_markIntS y m).2)) a0 a1).2)) rfl) ?_
  refine FL.nil ?_
  refine FW.ret ?_
  exact ⟨.inr rfl, res1 rfl rfl ⟨_, _, rfl, S2, n2, hb, fun b q1 q2 => weak (F := fun b => b ∉ bl [v0] ∧ b ∉ bl c0) (fun b q => ho b q.1 q.2) b ⟨q1, q2⟩⟩⟩

@[reducible] def p_laws_markCnf (H0 : GH) (w0 : World) (Ha : GH) (l : List MO) (v0 : Value) (c0 : List Value) (r : Cnf × Int) : Ending → World → Prop := fun e w' =>
 ∃ (H' : GH) (c' : List Value), e = .returned (.int .i64 r.2) ∧ St H0 w0 H' w' l ∧ Nest (up w0.heap.size H') (eL eI 1) 1 v0 r.1.clauses c' ∧ bl c' = bl c0 ∧ ∀ b, b ∉ bl [v0] → b ∉ bl c0 → ∀ o, Ha b = some o → H' b = some o
theorem w_laws_markCnf {H0 Ha : GH} {w0 wa : World} {l : List MO} (S0 : St H0 w0 Ha wa l) (hs0 : Sl H0 w0) (a0 : Cnf) (v0 : Value) (c0 : List Value) (n0 : Nest (up w0.heap.size Ha) (eL eI 1) 1 v0 a0.clauses c0) (a1 : Int) :
  Calls Try.prog 10 #[.agg #[Value.int .i64 a0.vars, v0], Value.int .i64 a1] wa (p_laws_markCnf H0 w0 Ha l v0 c0 (PF.laws_markCnf a0 a1)) := by
 refine calls_go (N := 10) (args := [.agg #[Value.int .i64 a0.vars, v0], Value.int .i64 a1]) Try.func10 rfl rfl rfl ?_
 refine FW.seq (FW.region ?_)
 obtain ⟨b21, w22, run23, S24⟩ := S0.box (P := Try.prog) 29 [Value.int .i64 a0.vars, v0] (v := Value.agg #[Value.int .i64 a0.vars, v0]) rfl (ones_cons rfl (ones_cons n0.rsl.one ones_nil))
 refine FL.v (E.box rfl run23) ?_
 obtain ⟨H25, S26, i27, at28⟩ := S24.sealBox (i := 0) (l' := l) rfl rfl
 refine FL.v (E.assign (v := Value.int .i64 0) rfl) ?_
 refine FL.nil (FW.seq (FW.region ?_))
 refine FL.v (E.fieldAddr tf29_1 rfl) ?_
 refine FL.v (E.load rfl (run_load1 Try.isAgg22 (at28.now S26.sl) rfl)) ?_
 refine FL.v (E.move (v := Value.int .i64 a1) rfl) ?_
 refine FL.call rfl rfl rfl (E.call Try.call29 (A2 rfl rfl)) (w_laws_markIntSS S26 hs0 v0 a0.clauses c0 (n0.mono (up_mono i27)) a1) ?_
 rintro e w30 ⟨H29, c34, rfl, S31, h32, hb35, o33⟩
 refine ⟨_, rfl, ?_⟩
 refine FL.v (E.assign (v := Value.int .i64 ((PF.laws_markIntSS a0.clauses a1).2)) rfl) ?_
 refine FL.nil (FW.seq (FW.region ?_))
 refine FL.v (E.move (v := Value.int .i64 ((PF.laws_markIntSS a0.clauses a1).2)) rfl) ?_
 refine FL.v (E.assign (v := Value.int .i64 ((PF.laws_markIntSS a0.clauses a1).2)) rfl) ?_
 refine FL.nil ?_
 refine FW.ret ?_
 exact ⟨.inr rfl, res1 rfl rfl ⟨_, _, rfl, S31, h32, hb35, fun b q1 q2 o ho => o33 b q1 q2 o (i27 b o ho)⟩⟩

theorem w_laws_markTermS {H0 Ha : GH} {w0 wa : World} {l : List MO} (S0 : St H0 w0 Ha wa l) (hs0 : Sl H0 w0) (v0 : Value) (a0 : List Term) (p0 : RSl (up w0.heap.size Ha) eTerm 2 v0 a0) (a1 : Int) :
  Calls Try.prog 30 #[v0, Value.int .i64 a1] wa (M1 H0 w0 Ha l eTerm 2 v0 (PF.laws_markTermS a0 a1)) := by
 obtain ⟨c0, n0, hc0⟩ := p0.nest eTerm_flat (by decide)
 have hln := p0.ln
 have hle := p0.le
 refine calls_go (N := 27) (args := [v0, Value.int .i64 a1]) Try.func30 rfl rfl rfl ?_
 refine FW.seq (FW.region ?_)
 refine FL.v (E.assign (v := Value.int .i64 0) rfl) ?_
 refine FL.nil (FW.seq (FW.seq (FW.region ?_)))
 refine FL.v (E.assign (v := Value.int .i64 0) rfl) ?_
 refine FL.nil (FW.block ?_)
 refine FW.mono (FW.mark (F := fun y m => ((Term.mk m (wr (m + 1))), (wr ((wr (m + 1)) + 1)))) (a0 := a0) (k0 := a1) (fun (i : Nat) (xs : List Term) (k : Int) f w => ∃ (H : GH) (c : List Value), St H0 w0 H w l ∧ Nest (up w0.heap.size H) eTerm 2 v0 xs c ∧ bl c = bl c0 ∧ (∀ b, b ∉ bl [v0] → b ∉ bl c0 → H b = Ha b) ∧ f 0 = v0 ∧ f 1 = Value.int .i64 k ∧ f 5 = Value.int .i64 ((i : Nat) : Int)) (fun e f w => e = Exit.exit 0 ∧ ∃ (H : GH) (c : List Value), St H0 w0 H w l ∧ Nest (up w0.heap.size H) eTerm 2 v0 (markFrom (fun y m => ((Term.mk m (wr (m + 1))), (wr ((wr (m + 1)) + 1)))) a0 a1).1 c ∧ bl c = bl c0 ∧ (∀ b, b ∉ bl [v0] → b ∉ bl c0 → H b = Ha b) ∧ f 0 = v0 ∧ f 1 = Value.int .i64 (markFrom (fun y m => ((Term.mk m (wr (m + 1))), (wr ((wr (m + 1)) + 1)))) a0 a1).2) ⟨_, _, S0, n0, rfl, fun _ _ _ => rfl, rfl, rfl, rfl⟩ ?_ ?_) ?_
 ·
  rintro i y xs m f1 w1 ⟨H1, c1, S1, n1, hb, ho, kv, kk, kc⟩ hx hy
  obtain ⟨p, hpt, wr0, hB, hr, nd⟩ := n1.begin hy (by decide)
  have hci := eTerm_open hr
  have rd := wr0.opens hci
  refine FW.seq (FW.seq (FW.region ?_))
  refine FL.v (E.move kc) ?_
  refine FL.v (E.move kv) ?_
  refine FL.v (E.len te62 rfl hln) ?_
  refine FL.v (E.lssT rfl rfl (lss_len hx)) ?_
  refine FL.nil ?_
  refine FW.condT rfl rfl ?_
  refine FW.skip (FW.seq (FW.block (FW.seq (FW.region ?_))))
  refine FL.v (E.move kv) ?_
  refine FL.v (E.move kc) ?_
  refine FL.v (E.move kk) ?_
  refine FL.v (E.indexAddr te62 rfl rfl hpt) ?_
  refine FL.v (E.fieldAddr tf94_0 rfl) ?_
  obtain ⟨w21, H22, run24, S23, wr25, o26⟩ := rd.poke (P := Try.prog) (t := 3) (u := Value.int .i64 m) S1 hs0 hB (j := 0) rfl rfl rfl Try.sizeOf3 rfl rfl (c2 := [Value.int .i64 m, Value.int .i64 y.coeff]) rfl
  refine FL.act rfl rfl (E.store rfl rfl run24) ?_
  refine FL.nil (FW.seq (FW.region ?_))
  refine FL.v (E.move kk) ?_
  refine FL.v (E.add rfl rfl) ?_
  refine FL.v (E.assign (v := Value.int .i64 (wr (m + 1))) rfl) ?_
  refine FL.nil (FW.seq (FW.region ?_))
  refine FL.v (E.move kv) ?_
  refine FL.v (E.move kc) ?_
  refine FL.v (E.move (v := Value.int .i64 (wr (m + 1))) rfl) ?_
  refine FL.v (E.indexAddr te62 rfl rfl hpt) ?_
  refine FL.v (E.fieldAddr tf94_1 rfl) ?_
  obtain ⟨w27, H28, run30, S29, wr31, o32⟩ := wr25.poke (P := Try.prog) (t := 3) (u := Value.int .i64 (wr (m + 1))) S23 hs0 hB (j := 1) rfl rfl rfl Try.sizeOf3 rfl rfl (c2 := [Value.int .i64 m, Value.int .i64 (wr (m + 1))]) rfl
  refine FL.act rfl rfl (E.store rfl rfl run30) ?_
  refine FL.nil (FW.region ?_)
  refine FL.v (E.move (v := Value.int .i64 (wr (m + 1))) rfl) ?_
  refine FL.v (E.add rfl rfl) ?_
  refine FL.v (E.assign (v := Value.int .i64 (wr ((wr (m + 1)) + 1))) rfl) ?_
  refine FL.nil (FW.region ?_)
  refine FL.v (E.move kc) ?_
  refine FL.v (E.add rfl rfl) ?_
  refine FL.v (E.assign (v := Value.int .i64 (wr (((i : Nat) : Int) + 1))) rfl) ?_
  refine FL.nil ?_
  obtain ⟨c2, n2, hb2, ho2⟩ := n1.round eTerm_flat.loc hy (by decide) hpt wr31 (y' := (Term.mk m (wr (m + 1)))) rfl
  exact ⟨rfl, _, _, S29, n2, hb2.trans hb, fun b q1 q2 => (ho2 b q1 (by rw [hb]; exact q2)).trans (ho b q1 q2), kv, rfl, nat_succ rfl (lt_of_get hx) hle⟩
 ·
  rintro f1 w1 ⟨H1, c1, S1, n1, hb, ho, kv, kk, kc⟩
  refine FW.seq (FW.seq (FW.region ?_))
  refine FL.v (E.move kc) ?_
  refine FL.v (E.move kv) ?_
  refine FL.v (E.len te62 rfl hln) ?_
  refine FL.v (E.lss rfl rfl) ?_
  refine FL.nil ?_
  refine FW.condF rfl dlt_len ?_
  refine FW.exit ?_
  exact ⟨nofun, rfl, _, _, S1, n1, hb, ho, kv, kk⟩
 ·
  rintro e f2 w2 ⟨rfl, H2, c2, S2, n2, hb, ho, kv, kk⟩
  refine FW.seq (FW.region ?_)
  refine FL.v (E.move kk) ?_
  refine FL.v (E.assign (v := Value.int .i64 ((markFrom (fun y m => ((Term.mk m (wr (m + 1))), (wr ((wr (m + 1)) + 1)))) a0 a1).2)) rfl) ?_
  refine FL.nil ?_
  refine FW.ret ?_
  exact ⟨.inr rfl, res1 rfl rfl ⟨_, rfl, S2, n2.rsl, fun b q => ho b q (by rw [hc0]; simp)⟩⟩

theorem w_laws_markTermSS {H0 Ha : GH} {w0 wa : World} {l : List MO} (S0 : St H0 w0 Ha wa l) (hs0 : Sl H0 w0) (v0 : Value) (a0 : List (List Term)) (c0 : List Value) (n0 : Nest (up w0.heap.size Ha) (eL eTerm 2) 1 v0 a0 c0) (a1 : Int) :
  Calls Try.prog 11 #[v0, Value.int .i64 a1] wa (M2 H0 w0 Ha l (eL eTerm 2) 1 v0 c0 (PF.laws_markTermSS a0 a1)) := by
 have hln := n0.rsl.ln
 have hle := n0.rsl.le
 refine calls_go (N := 19) (args := [v0, Value.int .i64 a1]) Try.func11 rfl rfl rfl ?_
 refine FW.seq (FW.region ?_)
 refine FL.v (E.assign (v := Value.int .i64 0) rfl) ?_
 refine FL.nil (FW.seq (FW.seq (FW.region ?_)))
 refine FL.v (E.assign (v := Value.int .i64 0) rfl) ?_
 refine FL.nil (FW.block ?_)
 refine FW.mono (FW.mark (F := fun y m => ((PF.laws_markTermS y m).1, (PF.laws_markTermS y m).2)) (a0 := a0) (k0 := a1) (fun (i : Nat) (xs : List (List Term)) (k : Int) f w => ∃ (H : GH) (c : List Value), St H0 w0 H w l ∧ Nest (up w0.heap.size H) (eL eTerm 2) 1 v0 xs c ∧ bl c = bl c0 ∧ (∀ b, b ∉ bl [v0] → b ∉ bl c0 → H b = Ha b) ∧ f 0 = v0 ∧ f 1 = Value.int .i64 k ∧ f 5 = Value.int .i64 ((i : Nat) : Int)) (fun e f w => e = Exit.exit 0 ∧ ∃ (H : GH) (c : List Value), St H0 w0 H w l ∧ Nest (up w0.heap.size H) (eL eTerm 2) 1 v0 (markFrom (fun y m => ((PF.laws_markTermS y m).1, (PF.laws_markTermS y m).2)) a0 a1).1 c ∧ bl c = bl c0 ∧ (∀ b, b ∉ bl [v0] → b ∉ bl c0 → H b = Ha b) ∧ f 0 = v0 ∧ f 1 = Value.int .i64 (markFrom (fun y m => ((PF.laws_markTermS y m).1, (PF.laws_markTermS y m).2)) a0 a1).2) ⟨_, _, S0, n0, rfl, fun _ _ _ => rfl, rfl, rfl, rfl⟩ ?_ ?_) ?_
 ·
  rintro i y xs m f1 w1 ⟨H1, c1, S1, n1, hb, ho, kv, kk, kc⟩ hx hy
  obtain ⟨p, hpt, wr0, hB, hr, nd⟩ := n1.begin hy (by decide)
  obtain ⟨u0, hci, hu0⟩ := eL_open hr
  have rd := wr0.opens hci
  refine FW.seq (FW.seq (FW.region ?_))
  refine FL.v (E.move kc) ?_
  refine FL.v (E.move kv) ?_
  refine FL.v (E.len te26 rfl hln) ?_
  refine FL.v (E.lssT rfl rfl (lss_len hx)) ?_
  refine FL.nil ?_
  refine FW.condT rfl rfl ?_
  refine FW.skip (FW.seq (FW.block (FW.region ?_)))
  refine FL.v (E.move kv) ?_
  refine FL.v (E.move kc) ?_
  refine FL.v (E.indexAddr te26 rfl rfl hpt) ?_
  refine FL.v (E.load rfl (run_load0 Try.isAgg62 (rd.now S1.sl) rfl)) ?_
  refine FL.v (E.move kk) ?_
  refine FL.call rfl rfl rfl (E.call Try.call30 (A2 rfl rfl)) (w_laws_markTermS S1 hs0 u0 y hu0 m) ?_
  rintro e w22 ⟨H21, rfl, S23, h24, o25⟩
  refine ⟨_, rfl, ?_⟩
  have wr26 := rd.inner (j := 0) rfl o25
  refine FL.v (E.assign (v := Value.int .i64 ((PF.laws_markTermS y m).2)) rfl) ?_
  refine FL.nil (FW.region ?_)
  refine FL.v (E.move kc) ?_
  refine FL.v (E.add rfl rfl) ?_
  refine FL.v (E.assign (v := Value.int .i64 (wr (((i : Nat) : Int) + 1))) rfl) ?_
  refine FL.nil ?_
  obtain ⟨c2, n2, hb2, ho2⟩ := n1.round (eL_loc eTerm_flat) hy (by decide) hpt wr26 (y' := (PF.laws_markTermS y m).1) ⟨_, rfl, h24⟩
  exact ⟨rfl, _, _, S23, n2, hb2.trans hb, fun b q1 q2 => (ho2 b q1 (by rw [hb]; exact q2)).trans (ho b q1 q2), kv, rfl, nat_succ rfl (lt_of_get hx) hle⟩
 ·
  rintro f1 w1 ⟨H1, c1, S1, n1, hb, ho, kv, kk, kc⟩
  refine FW.seq (FW.seq (FW.region ?_))
  refine FL.v (E.move kc) ?_
  refine FL.v (E.move kv) ?_
  refine FL.v (E.len te26 rfl hln) ?_
  refine FL.v (E.lss rfl rfl) ?_
  refine FL.nil ?_
  refine FW.condF rfl dlt_len ?_
  refine FW.exit ?_
  exact ⟨nofun, rfl, _, _, S1, n1, hb, ho, kv, kk⟩
 ·
  rintro e f2 w2 ⟨rfl, H2, c2, S2, n2, hb, ho, kv, kk⟩
  refine FW.seq (FW.region ?_)
  refine FL.v (E.move kk) ?_
  refine FL.v (E.assign (v := Value.int .i64 ((markFrom (fun y m => ((PF.laws_markTermS y m).1, (PF.laws_markTermS y m).2)) a0 a1).2)) rfl) ?_
  refine FL.nil ?_
  refine FW.ret ?_
  exact ⟨.inr rfl, res1 rfl rfl ⟨_, _, rfl, S2, n2, hb, fun b q1 q2 => weak (F := fun b => b ∉ bl [v0] ∧ b ∉ bl c0) (fun b q => ho b q.1 q.2) b ⟨q1, q2⟩⟩⟩

theorem w_laws_heldTermS {Ha : GH} {wa : World} (hs : Sl Ha wa) (v0 : Value) (a0 : List Term) (p0 : RSl Ha eTerm 2 v0 a0) (a1 : Int) {r : Int} (hp : (PF.laws_heldTermS a0 a1) = some r) :
  Calls Try.prog 31 #[v0, Value.int .i64 a1] wa (Sc Ha wa (Value.int .i64 r)) := by
 unfold PF.laws_heldTermS at hp
 have S0 := St.init hs
 refine calls_go (N := 31) (args := [v0, Value.int .i64 a1]) Try.func31 rfl rfl rfl ?_
 refine FW.seq (FW.region ?_)
 refine FL.v (E.assign (v := Value.int .i64 0) rfl) ?_
 refine FL.nil (FW.seq (FW.seq (FW.region ?_)))
 refine FL.v (E.assign (v := Value.int .i64 0) rfl) ?_
 refine FL.nil ?_
 obtain ⟨q22, hq, hp⟩ := bndR hp
 refine FW.block ?_
 refine FW.mono (FW.forL (S := Int) (X := Int) (fun (i22 : Nat) (s22 : Int) f w => ∃ H : GH, St Ha wa H w [] ∧ Inc Ha H ∧ f 5 = Value.int .i64 ((i22 : Nat) : Int) ∧ f 0 = v0 ∧ f 1 = Value.int .i64 s22) (fun q e f w => match q with | .go s22 => e = Exit.exit 0 ∧ (∃ H : GH, St Ha wa H w [] ∧ Inc Ha H ∧ f 1 = Value.int .i64 s22) | .rt x => ((e = Exit.ret) ∧ (fun e f w => (e = Exit.normal ∨ e = Exit.ret) ∧ ∀ a, Fr (δ := []) 31 a f → ∃ v, (results Try.f31 a.tmps).run Try.prog w = .ok v w ∧ (Sc Ha wa (Value.int .i64 x)) (.returned v) w) e f w)) hq ⟨_, S0, (Inc.rfl _), rfl, rfl, rfl⟩ ?_ ?_) ?_
 ·
  clear hp hq
  rintro i22 y21 s22 f49 w48 ⟨H45, S46, i47, k50, k51, k52⟩ hx22 o67 hp
  refine FW.seq (FW.seq (FW.region ?_))
  refine FL.v (E.move k50) ?_
  refine FL.v (E.move k51) ?_
  refine FL.v (E.lenP te62 rfl p0) ?_
  refine FL.v (E.lssT rfl rfl (lss_len hx22)) ?_
  refine FL.nil ?_
  refine FW.condT rfl rfl ?_
  refine FW.skip (FW.seq (FW.block (FW.seq (FW.seq (FW.region ?_)))))
  refine FL.v (E.move k51) ?_
  refine FL.v (E.move k50) ?_
  obtain ⟨p53, cs54, pt55, l56, at57, rel58⟩ := p0.at (ix_nat hx22)
  obtain rfl := eTerm_open rel58
  refine FL.v (E.indexAddr te62 rfl rfl pt55) ?_
  refine FL.v (E.fieldAddr tf94_0 rfl) ?_
  refine FL.v (E.load rfl (run_load1 Try.isAgg3 ((at57.mono i47).now S46.sl) rfl)) ?_
  refine FL.v (E.move k52) ?_
  refine FL.v (E.neq rfl rfl) ?_
  refine FL.nil ?_
  rcases ifB hp with ⟨c59, hp⟩ | ⟨c59, hp⟩
  ·
   refine FW.condT rfl c59 ?_
   refine FW.seq (FW.region ?_)
   refine FL.v (E.assign (v := Value.int .i64 (-1)) rfl) ?_
   refine FL.nil ?_
   refine FW.ret ?_
   obtain rfl := Option.some.inj hp
   exact ⟨nofun, rfl, ⟨.inr rfl, res1 rfl rfl ⟨rfl, S46.back⟩⟩⟩
  ·
   refine FW.condF rfl c59 ?_
   refine FW.skip (FW.seq (FW.region ?_))
   refine FL.v (E.move k52) ?_
   refine FL.v (E.add rfl rfl) ?_
   refine FL.v (E.assign (v := Value.int .i64 (wr (s22 + 1))) rfl) ?_
   refine FL.nil (FW.seq (FW.seq (FW.region ?_)))
   refine FL.v (E.move k51) ?_
   refine FL.v (E.move k50) ?_
   obtain ⟨p60, cs61, pt62, l63, at64, rel65⟩ := p0.at (ix_nat hx22)
   obtain rfl := eTerm_open rel65
   refine FL.v (E.indexAddr te62 rfl rfl pt62) ?_
   refine FL.v (E.fieldAddr tf94_1 rfl) ?_
   refine FL.v (E.load rfl (run_load1 Try.isAgg3 ((at64.mono i47).now S46.sl) rfl)) ?_
   refine FL.v (E.move (v := Value.int .i64 (wr (s22 + 1))) rfl) ?_
   refine FL.v (E.neq rfl rfl) ?_
   refine FL.nil ?_
   rcases ifB hp with ⟨c66, hp⟩ | ⟨c66, hp⟩
   ·
    refine FW.condT rfl c66 ?_
    refine FW.seq (FW.region ?_)
    refine FL.v (E.assign (v := Value.int .i64 (-1)) rfl) ?_
    refine FL.nil ?_
    refine FW.ret ?_
    obtain rfl := Option.some.inj hp
    exact ⟨nofun, rfl, ⟨.inr rfl, res1 rfl rfl ⟨rfl, S46.back⟩⟩⟩
   ·
    refine FW.condF rfl c66 ?_
    refine FW.skip (FW.region ?_)
    refine FL.v (E.move (v := Value.int .i64 (wr (s22 + 1))) rfl) ?_
    refine FL.v (E.add rfl rfl) ?_
    refine FL.v (E.assign (v := Value.int .i64 (wr ((wr (s22 + 1)) + 1))) rfl) ?_
    refine FL.nil (FW.region ?_)
    refine FL.v (E.move k50) ?_
    refine FL.v (E.add rfl rfl) ?_
    refine FL.v (E.assign (v := Value.int .i64 (wr (((i22 : Nat) : Int) + 1))) rfl) ?_
    refine FL.nil ?_
    obtain rfl := Option.some.inj hp
    exact ⟨rfl, ⟨_, S46, i47, (nat_succ rfl (lt_of_get hx22) (p0.mono i47).le), k51, rfl⟩⟩
 ·
  clear hp hq
  rintro s22 f78 w77 ⟨H74, S75, i76, k79, k80, k81⟩
  refine FW.seq (FW.seq (FW.region ?_))
  refine FL.v (E.move k79) ?_
  refine FL.v (E.move k80) ?_
  refine FL.v (E.lenP te62 rfl p0) ?_
  refine FL.v (E.lss rfl rfl) ?_
  refine FL.nil ?_
  refine FW.condF rfl dlt_len ?_
  refine FW.exit ?_
  exact ⟨nofun, rfl, ⟨_, S75, i76, k81⟩⟩
 ·
  clear hq
  intro e f72 w71 hD
  rcases q22 with s22 | x22
  ·
   obtain ⟨rfl, hD⟩ := hD
   obtain ⟨H68, S69, i70, k73⟩ := hD
   replace hp := el_go hp
   refine FW.seq (FW.region ?_)
   refine FL.v (E.move k73) ?_
   refine FL.v (E.assign (v := Value.int .i64 s22) rfl) ?_
   refine FL.nil ?_
   refine FW.ret ?_
   obtain rfl := Option.some.inj hp
   exact ⟨.inr rfl, res1 rfl rfl ⟨rfl, S69.back⟩⟩
  ·
   obtain ⟨he, hL⟩ := hD
   replace hp := el_rt hp
   obtain rfl := Option.some.inj hp
   subst he
   exact hL

theorem w_laws_heldTermSS {Ha : GH} {wa : World} (hs : Sl Ha wa) (v0 : Value) (a0 : List (List Term)) (p0 : RSl Ha (eL eTerm 2) 1 v0 a0) (a1 : Int) {r : Int} (hp : (PF.laws_heldTermSS a0 a1) = some r) :
  Calls Try.prog 12 #[v0, Value.int .i64 a1] wa (Sc Ha wa (Value.int .i64 r)) := by
 unfold PF.laws_heldTermSS at hp
 have S0 := St.init hs
 refine calls_go (N := 21) (args := [v0, Value.int .i64 a1]) Try.func12 rfl rfl rfl ?_
 refine FW.seq (FW.region ?_)
 refine FL.v (E.assign (v := Value.int .i64 0) rfl) ?_
 refine FL.nil (FW.seq (FW.seq (FW.region ?_)))
 refine FL.v (E.assign (v := Value.int .i64 0) rfl) ?_
 refine FL.nil ?_
 obtain ⟨q22, hq, hp⟩ := bndR hp
 refine FW.block ?_
 refine FW.mono (FW.forL (S := Int) (X := Int) (fun (i22 : Nat) (s22 : Int) f w => ∃ H : GH, St Ha wa H w [] ∧ Inc Ha H ∧ f 5 = Value.int .i64 ((i22 : Nat) : Int) ∧ f 0 = v0 ∧ f 1 = Value.int .i64 s22) (fun q e f w => match q with | .go s22 => e = Exit.exit 0 ∧ (∃ H : GH, St Ha wa H w [] ∧ Inc Ha H ∧ f 1 = Value.int .i64 s22) | .rt x => ((e = Exit.ret) ∧ (fun e f w => (e = Exit.normal ∨ e = Exit.ret) ∧ ∀ a, Fr (δ := []) 21 a f → ∃ v, (results Try.f12 a.tmps).run Try.prog w = .ok v w ∧ (Sc Ha wa (Value.int .i64 x)) (.returned v) w) e f w)) hq ⟨_, S0, (Inc.rfl _), rfl, rfl, rfl⟩ ?_ ?_) ?_
 ·
  clear hp hq
  rintro i22 y21 s22 f49 w48 ⟨H45, S46, i47, k50, k51, k52⟩ hx22 o67 hp
  refine FW.seq (FW.seq (FW.region ?_))
  refine FL.v (E.move k50) ?_
  refine FL.v (E.move k51) ?_
  refine FL.v (E.lenP te26 rfl p0) ?_
  refine FL.v (E.lssT rfl rfl (lss_len hx22)) ?_
  refine FL.nil ?_
  refine FW.condT rfl rfl ?_
  refine FW.skip (FW.seq (FW.block (FW.seq (FW.region ?_))))
  refine FL.v (E.move k51) ?_
  refine FL.v (E.move k50) ?_
  obtain ⟨p53, cs54, pt55, l56, at57, rel58⟩ := p0.at (ix_nat hx22)
  obtain ⟨v59, rfl, h60⟩ := eL_open rel58
  refine FL.v (E.indexAddr te26 rfl rfl pt55) ?_
  refine FL.v (E.load rfl (run_load0 Try.isAgg62 ((at57.mono i47).now S46.sl) rfl)) ?_
  refine FL.v (E.move k52) ?_
  obtain ⟨r61, hr62, hp⟩ := bnd hp
  refine FL.call rfl rfl rfl (E.call Try.call31 (A2 rfl rfl)) (w_laws_heldTermS S46.sl v59 y21 (h60.mono i47) s22 hr62) ?_
  rintro e w63 ⟨rfl, r64⟩
  refine ⟨_, rfl, ?_⟩
  have S65 := S46.call r64
  refine FL.v (E.assign (v := Value.int .i64 r61) rfl) ?_
  refine FL.nil (FW.seq (FW.region ?_))
  refine FL.v (E.move (v := Value.int .i64 r61) rfl) ?_
  refine FL.v (E.lss rfl rfl) ?_
  refine FL.nil ?_
  rcases ifB hp with ⟨c66, hp⟩ | ⟨c66, hp⟩
  ·
   refine FW.condT rfl c66 ?_
   refine FW.seq (FW.region ?_)
   refine FL.v (E.assign (v := Value.int .i64 (-1)) rfl) ?_
   refine FL.nil ?_
   refine FW.ret ?_
   obtain rfl := Option.some.inj hp
   exact ⟨nofun, rfl, ⟨.inr rfl, res1 rfl rfl ⟨rfl, S65.back⟩⟩⟩
  ·
   refine FW.condF rfl c66 ?_
   refine FW.skip (FW.region ?_)
   refine FL.v (E.move k50) ?_
   refine FL.v (E.add rfl rfl) ?_
   refine FL.v (E.assign (v := Value.int .i64 (wr (((i22 : Nat) : Int) + 1))) rfl) ?_
   refine FL.nil ?_
   obtain rfl := Option.some.inj hp
   exact ⟨rfl, ⟨_, S65, i47, (nat_succ rfl (lt_of_get hx22) (p0.mono i47).le), k51, rfl⟩⟩
 ·
  clear hp hq
  rintro s22 f78 w77 ⟨H74, S75, i76, k79, k80, k81⟩
  refine FW.seq (FW.seq (FW.region ?_))
  refine FL.v (E.move k79) ?_
  refine FL.v (E.move k80) ?_
  refine FL.v (E.lenP te26 rfl p0) ?_
  refine FL.v (E.lss rfl rfl) ?_
  refine FL.nil ?_
  refine FW.condF rfl dlt_len ?_
  refine FW.exit ?_
  exact ⟨nofun, rfl, ⟨_, S75, i76, k81⟩⟩
 ·
  clear hq
  intro e f72 w71 hD
  rcases q22 with s22 | x22
  ·
   obtain ⟨rfl, hD⟩ := hD
   obtain ⟨H68, S69, i70, k73⟩ := hD
   replace hp := el_go hp
   refine FW.seq (FW.region ?_)
   refine FL.v (E.move k73) ?_
   refine FL.v (E.assign (v := Value.int .i64 s22) rfl) ?_
   refine FL.nil ?_
   refine FW.ret ?_
   obtain rfl := Option.some.inj hp
   exact ⟨.inr rfl, res1 rfl rfl ⟨rfl, S69.back⟩⟩
  ·
   obtain ⟨he, hL⟩ := hD
   replace hp := el_rt hp
   obtain rfl := Option.some.inj hp
   subst he
   exact hL

end Go.Proofs
