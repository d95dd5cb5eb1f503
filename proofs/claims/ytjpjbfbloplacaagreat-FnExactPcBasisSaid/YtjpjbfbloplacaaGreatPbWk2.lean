/- Part of the walks and plain laws behind the claim: it proves helpers, under no condition beyond their own. -/
import Derived.Test.YtjpjbfbloplacaaGreatPbWk1
set_option linter.unusedVariables false
set_option maxRecDepth 100000
namespace Go.Proofs
open Go.Mr Go.Pu Go.PF Go.RowKit

@[reducible] def p_impl_ring_times (Ha : GH) (wa : World) (r : (List Int)) : Ending → World → Prop :=
  fun e w' => ∃ H' : GH, ∃ v0 : Value, ∃ n0 : Nat, ∃ c0 : List Value, e = .returned (v0) ∧ St Ha wa H' w' [.row 3 1 v0 n0 c0] ∧ Els (up wa.heap.size H') eI 1 c0 r
theorem w_impl_ring_times {Ha : GH} {wa : World} (hs : Sl Ha wa) (a0 : ring) (v1 : Value) (a1 : List Int) (p1 : RSl Ha eI 1 v1 a1) (v2 : Value) (a2 : List Int) (p2 : RSl Ha eI 1 v2 a2) {r : (List Int)} (hp : (PF.impl_ring_times a0 a1 a2) = some r) :
    Calls Tryz.prog 124 #[Value.agg #[Value.int .i64 a0.p, Value.int .i64 a0.vars], v1, v2] wa (p_impl_ring_times Ha wa r) := by
  unfold PF.impl_ring_times at hp
  have S0 := St.init hs
  refine calls_go (N := 49) (args := [Value.agg #[Value.int .i64 a0.p, Value.int .i64 a0.vars], v1, v2]) Tryz.func124 rfl rfl rfl ?_
  refine FW.seq (FW.region ?_)
  obtain ⟨b21, w22, run23, S24⟩ := S0.box (P := Tryz.prog) 102 [Value.int .i64 a0.p, Value.int .i64 a0.vars] (v := Value.agg #[Value.int .i64 a0.p, Value.int .i64 a0.vars]) rfl (ones_cons rfl (ones_cons rfl ones_nil))
  refine FL.v (E.box rfl run23) ?_
  obtain ⟨H25, S26, i27, at28⟩ := S24.sealBox (i := 0) (l' := []) rfl rfl
  refine FL.v (E.assign (v := Value.slice none 0 0) rfl) ?_
  refine FL.nil (FW.seq (FW.region ?_))
  refine FL.v (E.load rfl (run_loadA Tryz.isAgg102 Tryz.sizeOf102 (at28.now S26.sl) rfl)) ?_
  obtain ⟨r29, hr30, hp⟩ := bnd hp
  refine FL.call rfl rfl rfl (E.call Tryz.call165 (A1 rfl)) (w_impl_ring_zero S26.sl a0 hr30) ?_
  rintro e w32 ⟨H31, v35, n36, cs37, rfl, r34, els38⟩
  refine ⟨_, rfl, ?_⟩
  have els38 := els38.mono (up_le S26.size)
  have S33 := S26.join (l' := [.row 3 1 v35 n36 cs37]) r34 rfl
  refine FL.v (E.assign (v := v35) rfl) ?_
  refine FL.nil (FW.seq (FW.seq (FW.region ?_)))
  refine FL.v (E.move (v := v1) rfl) ?_
  refine FL.v (E.lenP te99 rfl p1) ?_
  refine FL.v (E.move (v := Value.int .i64 0) rfl) ?_
  refine FL.nil ?_
  obtain ⟨q40, hq, hp⟩ := bndR hp
  refine FW.block ?_
  refine FW.mono (FW.forL (S := (List Int)) (X := Empty) (fun (i40 : Nat) (s40 : (List Int)) f w => ∃ H : GH, ∃ v41 : Value, ∃ n42 : Nat, ∃ cs43 : List Value, St Ha wa H w [.row 3 1 v41 n42 cs43] ∧ Inc H31 H ∧ Els (up wa.heap.size H) eI 1 cs43 s40 ∧ f 16 = Value.int .i64 ((i40 : Nat) : Int) ∧ f 2 = v2 ∧ f 3 = Value.pointer (some ⟨b21, 0, none⟩) ∧ f 7 = v41 ∧ f 14 = v1 ∧ f 15 = Value.int .i64 (len a1)) (fun (q : Rs (List Int) Empty) e f w => match q with | .go s40 => e = Exit.exit 0 ∧ (∃ H : GH, ∃ v41 : Value, ∃ n42 : Nat, ∃ cs43 : List Value, St Ha wa H w [.row 3 1 v41 n42 cs43] ∧ Inc H31 H ∧ Els (up wa.heap.size H) eI 1 cs43 s40 ∧ f 7 = v41) | .rt x => x.elim) hq ⟨_, _, _, _, S33, (Inc.rfl _), els38, rfl, rfl, rfl, rfl, rfl, rfl⟩ ?_ ?_) ?_
  ·
    clear hp hq
    rintro i40 y39 s40 f49 w48 ⟨H45, v41, n42, cs43, S46, i47, els44, k50, k51, k52, k53, k54, k55⟩ hx40 o171 hp
    refine FW.seq (FW.region ?_)
    refine FL.v (E.lssT k50 k55 (lss_len hx40)) ?_
    refine FL.nil (FW.seq ?_)
    refine FW.condT rfl rfl ?_
    refine FW.skip (FW.seq (FW.block (FW.seq (FW.region ?_))))
    refine FL.v (E.move k50) ?_
    obtain ⟨p56, cs57, pt58, l59, at60, rel61⟩ := p1.at (ix_nat hx40)
    obtain rfl := eI_open rel61
    refine FL.v (E.indexAddr te99 k54 k50 pt58) ?_
    refine FL.v (E.load rfl (run_load0 Tryz.isAgg3 ((at60.mono ((i27.tr r34.run.inc).tr i47)).now S46.sl) rfl)) ?_
    refine FL.v (E.assign (v := Value.int .i64 ((i40 : Nat) : Int)) rfl) ?_
    refine FL.v (E.assign (v := Value.int .i64 y39) rfl) ?_
    refine FL.nil (FW.seq (FW.region ?_))
    refine FL.v (E.move k51) ?_
    refine FL.v (E.lenP te99 rfl p2) ?_
    refine FL.v (E.move (v := Value.int .i64 0) rfl) ?_
    refine FL.nil ?_
    obtain ⟨q63, hq, hp⟩ := bndR hp
    refine FW.block ?_
    refine FW.mono (FW.forL (S := (List Int)) (X := Empty) (fun (i63 : Nat) (s63 : (List Int)) f w => ∃ H : GH, ∃ v64 : Value, ∃ n65 : Nat, ∃ cs66 : List Value, St Ha wa H w [.row 3 1 v64 n65 cs66] ∧ Inc H45 H ∧ Els (up wa.heap.size H) eI 1 cs66 s63 ∧ f 23 = Value.int .i64 ((i63 : Nat) : Int) ∧ f 2 = v2 ∧ f 3 = Value.pointer (some ⟨b21, 0, none⟩) ∧ f 7 = v64 ∧ f 8 = Value.int .i64 ((i40 : Nat) : Int) ∧ f 9 = Value.int .i64 y39 ∧ f 14 = v1 ∧ f 15 = Value.int .i64 (len a1) ∧ f 16 = Value.int .i64 ((i40 : Nat) : Int) ∧ f 21 = v2 ∧ f 22 = Value.int .i64 (len a2)) (fun (q : Rs (List Int) Empty) e f w => match q with | .go s63 => e = Exit.exit 2 ∧ (∃ H : GH, ∃ v64 : Value, ∃ n65 : Nat, ∃ cs66 : List Value, St Ha wa H w [.row 3 1 v64 n65 cs66] ∧ Inc H45 H ∧ Els (up wa.heap.size H) eI 1 cs66 s63 ∧ f 2 = v2 ∧ f 3 = Value.pointer (some ⟨b21, 0, none⟩) ∧ f 7 = v64 ∧ f 14 = v1 ∧ f 15 = Value.int .i64 (len a1) ∧ f 16 = Value.int .i64 ((i40 : Nat) : Int)) | .rt x => x.elim) hq ⟨_, _, _, _, S46, (Inc.rfl _), els44, rfl, k51, k52, k53, rfl, rfl, k54, k55, k50, rfl, rfl⟩ ?_ ?_) ?_
    ·
      clear hp hq
      rintro i63 y62 s63 f72 w71 ⟨H68, v64, n65, cs66, S69, i70, els67, k73, k74, k75, k76, k77, k78, k79, k80, k81, k82, k83⟩ hx63 o143 hp
      refine FW.seq (FW.region ?_)
      refine FL.v (E.lssT k73 k83 (lss_len hx63)) ?_
      refine FL.nil (FW.seq ?_)
      refine FW.condT rfl rfl ?_
      refine FW.skip (FW.seq (FW.block (FW.seq (FW.region ?_))))
      refine FL.v (E.move k73) ?_
      obtain ⟨p84, cs85, pt86, l87, at88, rel89⟩ := p2.at (ix_nat hx63)
      obtain rfl := eI_open rel89
      refine FL.v (E.indexAddr te99 k82 k73 pt86) ?_
      refine FL.v (E.load rfl (run_load0 Tryz.isAgg3 ((at88.mono (((i27.tr r34.run.inc).tr i47).tr i70)).now S69.sl) rfl)) ?_
      refine FL.v (E.assign (v := Value.int .i64 ((i63 : Nat) : Int)) rfl) ?_
      refine FL.v (E.assign (v := Value.int .i64 y62) rfl) ?_
      refine FL.nil ?_
      obtain ⟨x100, hx101, hp⟩ := bnd hp
      obtain ⟨u105, z104, hp⟩ := bnd hp
      obtain ⟨x112, hx113, hp⟩ := bnd hp
      obtain ⟨xs118, hput119, hp⟩ := bnd hp
      refine FW.drawB (Sl H68) (fun f w => ∃ H : GH, ∃ v123 : Value, ∃ n124 : Nat, ∃ cs125 : List Value, St Ha wa H w [.row 3 1 v123 n124 cs125] ∧ Inc H68 H ∧ Els (up wa.heap.size H) eI 1 cs125 xs118 ∧ f 2 = v2 ∧ f 3 = Value.pointer (some ⟨b21, 0, none⟩) ∧ f 7 = v123 ∧ f 8 = Value.int .i64 ((i40 : Nat) : Int) ∧ f 9 = Value.int .i64 y39 ∧ f 14 = v1 ∧ f 15 = Value.int .i64 (len a1) ∧ f 16 = Value.int .i64 ((i40 : Nat) : Int) ∧ f 21 = v2 ∧ f 22 = Value.int .i64 (len a2) ∧ f 23 = Value.int .i64 ((i63 : Nat) : Int)) (by kernel_rfl) S69.sl ?_ ?_
      ·
        intro w90 r91
        have S92 := S69.call r91
        refine FB.t (i := 0) (bs 19 1) rfl (SP.nil S92.sl) rfl (fun w' hw' => (E.move k76)) ?_
        refine FB.t (i := 1) (bs 19 3) rfl (SP.nil S92.sl) rfl (fun w' hw' => (E.move k77)) ?_
        refine FB.t (i := 2) (bs 19 7) rfl (SP.nil S92.sl) rfl (fun w' hw' => (E.move (v := Value.int .i64 ((i63 : Nat) : Int)) rfl)) ?_
        refine FB.t (i := 3) (bs 19 15) rfl (SP.nil S92.sl) rfl (fun w' hw' => (E.or rfl rfl)) ?_
        refine FB.t (i := 4) (bs 19 31) rfl (SP.nil S92.sl) rfl (fun w' hw' => (E.move k76)) ?_
        refine FB.t (i := 5) (bs 19 63) rfl (SP.nil S92.sl) rfl (fun w' hw' => (E.move k77)) ?_
        refine FB.t (i := 6) (bs 19 127) rfl (SP.nil S92.sl) rfl (fun w' hw' => (E.move (v := Value.int .i64 ((i63 : Nat) : Int)) rfl)) ?_
        refine FB.t (i := 7) (bs 19 255) rfl (SP.nil S92.sl) rfl (fun w' hw' => (E.or rfl rfl)) ?_
        obtain ⟨p93, cs94, pt95, l96, at97, rel98, hall103⟩ := S92.row_atA (i := 0) rfl els67 (by decide) hx101
        obtain rfl := eI_open rel98
        refine FB.t (i := 8) (bs 19 511) rfl (SP.nil S92.sl) rfl (fun w' hw' => (E.indexAddr te99 rfl rfl pt95)) ?_
        refine FB.phase [18] (fun w' => WAt w' p93 [Value.int .i64 x100]) ?_
        refine FB.p (i := 9) (bs 19 1023) 0 [13, 16, 17, 18] rfl (SP.on (hall103 _ _ _ 0 S92 rfl) (SP.nil S92.sl)) rfl rfl (fun w' hw' => (E.load rfl (run_load0 Tryz.isAgg3 hw' rfl))) ?_
        refine FB.t (i := 10) (bs 19 2047) rfl (SP.on (hall103 _ _ _ 0 S92 rfl) (SP.nil S92.sl)) rfl (fun w' hw' => (E.move k78)) ?_
        refine FB.t (i := 11) (bs 19 4095) rfl (SP.on (hall103 _ _ _ 0 S92 rfl) (SP.nil S92.sl)) rfl (fun w' hw' => (E.move (v := Value.int .i64 y62) rfl)) ?_
        refine FB.t (i := 12) (bs 19 8191) rfl (SP.on (hall103 _ _ _ 0 S92 rfl) (SP.nil S92.sl)) rfl (fun w' hw' => (E.mul rfl rfl)) ?_
        refine FB.t (i := 13) (bs 19 16383) rfl (SP.on (hall103 _ _ _ 0 S92 rfl) (SP.nil S92.sl)) rfl (fun w' hw' => (E.add rfl rfl)) ?_
        refine FB.t (i := 14) (bs 19 32767) rfl (SP.on (hall103 _ _ _ 0 S92 rfl) (SP.nil S92.sl)) rfl (fun w' hw' => (E.fieldAddr tf102_0 k75)) ?_
        refine FB.t (i := 15) (bs 19 65535) rfl (SP.on (hall103 _ _ _ 0 S92 rfl) (SP.nil S92.sl)) rfl (fun w' hw' => (E.load rfl (run_load1 Tryz.isAgg3 ((at28.mono ((r34.run.inc.tr i47).tr i70)).now hw') rfl))) ?_
        refine FB.t (i := 16) (bs 19 131071) rfl (SP.on (hall103 _ _ _ 0 S92 rfl) (SP.nil S92.sl)) rfl (fun w' hw' => (E.rem rfl rfl (nz_ne z104))) ?_
        obtain ⟨p106, cs107, pt108, l109, at110, rel111, hall114⟩ := S92.row_atA (i := 0) rfl els67 (by decide) hx113
        obtain rfl := eI_open rel111
        refine FB.t (i := 17) (bs 19 262143) rfl (SP.on (hall103 _ _ _ 0 S92 rfl) (SP.nil S92.sl)) rfl (fun w' hw' => (E.indexAddr te99 rfl rfl pt108)) ?_
        refine FB.all1 (i := 18) (by kernel_rfl) ?_
        ·
          obtain ⟨w115, cs121, run116, S117, els120, ce122⟩ := S92.putEls (P := Tryz.prog) (t := 3) (i := 0) rfl els67 hput119 pt108 Tryz.sizeOf3 (u := Value.int .i64 ((wr (x100 + (wr (y39 * y62)))).tmod a0.p)) (c := [Value.int .i64 ((wr (x100 + (wr (y39 * y62)))).tmod a0.p)]) rfl rfl (ones_cons rfl ones_nil) rfl
          have S117 : St Ha wa H68 w115 [.row 3 1 v64 n65 cs121] := S117
          refine FC.act (l' := (bs 19 524287)) rfl (by kernel_rfl) rfl rfl (E.store rfl rfl run116) ?_
          refine ⟨(SP.o (SP.nil S117.sl)), ?_⟩
          exact FB.done (by kernel_rfl) ⟨_, _, _, _, S117, (Inc.rfl _), els120, k74, k75, k76, k77, k78, k79, k80, k81, k82, k83, k73⟩
      ·
        rintro f131 w130 ⟨H127, v123, n124, cs125, S128, i129, els126, k132, k133, k134, k135, k136, k137, k138, k139, k140, k141, k142⟩
        refine FW.region ?_
        refine FL.v (E.add k142 rfl) ?_
        refine FL.v (E.move (v := Value.int .i64 (wr (((i63 : Nat) : Int) + 1))) rfl) ?_
        refine FL.nil ?_
        obtain rfl := Option.some.inj hp
        exact ⟨rfl, ⟨_, _, _, _, S128, (i70.tr i129), els126, (nat_succ rfl (lt_of_get hx63) (p2.mono ((((i27.tr r34.run.inc).tr i47).tr i70).tr i129)).le), k132, k133, k134, k135, k136, k137, k138, k139, k140, k141⟩⟩
    ·
      clear hp hq
      rintro s63 f159 w158 ⟨H155, v64, n65, cs66, S156, i157, els67, k160, k161, k162, k163, k164, k165, k166, k167, k168, k169, k170⟩
      refine FW.seq (FW.region ?_)
      refine FL.v (E.lss k160 k170) ?_
      refine FL.nil (FW.seq ?_)
      refine FW.condF rfl dlt_len ?_
      refine FW.exit ?_
      exact ⟨nofun, rfl, ⟨_, _, _, _, S156, i157, els67, k161, k162, k163, k166, k167, k168⟩⟩
    ·
      clear hq
      intro e f148 w147 hD
      rcases q63 with s63 | x63
      ·
        obtain ⟨rfl, hD⟩ := hD
        obtain ⟨H144, v64, n65, cs66, S145, i146, els67, k149, k150, k151, k152, k153, k154⟩ := hD
        replace hp := el_go hp
        refine FW.region ?_
        refine FL.v (E.add k154 rfl) ?_
        refine FL.v (E.move (v := Value.int .i64 (wr (((i40 : Nat) : Int) + 1))) rfl) ?_
        refine FL.nil ?_
        obtain rfl := Option.some.inj hp
        exact ⟨rfl, ⟨_, _, _, _, S145, (i47.tr i146), els67, (nat_succ rfl (lt_of_get hx40) (p1.mono (((i27.tr r34.run.inc).tr i47).tr i146)).le), k149, k150, k151, k152, k153⟩⟩
      · exact x63.elim
  ·
    clear hp hq
    rintro s40 f182 w181 ⟨H178, v41, n42, cs43, S179, i180, els44, k183, k184, k185, k186, k187, k188⟩
    refine FW.seq (FW.region ?_)
    refine FL.v (E.lss k183 k188) ?_
    refine FL.nil (FW.seq ?_)
    refine FW.condF rfl dlt_len ?_
    refine FW.exit ?_
    exact ⟨nofun, rfl, ⟨_, _, _, _, S179, i180, els44, k186⟩⟩
  ·
    clear hq
    intro e f176 w175 hD
    rcases q40 with s40 | x40
    ·
      obtain ⟨rfl, hD⟩ := hD
      obtain ⟨H172, v41, n42, cs43, S173, i174, els44, k177⟩ := hD
      replace hp := el_go hp
      refine FW.seq (FW.region ?_)
      refine FL.v (E.move k177) ?_
      refine FL.v (E.assign (v := v41) rfl) ?_
      refine FL.nil ?_
      refine FW.ret ?_
      obtain rfl := Option.some.inj hp
      exact ⟨.inr rfl, res1 rfl rfl ⟨_, _, _, _, rfl, S173, els44⟩⟩
    · exact x40.elim

@[reducible] def p_impl_ring_clause (Ha : GH) (wa : World) (r : (List Int)) : Ending → World → Prop :=
  fun e w' => ∃ H' : GH, ∃ v0 : Value, ∃ n0 : Nat, ∃ c0 : List Value, e = .returned (v0) ∧ St Ha wa H' w' [.row 3 1 v0 n0 c0] ∧ Els (up wa.heap.size H') eI 1 c0 r
theorem w_impl_ring_clause {Ha : GH} {wa : World} (hs : Sl Ha wa) (a0 : ring) (v1 : Value) (a1 : List Int) (p1 : RSl Ha eI 1 v1 a1) {r : (List Int)} (hp : (PF.impl_ring_clause a0 a1) = some r) :
    Calls Tryz.prog 68 #[Value.agg #[Value.int .i64 a0.p, Value.int .i64 a0.vars], v1] wa (p_impl_ring_clause Ha wa r) := by
  unfold PF.impl_ring_clause at hp
  have S0 := St.init hs
  refine calls_go (N := 25) (args := [Value.agg #[Value.int .i64 a0.p, Value.int .i64 a0.vars], v1]) Tryz.func68 rfl rfl rfl ?_
  refine FW.seq (FW.region ?_)
  obtain ⟨b21, w22, run23, S24⟩ := S0.box (P := Tryz.prog) 102 [Value.int .i64 a0.p, Value.int .i64 a0.vars] (v := Value.agg #[Value.int .i64 a0.p, Value.int .i64 a0.vars]) rfl (ones_cons rfl (ones_cons rfl ones_nil))
  refine FL.v (E.box rfl run23) ?_
  obtain ⟨H25, S26, i27, at28⟩ := S24.sealBox (i := 0) (l' := []) rfl rfl
  refine FL.v (E.assign (v := Value.slice none 0 0) rfl) ?_
  refine FL.nil (FW.seq (FW.region ?_))
  refine FL.v (E.load rfl (run_loadA Tryz.isAgg102 Tryz.sizeOf102 (at28.now S26.sl) rfl)) ?_
  obtain ⟨r29, hr30, hp⟩ := bnd hp
  refine FL.call rfl rfl rfl (E.call Tryz.call123 (A2 rfl rfl)) (w_impl_ring_mono S26.sl a0 0 hr30) ?_
  rintro e w32 ⟨H31, v35, n36, cs37, rfl, r34, els38⟩
  refine ⟨_, rfl, ?_⟩
  have els38 := els38.mono (up_le S26.size)
  have S33 := S26.join (l' := [.row 3 1 v35 n36 cs37]) r34 rfl
  refine FL.v (E.assign (v := v35) rfl) ?_
  refine FL.nil (FW.seq (FW.seq (FW.region ?_)))
  refine FL.v (E.move (v := v1) rfl) ?_
  refine FL.v (E.lenP te73 rfl p1) ?_
  refine FL.v (E.move (v := Value.int .i64 0) rfl) ?_
  refine FL.nil ?_
  obtain ⟨q40, hq, hp⟩ := bndR hp
  refine FW.block ?_
  refine FW.mono (FW.forL (S := (List Int)) (X := Empty) (fun (i40 : Nat) (s40 : (List Int)) f w => ∃ H : GH, ∃ v41 : Value, ∃ n42 : Nat, ∃ cs43 : List Value, St Ha wa H w [.row 3 1 v41 n42 cs43] ∧ Inc H31 H ∧ Els (up wa.heap.size H) eI 1 cs43 s40 ∧ f 12 = Value.int .i64 ((i40 : Nat) : Int) ∧ f 2 = Value.pointer (some ⟨b21, 0, none⟩) ∧ f 5 = v41 ∧ f 10 = v1 ∧ f 11 = Value.int .i64 (len a1)) (fun (q : Rs (List Int) Empty) e f w => match q with | .go s40 => e = Exit.exit 0 ∧ (∃ H : GH, ∃ v41 : Value, ∃ n42 : Nat, ∃ cs43 : List Value, St Ha wa H w [.row 3 1 v41 n42 cs43] ∧ Inc H31 H ∧ Els (up wa.heap.size H) eI 1 cs43 s40 ∧ f 5 = v41) | .rt x => x.elim) hq ⟨_, _, _, _, S33, (Inc.rfl _), els38, rfl, rfl, rfl, rfl, rfl⟩ ?_ ?_) ?_
  ·
    clear hp hq
    rintro i40 y39 s40 f49 w48 ⟨H45, v41, n42, cs43, S46, i47, els44, k50, k51, k52, k53, k54⟩ hx40 o111 hp
    refine FW.seq (FW.region ?_)
    refine FL.v (E.lssT k50 k54 (lss_len hx40)) ?_
    refine FL.nil (FW.seq ?_)
    refine FW.condT rfl rfl ?_
    refine FW.skip (FW.seq (FW.block (FW.seq (FW.region ?_))))
    obtain ⟨p55, cs56, pt57, l58, at59, rel60⟩ := p1.at (ix_nat hx40)
    obtain rfl := eI_open rel60
    refine FL.v (E.indexAddr te73 k53 k50 pt57) ?_
    refine FL.v (E.load rfl (run_load0 Tryz.isAgg3 ((at59.mono ((i27.tr r34.run.inc).tr i47)).now S46.sl) rfl)) ?_
    refine FL.v (E.assign (v := Value.int .i64 y39) rfl) ?_
    refine FL.nil ?_
    obtain ⟨r64, hr65, hp⟩ := bnd hp
    obtain ⟨r85, hr86, hp⟩ := bnd hp
    refine FW.drawB (Sl H45) (fun f w => ∃ H : GH, ∃ v97 : Value, ∃ n98 : Nat, ∃ cs99 : List Value, St Ha wa H w [.row 3 1 v97 n98 cs99] ∧ Inc H45 H ∧ Els (up wa.heap.size H) eI 1 cs99 r85 ∧ f 2 = Value.pointer (some ⟨b21, 0, none⟩) ∧ f 5 = v97 ∧ f 10 = v1 ∧ f 11 = Value.int .i64 (len a1) ∧ f 12 = Value.int .i64 ((i40 : Nat) : Int)) (by kernel_rfl) S46.sl ?_ ?_
    ·
      intro w61 r62
      have S63 := S46.call r62
      refine FB.t (i := 0) (bs 8 1) rfl (SP.nil S63.sl) rfl (fun w' hw' => (E.load k51 (run_loadA Tryz.isAgg102 Tryz.sizeOf102 ((at28.mono (r34.run.inc.tr i47)).now hw') rfl))) ?_
      refine FB.t (i := 1) (bs 8 3) rfl (SP.nil S63.sl) rfl (fun w' hw' => (E.move k52)) ?_
      refine FB.t (i := 2) (bs 8 7) rfl (SP.nil S63.sl) rfl (fun w' hw' => (E.load k51 (run_loadA Tryz.isAgg102 Tryz.sizeOf102 ((at28.mono (r34.run.inc.tr i47)).now hw') rfl))) ?_
      refine FB.t (i := 3) (bs 8 15) rfl (SP.nil S63.sl) rfl (fun w' hw' => (E.move (v := Value.int .i64 y39) rfl)) ?_
      refine FB.t (i := 4) (bs 8 31) rfl (SP.nil S63.sl) rfl (fun w' hw' => (E.neg rfl)) ?_
      refine FB.all1 (i := 5) (by kernel_rfl) ?_
      ·
        refine FC.call (l' := (bs 8 63)) rfl (by kernel_rfl) rfl rfl rfl (E.call Tryz.call125 (A2 rfl rfl)) (w_impl_ring_literal S63.sl a0 (wr (-y39)) hr65) ?_
        rintro e w67 ⟨H66, v70, n71, cs72, rfl, r69, els74⟩
        refine ⟨_, rfl, ?_⟩
        have els74 := els74.mono (up_le S63.size)
        have S68 := S63.join (l' := [.row 3 1 v70 n71 cs72, .row 3 1 v41 n42 cs43]) r69 rfl
        refine ⟨(SP.nil (Sl.of_inc r69.run.inc S68.sl)), ?_⟩
        refine FB.all1 (i := 6) (by kernel_rfl) ?_
        ·
          obtain ⟨H75, S76, i77, h78, nv79⟩ := S68.sealRowU (i := 1) (l' := [.row 3 1 v70 n71 cs72]) rfl (els44.mono (up_mono r69.run.inc)) (by decide) rfl
          obtain ⟨H80, S81, i82, h83, nv84⟩ := S76.sealRowU (i := 0) (l' := []) rfl (els74.mono (up_mono i77)) (by decide) rfl
          refine FC.call (l' := (bs 8 127)) rfl (by kernel_rfl) rfl rfl rfl (E.call Tryz.call124 (A3 rfl rfl rfl)) (w_impl_ring_times S81.sl a0 v41 s40 (h78.mono (upI.tr i82)) v70 r64 (h83.mono upI) hr86) ?_
          rintro e w88 ⟨H87, v93, n94, cs95, rfl, r90, els96⟩
          refine ⟨_, rfl, ?_⟩
          obtain ⟨H91, r90, hU92⟩ := St.lendX (i77.tr i82) S68.sl r90
          have els96 := els96.mono (hU92.tr (up_le S68.size))
          have S89 := S68.join (l' := [.row 3 1 v93 n94 cs95, .row 3 1 v70 n71 cs72, .row 3 1 v41 n42 cs43]) r90 rfl
          refine ⟨(SP.nil (Sl.of_inc (r69.run.inc.tr r90.run.inc) S89.sl)), ?_⟩
          refine FB.t (i := 7) (bs 8 255) rfl (SP.nil (Sl.of_inc (r69.run.inc.tr r90.run.inc) S89.sl)) rfl (fun w' hw' => (E.assign (v := v93) rfl)) ?_
          exact FB.done (by kernel_rfl) ⟨_, _, _, _, (S89.sel [0] (by decide) rfl), (r69.run.inc.tr r90.run.inc), els96, k51, rfl, k53, k54, k50⟩
    ·
      rintro f105 w104 ⟨H101, v97, n98, cs99, S102, i103, els100, k106, k107, k108, k109, k110⟩
      refine FW.region ?_
      refine FL.v (E.add k110 rfl) ?_
      refine FL.v (E.move (v := Value.int .i64 (wr (((i40 : Nat) : Int) + 1))) rfl) ?_
      refine FL.nil ?_
      obtain rfl := Option.some.inj hp
      exact ⟨rfl, ⟨_, _, _, _, S102, (i47.tr i103), els100, (nat_succ rfl (lt_of_get hx40) (p1.mono (((i27.tr r34.run.inc).tr i47).tr i103)).le), k106, k107, k108, k109⟩⟩
  ·
    clear hp hq
    rintro s40 f122 w121 ⟨H118, v41, n42, cs43, S119, i120, els44, k123, k124, k125, k126, k127⟩
    refine FW.seq (FW.region ?_)
    refine FL.v (E.lss k123 k127) ?_
    refine FL.nil (FW.seq ?_)
    refine FW.condF rfl dlt_len ?_
    refine FW.exit ?_
    exact ⟨nofun, rfl, ⟨_, _, _, _, S119, i120, els44, k125⟩⟩
  ·
    clear hq
    intro e f116 w115 hD
    rcases q40 with s40 | x40
    ·
      obtain ⟨rfl, hD⟩ := hD
      obtain ⟨H112, v41, n42, cs43, S113, i114, els44, k117⟩ := hD
      replace hp := el_go hp
      refine FW.seq (FW.region ?_)
      refine FL.v (E.move k117) ?_
      refine FL.v (E.assign (v := v41) rfl) ?_
      refine FL.nil ?_
      refine FW.ret ?_
      obtain rfl := Option.some.inj hp
      exact ⟨.inr rfl, res1 rfl rfl ⟨_, _, _, _, rfl, S113, els44⟩⟩
    · exact x40.elim

@[reducible] def p_impl_algebraOf (Ha : GH) (wa : World) (r : ((Option algebra) × Bool)) : Ending → World → Prop :=
  fun e w' => ∃ H' : GH, ∃ v0 : Value, e = .returned (Value.tuple #[v0, Value.bool r.2]) ∧ Run wa.heap.size Ha wa H' w' ∧ OP (fun (q : Addr) (x : algebra) => ∃ v0R_3 : Value, ∃ v0R_4 : Value, RSl H' (eL eI 1) 1 v0R_3 x.f.clauses ∧ (∃ c, Nest (up wa.heap.size H') (eL eI 1) 1 v0R_4 x.q c) ∧ CAt H' q [Value.int .i64 x.ring.p, Value.int .i64 x.ring.vars, Value.int .i64 x.f.vars, v0R_3, v0R_4]) v0 r.1
theorem w_impl_algebraOf {Ha : GH} {wa : World} (hs : Sl Ha wa) (a0 : Int) (a1 : Cnf) (v1_1 : Value) (p1_1 : RSl Ha (eL eI 1) 1 v1_1 a1.clauses) {r : ((Option algebra) × Bool)} (hp : (PF.impl_algebraOf a0 a1) = some r) :
    Calls Tryz.prog 65 #[Value.int .i64 a0, Value.agg #[Value.int .i64 a1.vars, v1_1]] wa (p_impl_algebraOf Ha wa r) := by
  unfold PF.impl_algebraOf at hp
  have S0 := St.init hs
  refine calls_go (N := 50) (args := [Value.int .i64 a0, Value.agg #[Value.int .i64 a1.vars, v1_1]]) Tryz.func65 rfl rfl rfl ?_
  refine FW.seq (FW.region ?_)
  obtain ⟨b21, w22, run23, S24⟩ := S0.box (P := Tryz.prog) 32 [Value.int .i64 a1.vars, v1_1] (v := Value.agg #[Value.int .i64 a1.vars, v1_1]) rfl (ones_cons rfl (ones_cons p1_1.one ones_nil))
  refine FL.v (E.box rfl run23) ?_
  obtain ⟨H25, S26, i27, at28⟩ := S24.sealBox (i := 0) (l' := []) rfl rfl
  refine FL.v (E.assign (v := Value.pointer none) rfl) ?_
  refine FL.v (E.assign (v := Value.bool false) rfl) ?_
  refine FL.nil (FW.seq (FW.region ?_))
  refine FL.v (E.move (v := Value.int .i64 a0) rfl) ?_
  refine FL.v (E.fieldAddr tf32_0 rfl) ?_
  refine FL.v (E.load rfl (run_load1 Tryz.isAgg3 (at28.now S26.sl) rfl)) ?_
  refine FL.call rfl rfl rfl (E.call Tryz.call119 (A2 rfl rfl)) (w_impl_ringOf S26.sl a0 a1.vars) ?_
  rintro e w29 ⟨rfl, r30⟩
  refine ⟨_, rfl, ?_⟩
  have S31 := S26.call r30
  refine FL.v (E.move (v := Value.tuple #[Value.agg #[Value.int .i64 (((PF.impl_ringOf a0 a1.vars).1).p), Value.int .i64 (((PF.impl_ringOf a0 a1.vars).1).vars)], Value.bool ((PF.impl_ringOf a0 a1.vars).2)]) rfl) ?_
  refine FL.v (E.extract (i := 0) rfl rfl) ?_
  refine FL.v (E.extract (i := 1) rfl rfl) ?_
  obtain ⟨b32, w33, run34, S35⟩ := S31.alloc (P := Tryz.prog) 102 [Value.int .i64 0, Value.int .i64 0] Tryz.zeroValue102 rfl (ones_cons rfl (ones_cons rfl ones_nil))
  refine FL.v (E.alloc run34) ?_
  obtain ⟨w36, run37, S38⟩ := S35.store0 (P := Tryz.prog) (t := 102) (i := 0) (cs' := [Value.int .i64 (((PF.impl_ringOf a0 a1.vars).1).p), Value.int .i64 (((PF.impl_ringOf a0 a1.vars).1).vars)]) (l' := [.box b32 102 [Value.int .i64 (((PF.impl_ringOf a0 a1.vars).1).p), Value.int .i64 (((PF.impl_ringOf a0 a1.vars).1).vars)]]) (v := Value.agg #[Value.int .i64 (((PF.impl_ringOf a0 a1.vars).1).p), Value.int .i64 (((PF.impl_ringOf a0 a1.vars).1).vars)]) (c := [Value.int .i64 (((PF.impl_ringOf a0 a1.vars).1).p), Value.int .i64 (((PF.impl_ringOf a0 a1.vars).1).vars)]) rfl Tryz.sizeOf102 rfl rfl (ones_cons rfl (ones_cons rfl ones_nil)) (Nat.le_of_ble_eq_true rfl) rfl rfl
  refine FL.act rfl rfl (E.store rfl rfl run37) ?_
  obtain ⟨H39, S40, i41, at42⟩ := S38.sealBox (i := 0) (l' := []) rfl rfl
  refine FL.v (E.assign (v := Value.bool ((PF.impl_ringOf a0 a1.vars).2)) rfl) ?_
  refine FL.nil (FW.seq (FW.seq (FW.region ?_)))
  refine FL.v (E.move (v := Value.bool ((PF.impl_ringOf a0 a1.vars).2)) rfl) ?_
  refine FL.v (E.not rfl) ?_
  refine FL.v (E.move (v := Value.bool (!((PF.impl_ringOf a0 a1.vars).2))) rfl) ?_
  obtain ⟨t48, hqt48, hp⟩ := bnd hp
  refine FL.cut 4 (fun f w => ∃ H : GH, St Ha wa H w [] ∧ Inc H39 H ∧ f 3 = Value.pointer (some ⟨b21, 0, none⟩) ∧ f 6 = Value.pointer (some ⟨b32, 0, none⟩) ∧ f 24 = Value.bool t48) ?_ ?_
  ·
    clear hp; have hp := hqt48; clear hqt48
    rcases ifB hp with ⟨c54, hp⟩ | ⟨c54, hp⟩
    ·
      refine FL.skip (wF_no rfl rfl rfl c54) rfl ?_
      refine FL.skip (wF_no rfl rfl rfl c54) rfl ?_
      refine FL.skip (wF_no rfl rfl rfl c54) rfl ?_
      obtain rfl := Option.some.inj hp
      refine FL.v (E.pickT rfl c54 rfl) ?_
      exact FL.nil ⟨rfl, _, S40, (Inc.rfl _), rfl, rfl, rfl⟩
    ·
      refine FL.val (wF_yes rfl rfl rfl c54) rfl rfl (E.load rfl (run_loadA Tryz.isAgg32 Tryz.sizeOf32 ((at28.mono i41).now S40.sl) rfl)) ?_
      obtain ⟨r55, hr56, hp⟩ := bnd hp
      refine FL.call (wF_yes rfl rfl rfl c54) rfl rfl (E.call Tryz.call120 (A1 rfl)) (w_impl_IsCnf S40.sl a1 v1_1 (p1_1.mono (i27.tr i41)) hr56) ?_
      rintro e w57 ⟨rfl, r58⟩
      refine ⟨_, rfl, ?_⟩
      have S59 := S40.call r58
      refine FL.val (wF_yes rfl rfl rfl c54) rfl rfl (E.not rfl) ?_
      obtain rfl := Option.some.inj hp
      refine FL.v (E.pickF rfl c54 rfl) ?_
      exact FL.nil ⟨rfl, _, S59, (Inc.rfl _), rfl, rfl, rfl⟩
  rintro f53 w52 ⟨H49, S50, i51, k60, k61, k62⟩
  refine FL.nil ?_
  rcases ifB hp with ⟨c63, hp⟩ | ⟨c63, hp⟩
  ·
    refine FW.condT k62 c63 ?_
    refine FW.seq (FW.region ?_)
    refine FL.v (E.assign (v := Value.pointer none) rfl) ?_
    refine FL.v (E.assign (v := Value.bool false) rfl) ?_
    refine FL.nil ?_
    refine FW.ret ?_
    obtain rfl := Option.some.inj hp
    exact ⟨.inr rfl, res2 rfl rfl rfl ⟨_, _, rfl, S50.run, rfl⟩⟩
  ·
    refine FW.condF k62 c63 ?_
    refine FW.skip (FW.seq (FW.region ?_))
    refine FL.v (E.load k61 (run_loadA Tryz.isAgg102 Tryz.sizeOf102 ((at42.mono i51).now S50.sl) rfl)) ?_
    refine FL.v (E.load k60 (run_loadA Tryz.isAgg32 Tryz.sizeOf32 ((at28.mono (i41.tr i51)).now S50.sl) rfl)) ?_
    refine FL.v (E.build (B2 rfl rfl) (run_build _ 105 #[(0, Value.agg #[Value.int .i64 (((PF.impl_ringOf a0 a1.vars).1).p), Value.int .i64 (((PF.impl_ringOf a0 a1.vars).1).vars)]), (1, Value.agg #[Value.int .i64 a1.vars, v1_1])] #[Value.int .i64 (((PF.impl_ringOf a0 a1.vars).1).p), Value.int .i64 (((PF.impl_ringOf a0 a1.vars).1).vars), Value.int .i64 a1.vars, v1_1, Value.slice none 0 0] (by obtain ⟨_, _, rfl⟩ := RSl.ln (p1_1.mono ((i27.tr i41).tr i51)); rfl))) ?_
    have S68 := S50.nil 99 1
    have els69 : Els (up wa.heap.size H49) (eL eI 1) 1 [] [] := Els.nil
    obtain ⟨b64, w65, run66, S67⟩ := S68.box (P := Tryz.prog) 105 [Value.int .i64 (((PF.impl_ringOf a0 a1.vars).1).p), Value.int .i64 (((PF.impl_ringOf a0 a1.vars).1).vars), Value.int .i64 a1.vars, v1_1, (Value.slice none 0 0)] (v := Value.agg #[Value.int .i64 (((PF.impl_ringOf a0 a1.vars).1).p), Value.int .i64 (((PF.impl_ringOf a0 a1.vars).1).vars), Value.int .i64 a1.vars, v1_1, Value.slice none 0 0]) rfl (ones_cons rfl (ones_cons rfl (ones_cons rfl (ones_cons p1_1.one (ones_cons (Ln.one (S68.row_ln (i := 0) rfl)) ones_nil)))))
    refine FL.v (E.box rfl run66) ?_
    refine FL.v (E.assign (v := Value.pointer (some (⟨b64, 0, none⟩ : Addr))) rfl) ?_
    refine FL.nil (FW.seq (FW.seq (FW.region ?_)))
    refine FL.v (E.fieldAddr tf32_1 k60) ?_
    refine FL.v (E.load rfl (run_load1 Tryz.isAgg22 ((at28.mono (i41.tr i51)).now S67.sl) rfl)) ?_
    refine FL.v (E.lenP te22 rfl p1_1) ?_
    refine FL.v (E.move (v := Value.int .i64 0) rfl) ?_
    refine FL.nil ?_
    obtain ⟨q71, hq, hp⟩ := bndR hp
    refine FW.block ?_
    refine FW.mono (FW.forL (S := ((List (List Int)) × Int × Int × Int × (List (List Int)))) (X := Empty) (fun (i71 : Nat) (s71 : ((List (List Int)) × Int × Int × Int × (List (List Int)))) f w => ∃ H : GH, ∃ v43 : Value, ∃ n44 : Nat, ∃ cs45 : List Value, ∃ v72 : Value, St Ha wa H w [.box b64 105 [Value.int .i64 s71.2.1, Value.int .i64 s71.2.2.1, Value.int .i64 s71.2.2.2.1, v72, v43], .row 99 1 v43 n44 cs45] ∧ Inc H49 H ∧ Els (up wa.heap.size H) (eL eI 1) 1 cs45 s71.1 ∧ RSl H (eL eI 1) 1 v72 s71.2.2.2.2 ∧ (bl cs45).Nodup ∧ f 32 = Value.int .i64 ((i71 : Nat) : Int) ∧ f 6 = Value.pointer (some ⟨b32, 0, none⟩) ∧ f 8 = Value.pointer (some (⟨b64, 0, none⟩ : Addr)) ∧ f 30 = v1_1 ∧ f 31 = Value.int .i64 (len a1.clauses)) (fun (q : Rs ((List (List Int)) × Int × Int × Int × (List (List Int))) Empty) e f w => match q with | .go s71 => e = Exit.exit 0 ∧ (∃ H : GH, ∃ v43 : Value, ∃ n44 : Nat, ∃ cs45 : List Value, ∃ v72 : Value, St Ha wa H w [.box b64 105 [Value.int .i64 s71.2.1, Value.int .i64 s71.2.2.1, Value.int .i64 s71.2.2.2.1, v72, v43], .row 99 1 v43 n44 cs45] ∧ Inc H49 H ∧ Els (up wa.heap.size H) (eL eI 1) 1 cs45 s71.1 ∧ RSl H (eL eI 1) 1 v72 s71.2.2.2.2 ∧ (bl cs45).Nodup ∧ f 8 = Value.pointer (some (⟨b64, 0, none⟩ : Addr))) | .rt x => x.elim) hq ⟨_, _, _, _, _, S67, (Inc.rfl _), els69, (p1_1.mono ((i27.tr i41).tr i51)), (show (bl []).Nodup from List.nodup_nil), rfl, k61, rfl, rfl, rfl⟩ ?_ ?_) ?_
    ·
      clear hp hq
      rintro i71 y70 s71 f78 w77 ⟨H74, v43, n44, cs45, v72, S75, i76, els46, h73, nd47, k79, k80, k81, k82, k83⟩ hx71 o150 hp
      refine FW.seq (FW.region ?_)
      refine FL.v (E.lssT k79 k83 (lss_len hx71)) ?_
      refine FL.nil (FW.seq ?_)
      refine FW.condT rfl rfl ?_
      refine FW.skip (FW.seq (FW.block (FW.seq (FW.region ?_))))
      obtain ⟨p84, cs85, pt86, l87, at88, rel89⟩ := p1_1.at (ix_nat hx71)
      obtain ⟨v90, rfl, h91⟩ := eL_open rel89
      refine FL.v (E.indexAddr te22 k82 k79 pt86) ?_
      refine FL.v (E.load rfl (run_load0 Tryz.isAgg73 ((at88.mono (((i27.tr i41).tr i51).tr i76)).now S75.sl) rfl)) ?_
      refine FL.v (E.assign (v := v90) rfl) ?_
      refine FL.nil ?_
      obtain ⟨r95, hr96, hp⟩ := bnd hp
      obtain ⟨xs118, hz119, hp⟩ := bnd hp
      refine FW.drawB (Sl H74) (fun f w => ∃ H : GH, ∃ v133 : Value, ∃ n134 : Nat, ∃ cs135 : List Value, ∃ v138 : Value, St Ha wa H w [.box b64 105 [Value.int .i64 s71.2.1, Value.int .i64 s71.2.2.1, Value.int .i64 s71.2.2.2.1, v138, v133], .row 99 1 v133 n134 cs135] ∧ Inc H74 H ∧ Els (up wa.heap.size H) (eL eI 1) 1 cs135 xs118 ∧ RSl H (eL eI 1) 1 v138 s71.2.2.2.2 ∧ (bl cs135).Nodup ∧ f 6 = Value.pointer (some ⟨b32, 0, none⟩) ∧ f 8 = Value.pointer (some (⟨b64, 0, none⟩ : Addr)) ∧ f 30 = v1_1 ∧ f 31 = Value.int .i64 (len a1.clauses) ∧ f 32 = Value.int .i64 ((i71 : Nat) : Int)) (by kernel_rfl) S75.sl ?_ ?_
      ·
        intro w92 r93
        have S94 := S75.call r93
        refine FB.phase [12] (fun w => WAt w (Addr.add ⟨b64, 0, none⟩ 4) [v43]) ?_
        refine FB.t (i := 0) (bs 13 1) rfl (SP.on ((S94.box_now (i := 0) rfl).sub (j := 4) (n := 1) (c := [v43]) rfl) (SP.nil S94.sl)) rfl (fun w' hw' => (E.move k81)) ?_
        refine FB.t (i := 1) (bs 13 3) rfl (SP.on ((S94.box_now (i := 0) rfl).sub (j := 4) (n := 1) (c := [v43]) rfl) (SP.nil S94.sl)) rfl (fun w' hw' => (E.move k81)) ?_
        refine FB.t (i := 2) (bs 13 7) rfl (SP.on ((S94.box_now (i := 0) rfl).sub (j := 4) (n := 1) (c := [v43]) rfl) (SP.nil S94.sl)) rfl (fun w' hw' => (E.nilCheck rfl)) ?_
        refine FB.t (i := 3) (bs 13 15) rfl (SP.on ((S94.box_now (i := 0) rfl).sub (j := 4) (n := 1) (c := [v43]) rfl) (SP.nil S94.sl)) rfl (fun w' hw' => (E.fieldAddr tf105_2 rfl)) ?_
        refine FB.p (i := 4) (bs 13 31) 0 [9, 10, 11, 12] rfl (SP.on ((S94.box_now (i := 0) rfl).sub (j := 4) (n := 1) (c := [v43]) rfl) (SP.nil S94.sl)) rfl rfl (fun w' hw' => (E.load rfl (run_load0 Tryz.isAgg103 hw' rfl))) ?_
        refine FB.t (i := 5) (bs 13 63) rfl (SP.on ((S94.box_now (i := 0) rfl).sub (j := 4) (n := 1) (c := [v43]) rfl) (SP.nil S94.sl)) rfl (fun w' hw' => (E.load k80 (run_loadA Tryz.isAgg102 Tryz.sizeOf102 ((at42.mono (i51.tr i76)).now hw') rfl))) ?_
        refine FB.t (i := 6) (bs 13 127) rfl (SP.on ((S94.box_now (i := 0) rfl).sub (j := 4) (n := 1) (c := [v43]) rfl) (SP.nil S94.sl)) rfl (fun w' hw' => (E.move (v := v90) rfl)) ?_
        refine FB.all1 (i := 7) (by kernel_rfl) ?_
        ·
          refine FC.call (l' := (bs 13 255)) rfl (by kernel_rfl) rfl rfl rfl (E.call Tryz.call68 (A2 rfl rfl)) (w_impl_ring_clause S94.sl ((PF.impl_ringOf a0 a1.vars).1) v90 y70 (h91.mono (((i27.tr i41).tr i51).tr i76)) hr96) ?_
          rintro e w98 ⟨H97, v101, n102, cs104, rfl, r100, els106⟩
          refine ⟨_, rfl, ?_⟩
          have els106 := els106.mono (up_le S94.size)
          have S99 := S94.join (l' := [.row 3 1 v101 n102 cs104, .box b64 105 [Value.int .i64 s71.2.1, Value.int .i64 s71.2.2.1, Value.int .i64 s71.2.2.2.1, v72, v43], .row 99 1 v43 n44 cs45]) r100 rfl
          refine ⟨(SP.on ((S99.box_now (i := 1) rfl).sub (j := 4) (n := 1) (c := [v43]) rfl) (SP.nil (Sl.of_inc r100.run.inc S99.sl))), ?_⟩
          refine FB.all1 (i := 8) (by kernel_rfl) ?_
          ·
            obtain ⟨H107, S108, i109, h110, nv111⟩ := S99.sealRowU (i := 0) (l' := [.box b64 105 [Value.int .i64 s71.2.1, Value.int .i64 s71.2.2.1, Value.int .i64 s71.2.2.2.1, v72, v43], .row 99 1 v43 n44 cs45]) rfl els106 (by decide) rfl
            obtain ⟨v112, w113, run114, S115⟩ := S108.buildSlice (P := Tryz.prog) te103 [v101] (parts := #[(0, v101)]) (cells := [v101]) rfl (szs_cons (cells_size h110.cells) szs_nil) (fc_cons h110.cells fc_nil) (ones_cons h110.one ones_nil) (Nat.le_of_ble_eq_true rfl)
            have els116 : Els (up wa.heap.size H107) (eL eI 1) 1 [v101] [r95] := (Els.snoc (H := (up wa.heap.size H107)) (E := (eL eI 1)) (k := 1) (c := [v101]) (x := r95) Els.nil rfl ⟨_, rfl, h110⟩)
            have nd117 : (bl [v101]).Nodup := by exact nd_one v101
            refine FC.val (l' := (bs 13 511)) rfl (by kernel_rfl) rfl rfl rfl (E.buildSlice (B1 rfl) run114) ?_
            refine ⟨(SP.on ((S115.box_now (i := 1) rfl).sub (j := 4) (n := 1) (c := [v43]) rfl) (SP.nil (Sl.of_inc (r100.run.inc.tr i109) S115.sl))), ?_⟩
            refine FB.all1 (i := 9) (by kernel_rfl) ?_
            ·
              obtain ⟨v120, w123, n121, cs122, run124, S125, els126, ce127⟩ := S115.appendO (P := Tryz.prog) te103 (i := 2) (j := 0) rfl (els46.mono (up_mono (r100.run.inc.tr i109))) rfl els116 hz119
              have S125 : St Ha wa H107 w123 [.row 99 1 v112 1 [v101], .box b64 105 [Value.int .i64 s71.2.1, Value.int .i64 s71.2.2.1, Value.int .i64 s71.2.2.2.1, v72, v43], .row 99 1 v120 n121 cs122] := S125
              have nd128 : (bl cs122).Nodup := by rw [ce127]; exact nd_app nd47 nd117 (Els.dom (els46.mono (upI.tr r100.run.inc))) (by exact nv111)
              have S129 : St Ha wa H107 w123 [.box b64 105 [Value.int .i64 s71.2.1, Value.int .i64 s71.2.2.1, Value.int .i64 s71.2.2.2.1, v72, v43], .row 99 1 v120 n121 cs122] := S125.drop 0
              refine FC.val (l' := (bs 13 1023)) rfl (by kernel_rfl) rfl rfl rfl (E.append rfl rfl run124) ?_
              refine ⟨(SP.on ((S129.box_now (i := 0) rfl).sub (j := 4) (n := 1) (c := [v43]) rfl) (SP.nil (Sl.of_inc (r100.run.inc.tr i109) S129.sl))), ?_⟩
              refine FB.t (i := 10) (bs 13 2047) rfl (SP.on ((S129.box_now (i := 0) rfl).sub (j := 4) (n := 1) (c := [v43]) rfl) (SP.nil (Sl.of_inc (r100.run.inc.tr i109) S129.sl))) rfl (fun w' hw' => (E.nilCheck rfl)) ?_
              refine FB.t (i := 11) (bs 13 4095) rfl (SP.on ((S129.box_now (i := 0) rfl).sub (j := 4) (n := 1) (c := [v43]) rfl) (SP.nil (Sl.of_inc (r100.run.inc.tr i109) S129.sl))) rfl (fun w' hw' => (E.fieldAddr tf105_2 rfl)) ?_
              refine FB.all1 (i := 12) (by kernel_rfl) ?_
              ·
                obtain ⟨w130, run131, S132⟩ := S129.store (P := Tryz.prog) (t := 103) (i := 0) (j := 4) (cs' := [Value.int .i64 s71.2.1, Value.int .i64 s71.2.2.1, Value.int .i64 s71.2.2.2.1, v72, v120]) (l' := [.box b64 105 [Value.int .i64 s71.2.1, Value.int .i64 s71.2.2.1, Value.int .i64 s71.2.2.2.1, v72, v120], .row 99 1 v120 n121 cs122]) (v := v120) (c := [v120]) rfl Tryz.sizeOf103 (Ln.cells (S129.row_ln (i := 1) rfl)) rfl (ones_cons (Ln.one (S129.row_ln (i := 1) rfl)) ones_nil) (Nat.le_of_ble_eq_true rfl) rfl rfl
                refine FC.act (l' := (bs 13 8191)) rfl (by kernel_rfl) rfl rfl (E.store rfl rfl run131) ?_
                refine ⟨(SP.o (SP.nil (Sl.of_inc (r100.run.inc.tr i109) S132.sl))), ?_⟩
                exact FB.done (by kernel_rfl) ⟨_, _, _, _, _, S132, (r100.run.inc.tr i109), els126, (h73.mono (r100.run.inc.tr i109)), nd128, k80, k81, k82, k83, k79⟩
      ·
        rintro f144 w143 ⟨H140, v133, n134, cs135, v138, S141, i142, els136, h139, nd137, k145, k146, k147, k148, k149⟩
        refine FW.region ?_
        refine FL.v (E.add k149 rfl) ?_
        refine FL.v (E.move (v := Value.int .i64 (wr (((i71 : Nat) : Int) + 1))) rfl) ?_
        refine FL.nil ?_
        obtain rfl := Option.some.inj hp
        exact ⟨rfl, ⟨_, _, _, _, _, S141, (i76.tr i142), els136, h139, nd137, (nat_succ rfl (lt_of_get hx71) (p1_1.mono ((((i27.tr i41).tr i51).tr i76).tr i142)).le), k145, k146, k147, k148⟩⟩
    ·
      clear hp hq
      rintro s71 f171 w170 ⟨H167, v43, n44, cs45, v72, S168, i169, els46, h73, nd47, k172, k173, k174, k175, k176⟩
      refine FW.seq (FW.region ?_)
      refine FL.v (E.lss k172 k176) ?_
      refine FL.nil (FW.seq ?_)
      refine FW.condF rfl dlt_len ?_
      refine FW.exit ?_
      exact ⟨nofun, rfl, ⟨_, _, _, _, _, S168, i169, els46, h73, nd47, k174⟩⟩
    ·
      clear hq
      intro e f155 w154 hD
      rcases q71 with s71 | x71
      ·
        obtain ⟨rfl, hD⟩ := hD
        obtain ⟨H151, v43, n44, cs45, v72, S152, i153, els46, h73, nd47, k156⟩ := hD
        replace hp := el_go hp
        refine FW.seq (FW.region ?_)
        refine FL.v (E.move k156) ?_
        refine FL.v (E.assign (v := Value.pointer (some (⟨b64, 0, none⟩ : Addr))) rfl) ?_
        refine FL.v (E.assign (v := Value.bool true) rfl) ?_
        refine FL.nil ?_
        refine FW.ret ?_
        obtain ⟨H157, S158, i159, ns162, nv161⟩ := S152.sealRowN (i := 1) (l' := [.box b64 105 [Value.int .i64 s71.2.1, Value.int .i64 s71.2.2.1, Value.int .i64 s71.2.2.2.1, v72, v43]]) rfl els46 nd47 (by decide) rfl
        have h160 := ns162.rsl
        obtain ⟨H163, S164, i165, at166⟩ := S158.sealBox (i := 0) (l' := []) rfl rfl
        obtain rfl := Option.some.inj hp
        exact ⟨.inr rfl, res2 rfl rfl rfl ⟨_, _, rfl, S164.run, ⟨_, rfl, _, _, (h73.mono (i159.tr i165)), ⟨_, (ns162.mono (up_mono i165))⟩, at166⟩⟩⟩
      · exact x71.elim

theorem w_impl_degreeOk {Ha : GH} {wa : World} (hs : Sl Ha wa) (a0 : Int) :
  Calls Tryz.prog 159 #[Value.int .i64 a0] wa (Sc Ha wa (Value.bool (PF.impl_degreeOk a0))) := by
 obtain ⟨r, hp⟩ : ∃ r, (PF.impl_degreeOk a0) = r := ⟨_, rfl⟩
 rw [hp]
 unfold PF.impl_degreeOk at hp
 have S0 := St.init hs
 refine calls_go (N := 5) (args := [Value.int .i64 a0]) Tryz.func159 rfl rfl rfl ?_
 refine FW.seq (FW.region ?_)
 refine FL.v (E.assign (v := Value.bool false) rfl) ?_
 refine FL.nil (FW.seq (FW.region ?_))
 refine FL.v (E.move (v := Value.int .i64 a0) rfl) ?_
 refine FL.call rfl rfl rfl (E.call Tryz.call162 (A3 rfl rfl rfl)) (w_impl_within S0.sl a0 0 6) ?_
 rintro e w21 ⟨rfl, r22⟩
 refine ⟨_, rfl, ?_⟩
 have S23 := S0.call r22
 refine FL.v (E.assign (v := Value.bool (PF.impl_within a0 0 6)) rfl) ?_
 refine FL.nil ?_
 refine FW.ret ?_
 obtain rfl := hp
 exact ⟨.inr rfl, res1 rfl rfl ⟨rfl, S23.back⟩⟩

theorem w_math_bits_OnesCount64 {Ha : GH} {wa : World} (hs : Sl Ha wa) (a0 : Int) :
  Calls Tryz.prog 262 #[Value.int .u64 a0] wa (Sc Ha wa (Value.int .i64 (PF.math_bits_OnesCount64 a0))) := by
 obtain ⟨r, hp⟩ : ∃ r, (PF.math_bits_OnesCount64 a0) = r := ⟨_, rfl⟩
 rw [hp]
 unfold PF.math_bits_OnesCount64 at hp
 have S0 := St.init hs
 refine calls_go (N := 35) (args := [Value.int .u64 a0]) Tryz.func262 rfl rfl rfl ?_
 refine FW.seq (FW.region ?_)
 refine FL.v (E.assign (v := Value.int .i64 0) rfl) ?_
 refine FL.nil (FW.seq (FW.region ?_))
 refine FL.v (E.move (v := Value.int .u64 a0) rfl) ?_
 refine FL.v (E.shr rfl rfl (by decide)) ?_
 refine FL.v (E.and rfl rfl) ?_
 refine FL.v (E.move (v := Value.int .u64 a0) rfl) ?_
 refine FL.v (E.and rfl rfl) ?_
 refine FL.v (E.addK rfl rfl) ?_
 refine FL.v (E.assign (v := Value.int .u64 (wrk false 64 ((andK false 64 (shrK 64 a0 1) 6148914691236517205) + (andK false 64 a0 6148914691236517205)))) rfl) ?_
 refine FL.nil (FW.seq (FW.region ?_))
 refine FL.v (E.move (v := Value.int .u64 (wrk false 64 ((andK false 64 (shrK 64 a0 1) 6148914691236517205) + (andK false 64 a0 6148914691236517205)))) rfl) ?_
 refine FL.v (E.shr rfl rfl (by decide)) ?_
 refine FL.v (E.and rfl rfl) ?_
 refine FL.v (E.move (v := Value.int .u64 (wrk false 64 ((andK false 64 (shrK 64 a0 1) 6148914691236517205) + (andK false 64 a0 6148914691236517205)))) rfl) ?_
 refine FL.v (E.and rfl rfl) ?_
 refine FL.v (E.addK rfl rfl) ?_
 refine FL.v (E.assign (v := Value.int .u64 (wrk false 64 ((andK false 64 (shrK 64 (wrk false 64 ((andK false 64 (shrK 64 a0 1) 6148914691236517205) + (andK false 64 a0 6148914691236517205))) 2) 3689348814741910323) + (andK false 64 (wrk false 64 ((andK false 64 (shrK 64 a0 1) 6148914691236517205) + (andK false 64 a0 6148914691236517205))) 3689348814741910323)))) rfl) ?_
 refine FL.nil (FW.seq (FW.region ?_))
 refine FL.v (E.move (v := Value.int .u64 (wrk false 64 ((andK false 64 (shrK 64 (wrk false 64 ((andK false 64 (shrK 64 a0 1) 6148914691236517205) + (andK false 64 a0 6148914691236517205))) 2) 3689348814741910323) + (andK false 64 (wrk false 64 ((andK false 64 (shrK 64 a0 1) 6148914691236517205) + (andK false 64 a0 6148914691236517205))) 3689348814741910323)))) rfl) ?_
 refine FL.v (E.shr rfl rfl (by decide)) ?_
 refine FL.v (E.move (v := Value.int .u64 (wrk false 64 ((andK false 64 (shrK 64 (wrk false 64 ((andK false 64 (shrK 64 a0 1) 6148914691236517205) + (andK false 64 a0 6148914691236517205))) 2) 3689348814741910323) + (andK false 64 (wrk false 64 ((andK false 64 (shrK 64 a0 1) 6148914691236517205) + (andK false 64 a0 6148914691236517205))) 3689348814741910323)))) rfl) ?_
 refine FL.v (E.addK rfl rfl) ?_
 refine FL.v (E.and rfl rfl) ?_
 refine FL.v (E.assign (v := Value.int .u64 (andK false 64 (wrk false 64 ((shrK 64 (wrk false 64 ((andK false 64 (shrK 64 (wrk false 64 ((andK false 64 (shrK 64 a0 1) 6148914691236517205) + (andK false 64 a0 6148914691236517205))) 2) 3689348814741910323) + (andK false 64 (wrk false 64 ((andK false 64 (shrK 64 a0 1) 6148914691236517205) + (andK false 64 a0 6148914691236517205))) 3689348814741910323))) 4) + (wrk false 64 ((andK false 64 (shrK 64 (wrk false 64 ((andK false 64 (shrK 64 a0 1) 6148914691236517205) + (andK false 64 a0 6148914691236517205))) 2) 3689348814741910323) + (andK false 64 (wrk false 64 ((andK false 64 (shrK 64 a0 1) 6148914691236517205) + (andK false 64 a0 6148914691236517205))) 3689348814741910323))))) 1085102592571150095)) rfl) ?_
 refine FL.nil (FW.seq (FW.region ?_))
 refine FL.v (E.move (v := Value.int .u64 (andK false 64 (wrk false 64 ((shrK 64 (wrk false 64 ((andK false 64 (shrK 64 (wrk false 64 ((andK false 64 (shrK 64 a0 1) 6148914691236517205) + (andK false 64 a0 6148914691236517205))) 2) 3689348814741910323) + (andK false 64 (wrk false 64 ((andK false 64 (shrK 64 a0 1) 6148914691236517205) + (andK false 64 a0 6148914691236517205))) 3689348814741910323))) 4) + (wrk false 64 ((andK false 64 (shrK 64 (wrk false 64 ((andK false 64 (shrK 64 a0 1) 6148914691236517205) + (andK false 64 a0 6148914691236517205))) 2) 3689348814741910323) + (andK false 64 (wrk false 64 ((andK false 64 (shrK 64 a0 1) 6148914691236517205) + (andK false 64 a0 6148914691236517205))) 3689348814741910323))))) 1085102592571150095)) rfl) ?_
 refine FL.v (E.move (v := Value.int .u64 (andK false 64 (wrk false 64 ((shrK 64 (wrk false 64 ((andK false 64 (shrK 64 (wrk false 64 ((andK false 64 (shrK 64 a0 1) 6148914691236517205) + (andK false 64 a0 6148914691236517205))) 2) 3689348814741910323) + (andK false 64 (wrk false 64 ((andK false 64 (shrK 64 a0 1) 6148914691236517205) + (andK false 64 a0 6148914691236517205))) 3689348814741910323))) 4) + (wrk false 64 ((andK false 64 (shrK 64 (wrk false 64 ((andK false 64 (shrK 64 a0 1) 6148914691236517205) + (andK false 64 a0 6148914691236517205))) 2) 3689348814741910323) + (andK false 64 (wrk false 64 ((andK false 64 (shrK 64 a0 1) 6148914691236517205) + (andK false 64 a0 6148914691236517205))) 3689348814741910323))))) 1085102592571150095)) rfl) ?_
 refine FL.v (E.shr rfl rfl (by decide)) ?_
 refine FL.v (E.addK rfl rfl) ?_
 refine FL.v (E.assign (v := Value.int .u64 (wrk false 64 ((andK false 64 (wrk false 64 ((shrK 64 (wrk false 64 ((andK false 64 (shrK 64 (wrk false 64 ((andK false 64 (shrK 64 a0 1) 6148914691236517205) + (andK false 64 a0 6148914691236517205))) 2) 3689348814741910323) + (andK false 64 (wrk false 64 ((andK false 64 (shrK 64 a0 1) 6148914691236517205) + (andK false 64 a0 6148914691236517205))) 3689348814741910323))) 4) + (wrk false 64 ((andK false 64 (shrK 64 (wrk false 64 ((andK false 64 (shrK 64 a0 1) 6148914691236517205) + (andK false 64 a0 6148914691236517205))) 2) 3689348814741910323) + (andK false 64 (wrk false 64 ((andK false 64 (shrK 64 a0 1) 6148914691236517205) + (andK false 64 a0 6148914691236517205))) 3689348814741910323))))) 1085102592571150095) + (shrK 64 (andK false 64 (wrk false 64 ((shrK 64 (wrk false 64 ((andK false 64 (shrK 64 (wrk false 64 ((andK false 64 (shrK 64 a0 1) 6148914691236517205) + (andK false 64 a0 6148914691236517205))) 2) 3689348814741910323) + (andK false 64 (wrk false 64 ((andK false 64 (shrK 64 a0 1) 6148914691236517205) + (andK false 64 a0 6148914691236517205))) 3689348814741910323))) 4) + (wrk false 64 ((andK false 64 (shrK 64 (wrk false 64 ((andK false 64 (shrK 64 a0 1) 6148914691236517205) + (andK false 64 a0 6148914691236517205))) 2) 3689348814741910323) + (andK false 64 (wrk false 64 ((andK false 64 (shrK 64 a0 1) 6148914691236517205) + (andK false 64 a0 6148914691236517205))) 3689348814741910323))))) 1085102592571150095) 8)))) rfl) ?_
 refine FL.nil (FW.seq (FW.region ?_))
 refine FL.v (E.move (v := Value.int .u64 (wrk false 64 ((andK false 64 (wrk false 64 ((shrK 64 (wrk false 64 ((andK false 64 (shrK 64 (wrk false 64 ((andK false 64 (shrK 64 a0 1) 6148914691236517205) + (andK false 64 a0 6148914691236517205))) 2) 3689348814741910323) + (andK false 64 (wrk false 64 ((andK false 64 (shrK 64 a0 1) 6148914691236517205) + (andK false 64 a0 6148914691236517205))) 3689348814741910323))) 4) + (wrk false 64 ((andK false 64 (shrK 64 (wrk false 64 ((andK false 64 (shrK 64 a0 1) 6148914691236517205) + (andK false 64 a0 6148914691236517205))) 2) 3689348814741910323) + (andK false 64 (wrk false 64 ((andK false 64 (shrK 64 a0 1) 6148914691236517205) + (andK false 64 a0 6148914691236517205))) 3689348814741910323))))) 1085102592571150095) + (shrK 64 (andK false 64 (wrk false 64 ((shrK 64 (wrk false 64 ((andK false 64 (shrK 64 (wrk false 64 ((andK false 64 (shrK 64 a0 1) 6148914691236517205) + (andK false 64 a0 6148914691236517205))) 2) 3689348814741910323) + (andK false 64 (wrk false 64 ((andK false 64 (shrK 64 a0 1) 6148914691236517205) + (andK false 64 a0 6148914691236517205))) 3689348814741910323))) 4) + (wrk false 64 ((andK false 64 (shrK 64 (wrk false 64 ((andK false 64 (shrK 64 a0 1) 6148914691236517205) + (andK false 64 a0 6148914691236517205))) 2) 3689348814741910323) + (andK false 64 (wrk false 64 ((andK false 64 (shrK 64 a0 1) 6148914691236517205) + (andK false 64 a0 6148914691236517205))) 3689348814741910323))))) 1085102592571150095) 8)))) rfl) ?_
 refine FL.v (E.move (v := Value.int .u64 (wrk false 64 ((andK false 64 (wrk false 64 ((shrK 64 (wrk false 64 ((andK false 64 (shrK 64 (wrk false 64 ((andK false 64 (shrK 64 a0 1) 6148914691236517205) + (andK false 64 a0 6148914691236517205))) 2) 3689348814741910323) + (andK false 64 (wrk false 64 ((andK false 64 (shrK 64 a0 1) 6148914691236517205) + (andK false 64 a0 6148914691236517205))) 3689348814741910323))) 4) + (wrk false 64 ((andK false 64 (shrK 64 (wrk false 64 ((andK false 64 (shrK 64 a0 1) 6148914691236517205) + (andK false 64 a0 6148914691236517205))) 2) 3689348814741910323) + (andK false 64 (wrk false 64 ((andK false 64 (shrK 64 a0 1) 6148914691236517205) + (andK false 64 a0 6148914691236517205))) 3689348814741910323))))) 1085102592571150095) + (shrK 64 (andK false 64 (wrk false 64 ((shrK 64 (wrk false 64 ((andK false 64 (shrK 64 (wrk false 64 ((andK false 64 (shrK 64 a0 1) 6148914691236517205) + (andK false 64 a0 6148914691236517205))) 2) 3689348814741910323) + (andK false 64 (wrk false 64 ((andK false 64 (shrK 64 a0 1) 6148914691236517205) + (andK false 64 a0 6148914691236517205))) 3689348814741910323))) 4) + (wrk false 64 ((andK false 64 (shrK 64 (wrk false 64 ((andK false 64 (shrK 64 a0 1) 6148914691236517205) + (andK false 64 a0 6148914691236517205))) 2) 3689348814741910323) + (andK false 64 (wrk false 64 ((andK false 64 (shrK 64 a0 1) 6148914691236517205) + (andK false 64 a0 6148914691236517205))) 3689348814741910323))))) 1085102592571150095) 8)))) rfl) ?_
 refine FL.v (E.shr rfl rfl (by decide)) ?_
 refine FL.v (E.addK rfl rfl) ?_
 refine FL.v (E.assign (v := Value.int .u64 (wrk false 64 ((wrk false 64 ((andK false 64 (wrk false 64 ((shrK 64 (wrk false 64 ((andK false 64 (shrK 64 (wrk false 64 ((andK false 64 (shrK 64 a0 1) 6148914691236517205) + (andK false 64 a0 6148914691236517205))) 2) 3689348814741910323) + (andK false 64 (wrk false 64 ((andK false 64 (shrK 64 a0 1) 6148914691236517205) + (andK false 64 a0 6148914691236517205))) 3689348814741910323))) 4) + (wrk false 64 ((andK false 64 (shrK 64 (wrk false 64 ((andK false 64 (shrK 64 a0 1) 6148914691236517205) + (andK false 64 a0 6148914691236517205))) 2) 3689348814741910323) + (andK false 64 (wrk false 64 ((andK false 64 (shrK 64 a0 1) 6148914691236517205) + (andK false 64 a0 6148914691236517205))) 3689348814741910323))))) 1085102592571150095) + (shrK 64 (andK false 64 (wrk false 64 ((shrK 64 (wrk false 64 ((andK false 64 (shrK 64 (wrk false 64 ((andK false 64 (shrK 64 a0 1) 6148914691236517205) + (andK false 64 a0 6148914691236517205))) 2) 3689348814741910323) + (andK false 64 (wrk false 64 ((andK false 64 (shrK 64 a0 1) 6148914691236517205) + (andK false 64 a0 6148914691236517205))) 3689348814741910323))) 4) + (wrk false 64 ((andK false 64 (shrK 64 (wrk false 64 ((andK false 64 (shrK 64 a0 1) 6148914691236517205) + (andK false 64 a0 6148914691236517205))) 2) 3689348814741910323) + (andK false 64 (wrk false 64 ((andK false 64 (shrK 64 a0 1) 6148914691236517205) + (andK false 64 a0 6148914691236517205))) 3689348814741910323))))) 1085102592571150095) 8))) + (shrK 64 (wrk false 64 ((andK false 64 (wrk false 64 ((shrK 64 (wrk false 64 ((andK false 64 (shrK 64 (wrk false 64 ((andK false 64 (shrK 64 a0 1) 6148914691236517205) + (andK false 64 a0 6148914691236517205))) 2) 3689348814741910323) + (andK false 64 (wrk false 64 ((andK false 64 (shrK 64 a0 1) 6148914691236517205) + (andK false 64 a0 6148914691236517205))) 3689348814741910323))) 4) + (wrk false 64 ((andK false 64 (shrK 64 (wrk false 64 ((andK false 64 (shrK 64 a0 1) 6148914691236517205) + (andK false 64 a0 6148914691236517205))) 2) 3689348814741910323) + (andK false 64 (wrk false 64 ((andK false 64 (shrK 64 a0 1) 6148914691236517205) + (andK false 64 a0 6148914691236517205))) 3689348814741910323))))) 1085102592571150095) + (shrK 64 (andK false 64 (wrk false 64 ((shrK 64 (wrk false 64 ((andK false 64 (shrK 64 (wrk false 64 ((andK false 64 (shrK 64 a0 1) 6148914691236517205) + (andK false 64 a0 6148914691236517205))) 2) 3689348814741910323) + (andK false 64 (wrk false 64 ((andK false 64 (shrK 64 a0 1) 6148914691236517205) + (andK false 64 a0 6148914691236517205))) 3689348814741910323))) 4) + (wrk false 64 ((andK false 64 (shrK 64 (wrk false 64 ((andK false 64 (shrK 64 a0 1) 6148914691236517205) + (andK false 64 a0 6148914691236517205))) 2) 3689348814741910323) + (andK false 64 (wrk false 64 ((andK false 64 (shrK 64 a0 1) 6148914691236517205) + (andK false 64 a0 6148914691236517205))) 3689348814741910323))))) 1085102592571150095) 8))) 16)))) rfl) ?_
 refine FL.nil (FW.seq (FW.region ?_))
 refine FL.v (E.move (v := Value.int .u64 (wrk false 64 ((wrk false 64 ((andK false 64 (wrk false 64 ((shrK 64 (wrk false 64 ((andK false 64 (shrK 64 (wrk false 64 ((andK false 64 (shrK 64 a0 1) 6148914691236517205) + (andK false 64 a0 6148914691236517205))) 2) 3689348814741910323) + (andK false 64 (wrk false 64 ((andK false 64 (shrK 64 a0 1) 6148914691236517205) + (andK false 64 a0 6148914691236517205))) 3689348814741910323))) 4) + (wrk false 64 ((andK false 64 (shrK 64 (wrk false 64 ((andK false 64 (shrK 64 a0 1) 6148914691236517205) + (andK false 64 a0 6148914691236517205))) 2) 3689348814741910323) + (andK false 64 (wrk false 64 ((andK false 64 (shrK 64 a0 1) 6148914691236517205) + (andK false 64 a0 6148914691236517205))) 3689348814741910323))))) 1085102592571150095) + (shrK 64 (andK false 64 (wrk false 64 ((shrK 64 (wrk false 64 ((andK false 64 (shrK 64 (wrk false 64 ((andK false 64 (shrK 64 a0 1) 6148914691236517205) + (andK false 64 a0 6148914691236517205))) 2) 3689348814741910323) + (andK false 64 (wrk false 64 ((andK false 64 (shrK 64 a0 1) 6148914691236517205) + (andK false 64 a0 6148914691236517205))) 3689348814741910323))) 4) + (wrk false 64 ((andK false 64 (shrK 64 (wrk false 64 ((andK false 64 (shrK 64 a0 1) 6148914691236517205) + (andK false 64 a0 6148914691236517205))) 2) 3689348814741910323) + (andK false 64 (wrk false 64 ((andK false 64 (shrK 64 a0 1) 6148914691236517205) + (andK false 64 a0 6148914691236517205))) 3689348814741910323))))) 1085102592571150095) 8))) + (shrK 64 (wrk false 64 ((andK false 64 (wrk false 64 ((shrK 64 (wrk false 64 ((andK false 64 (shrK 64 (wrk false 64 ((andK false 64 (shrK 64 a0 1) 6148914691236517205) + (andK false 64 a0 6148914691236517205))) 2) 3689348814741910323) + (andK false 64 (wrk false 64 ((andK false 64 (shrK 64 a0 1) 6148914691236517205) + (andK false 64 a0 6148914691236517205))) 3689348814741910323))) 4) + (wrk false 64 ((andK false 64 (shrK 64 (wrk false 64 ((andK false 64 (shrK 64 a0 1) 6148914691236517205) + (andK false 64 a0 6148914691236517205))) 2) 3689348814741910323) + (andK false 64 (wrk false 64 ((andK false 64 (shrK 64 a0 1) 6148914691236517205) + (andK false 64 a0 6148914691236517205))) 3689348814741910323))))) 1085102592571150095) + (shrK 64 (andK false 64 (wrk false 64 ((shrK 64 (wrk false 64 ((andK false 64 (shrK 64 (wrk false 64 ((andK false 64 (shrK 64 a0 1) 6148914691236517205) + (andK false 64 a0 6148914691236517205))) 2) 3689348814741910323) + (andK false 64 (wrk false 64 ((andK false 64 (shrK 64 a0 1) 6148914691236517205) + (andK false 64 a0 6148914691236517205))) 3689348814741910323))) 4) + (wrk false 64 ((andK false 64 (shrK 64 (wrk false 64 ((andK false 64 (shrK 64 a0 1) 6148914691236517205) + (andK false 64 a0 6148914691236517205))) 2) 3689348814741910323) + (andK false 64 (wrk false 64 ((andK false 64 (shrK 64 a0 1) 6148914691236517205) + (andK false 64 a0 6148914691236517205))) 3689348814741910323))))) 1085102592571150095) 8))) 16)))) rfl) ?_
 refine FL.v (E.move (v := Value.int .u64 (wrk false 64 ((wrk false 64 ((andK false 64 (wrk false 64 ((shrK 64 (wrk false 64 ((andK false 64 (shrK 64 (wrk false 64 ((andK false 64 (shrK 64 a0 1) 6148914691236517205) + (andK false 64 a0 6148914691236517205))) 2) 3689348814741910323) + (andK false 64 (wrk false 64 ((andK false 64 (shrK 64 a0 1) 6148914691236517205) + (andK false 64 a0 6148914691236517205))) 3689348814741910323))) 4) + (wrk false 64 ((andK false 64 (shrK 64 (wrk false 64 ((andK false 64 (shrK 64 a0 1) 6148914691236517205) + (andK false 64 a0 6148914691236517205))) 2) 3689348814741910323) + (andK false 64 (wrk false 64 ((andK false 64 (shrK 64 a0 1) 6148914691236517205) + (andK false 64 a0 6148914691236517205))) 3689348814741910323))))) 1085102592571150095) + (shrK 64 (andK false 64 (wrk false 64 ((shrK 64 (wrk false 64 ((andK false 64 (shrK 64 (wrk false 64 ((andK false 64 (shrK 64 a0 1) 6148914691236517205) + (andK false 64 a0 6148914691236517205))) 2) 3689348814741910323) + (andK false 64 (wrk false 64 ((andK false 64 (shrK 64 a0 1) 6148914691236517205) + (andK false 64 a0 6148914691236517205))) 3689348814741910323))) 4) + (wrk false 64 ((andK false 64 (shrK 64 (wrk false 64 ((andK false 64 (shrK 64 a0 1) 6148914691236517205) + (andK false 64 a0 6148914691236517205))) 2) 3689348814741910323) + (andK false 64 (wrk false 64 ((andK false 64 (shrK 64 a0 1) 6148914691236517205) + (andK false 64 a0 6148914691236517205))) 3689348814741910323))))) 1085102592571150095) 8))) + (shrK 64 (wrk false 64 ((andK false 64 (wrk false 64 ((shrK 64 (wrk false 64 ((andK false 64 (shrK 64 (wrk false 64 ((andK false 64 (shrK 64 a0 1) 6148914691236517205) + (andK false 64 a0 6148914691236517205))) 2) 3689348814741910323) + (andK false 64 (wrk false 64 ((andK false 64 (shrK 64 a0 1) 6148914691236517205) + (andK false 64 a0 6148914691236517205))) 3689348814741910323))) 4) + (wrk false 64 ((andK false 64 (shrK 64 (wrk false 64 ((andK false 64 (shrK 64 a0 1) 6148914691236517205) + (andK false 64 a0 6148914691236517205))) 2) 3689348814741910323) + (andK false 64 (wrk false 64 ((andK false 64 (shrK 64 a0 1) 6148914691236517205) + (andK false 64 a0 6148914691236517205))) 3689348814741910323))))) 1085102592571150095) + (shrK 64 (andK false 64 (wrk false 64 ((shrK 64 (wrk false 64 ((andK false 64 (shrK 64 (wrk false 64 ((andK false 64 (shrK 64 a0 1) 6148914691236517205) + (andK false 64 a0 6148914691236517205))) 2) 3689348814741910323) + (andK false 64 (wrk false 64 ((andK false 64 (shrK 64 a0 1) 6148914691236517205) + (andK false 64 a0 6148914691236517205))) 3689348814741910323))) 4) + (wrk false 64 ((andK false 64 (shrK 64 (wrk false 64 ((andK false 64 (shrK 64 a0 1) 6148914691236517205) + (andK false 64 a0 6148914691236517205))) 2) 3689348814741910323) + (andK false 64 (wrk false 64 ((andK false 64 (shrK 64 a0 1) 6148914691236517205) + (andK false 64 a0 6148914691236517205))) 3689348814741910323))))) 1085102592571150095) 8))) 16)))) rfl) ?_
 refine FL.v (E.shr rfl rfl (by decide)) ?_
 refine FL.v (E.addK rfl rfl) ?_
 refine FL.v (E.assign (v := Value.int .u64 (wrk false 64 ((wrk false 64 ((wrk false 64 ((andK false 64 (wrk false 64 ((shrK 64 (wrk false 64 ((andK false 64 (shrK 64 (wrk false 64 ((andK false 64 (shrK 64 a0 1) 6148914691236517205) + (andK false 64 a0 6148914691236517205))) 2) 3689348814741910323) + (andK false 64 (wrk false 64 ((andK false 64 (shrK 64 a0 1) 6148914691236517205) + (andK false 64 a0 6148914691236517205))) 3689348814741910323))) 4) + (wrk false 64 ((andK false 64 (shrK 64 (wrk false 64 ((andK false 64 (shrK 64 a0 1) 6148914691236517205) + (andK false 64 a0 6148914691236517205))) 2) 3689348814741910323) + (andK false 64 (wrk false 64 ((andK false 64 (shrK 64 a0 1) 6148914691236517205) + (andK false 64 a0 6148914691236517205))) 3689348814741910323))))) 1085102592571150095) + (shrK 64 (andK false 64 (wrk false 64 ((shrK 64 (wrk false 64 ((andK false 64 (shrK 64 (wrk false 64 ((andK false 64 (shrK 64 a0 1) 6148914691236517205) + (andK false 64 a0 6148914691236517205))) 2) 3689348814741910323) + (andK false 64 (wrk false 64 ((andK false 64 (shrK 64 a0 1) 6148914691236517205) + (andK false 64 a0 6148914691236517205))) 3689348814741910323))) 4) + (wrk false 64 ((andK false 64 (shrK 64 (wrk false 64 ((andK false 64 (shrK 64 a0 1) 6148914691236517205) + (andK false 64 a0 6148914691236517205))) 2) 3689348814741910323) + (andK false 64 (wrk false 64 ((andK false 64 (shrK 64 a0 1) 6148914691236517205) + (andK false 64 a0 6148914691236517205))) 3689348814741910323))))) 1085102592571150095) 8))) + (shrK 64 (wrk false 64 ((andK false 64 (wrk false 64 ((shrK 64 (wrk false 64 ((andK false 64 (shrK 64 (wrk false 64 ((andK false 64 (shrK 64 a0 1) 6148914691236517205) + (andK false 64 a0 6148914691236517205))) 2) 3689348814741910323) + (andK false 64 (wrk false 64 ((andK false 64 (shrK 64 a0 1) 6148914691236517205) + (andK false 64 a0 6148914691236517205))) 3689348814741910323))) 4) + (wrk false 64 ((andK false 64 (shrK 64 (wrk false 64 ((andK false 64 (shrK 64 a0 1) 6148914691236517205) + (andK false 64 a0 6148914691236517205))) 2) 3689348814741910323) + (andK false 64 (wrk false 64 ((andK false 64 (shrK 64 a0 1) 6148914691236517205) + (andK false 64 a0 6148914691236517205))) 3689348814741910323))))) 1085102592571150095) + (shrK 64 (andK false 64 (wrk false 64 ((shrK 64 (wrk false 64 ((andK false 64 (shrK 64 (wrk false 64 ((andK false 64 (shrK 64 a0 1) 6148914691236517205) + (andK false 64 a0 6148914691236517205))) 2) 3689348814741910323) + (andK false 64 (wrk false 64 ((andK false 64 (shrK 64 a0 1) 6148914691236517205) + (andK false 64 a0 6148914691236517205))) 3689348814741910323))) 4) + (wrk false 64 ((andK false 64 (shrK 64 (wrk false 64 ((andK false 64 (shrK 64 a0 1) 6148914691236517205) + (andK false 64 a0 6148914691236517205))) 2) 3689348814741910323) + (andK false 64 (wrk false 64 ((andK false 64 (shrK 64 a0 1) 6148914691236517205) + (andK false 64 a0 6148914691236517205))) 3689348814741910323))))) 1085102592571150095) 8))) 16))) + (shrK 64 (wrk false 64 ((wrk false 64 ((andK false 64 (wrk false 64 ((shrK 64 (wrk false 64 ((andK false 64 (shrK 64 (wrk false 64 ((andK false 64 (shrK 64 a0 1) 6148914691236517205) + (andK false 64 a0 6148914691236517205))) 2) 3689348814741910323) + (andK false 64 (wrk false 64 ((andK false 64 (shrK 64 a0 1) 6148914691236517205) + (andK false 64 a0 6148914691236517205))) 3689348814741910323))) 4) + (wrk false 64 ((andK false 64 (shrK 64 (wrk false 64 ((andK false 64 (shrK 64 a0 1) 6148914691236517205) + (andK false 64 a0 6148914691236517205))) 2) 3689348814741910323) + (andK false 64 (wrk false 64 ((andK false 64 (shrK 64 a0 1) 6148914691236517205) + (andK false 64 a0 6148914691236517205))) 3689348814741910323))))) 1085102592571150095) + (shrK 64 (andK false 64 (wrk false 64 ((shrK 64 (wrk false 64 ((andK false 64 (shrK 64 (wrk false 64 ((andK false 64 (shrK 64 a0 1) 6148914691236517205) + (andK false 64 a0 6148914691236517205))) 2) 3689348814741910323) + (andK false 64 (wrk false 64 ((andK false 64 (shrK 64 a0 1) 6148914691236517205) + (andK false 64 a0 6148914691236517205))) 3689348814741910323))) 4) + (wrk false 64 ((andK false 64 (shrK 64 (wrk false 64 ((andK false 64 (shrK 64 a0 1) 6148914691236517205) + (andK false 64 a0 6148914691236517205))) 2) 3689348814741910323) + (andK false 64 (wrk false 64 ((andK false 64 (shrK 64 a0 1) 6148914691236517205) + (andK false 64 a0 6148914691236517205))) 3689348814741910323))))) 1085102592571150095) 8))) + (shrK 64 (wrk false 64 ((andK false 64 (wrk false 64 ((shrK 64 (wrk false 64 ((andK false 64 (shrK 64 (wrk false 64 ((andK false 64 (shrK 64 a0 1) 6148914691236517205) + (andK false 64 a0 6148914691236517205))) 2) 3689348814741910323) + (andK false 64 (wrk false 64 ((andK false 64 (shrK 64 a0 1) 6148914691236517205) + (andK false 64 a0 6148914691236517205))) 3689348814741910323))) 4) + (wrk false 64 ((andK false 64 (shrK 64 (wrk false 64 ((andK false 64 (shrK 64 a0 1) 6148914691236517205) + (andK false 64 a0 6148914691236517205))) 2) 3689348814741910323) + (andK false 64 (wrk false 64 ((andK false 64 (shrK 64 a0 1) 6148914691236517205) + (andK false 64 a0 6148914691236517205))) 3689348814741910323))))) 1085102592571150095) + (shrK 64 (andK false 64 (wrk false 64 ((shrK 64 (wrk false 64 ((andK false 64 (shrK 64 (wrk false 64 ((andK false 64 (shrK 64 a0 1) 6148914691236517205) + (andK false 64 a0 6148914691236517205))) 2) 3689348814741910323) + (andK false 64 (wrk false 64 ((andK false 64 (shrK 64 a0 1) 6148914691236517205) + (andK false 64 a0 6148914691236517205))) 3689348814741910323))) 4) + (wrk false 64 ((andK false 64 (shrK 64 (wrk false 64 ((andK false 64 (shrK 64 a0 1) 6148914691236517205) + (andK false 64 a0 6148914691236517205))) 2) 3689348814741910323) + (andK false 64 (wrk false 64 ((andK false 64 (shrK 64 a0 1) 6148914691236517205) + (andK false 64 a0 6148914691236517205))) 3689348814741910323))))) 1085102592571150095) 8))) 16))) 32)))) rfl) ?_
 refine FL.nil (FW.seq (FW.region ?_))
 refine FL.v (E.move (v := Value.int .u64 (wrk false 64 ((wrk false 64 ((wrk false 64 ((andK false 64 (wrk false 64 ((shrK 64 (wrk false 64 ((andK false 64 (shrK 64 (wrk false 64 ((andK false 64 (shrK 64 a0 1) 6148914691236517205) + (andK false 64 a0 6148914691236517205))) 2) 3689348814741910323) + (andK false 64 (wrk false 64 ((andK false 64 (shrK 64 a0 1) 6148914691236517205) + (andK false 64 a0 6148914691236517205))) 3689348814741910323))) 4) + (wrk false 64 ((andK false 64 (shrK 64 (wrk false 64 ((andK false 64 (shrK 64 a0 1) 6148914691236517205) + (andK false 64 a0 6148914691236517205))) 2) 3689348814741910323) + (andK false 64 (wrk false 64 ((andK false 64 (shrK 64 a0 1) 6148914691236517205) + (andK false 64 a0 6148914691236517205))) 3689348814741910323))))) 1085102592571150095) + (shrK 64 (andK false 64 (wrk false 64 ((shrK 64 (wrk false 64 ((andK false 64 (shrK 64 (wrk false 64 ((andK false 64 (shrK 64 a0 1) 6148914691236517205) + (andK false 64 a0 6148914691236517205))) 2) 3689348814741910323) + (andK false 64 (wrk false 64 ((andK false 64 (shrK 64 a0 1) 6148914691236517205) + (andK false 64 a0 6148914691236517205))) 3689348814741910323))) 4) + (wrk false 64 ((andK false 64 (shrK 64 (wrk false 64 ((andK false 64 (shrK 64 a0 1) 6148914691236517205) + (andK false 64 a0 6148914691236517205))) 2) 3689348814741910323) + (andK false 64 (wrk false 64 ((andK false 64 (shrK 64 a0 1) 6148914691236517205) + (andK false 64 a0 6148914691236517205))) 3689348814741910323))))) 1085102592571150095) 8))) + (shrK 64 (wrk false 64 ((andK false 64 (wrk false 64 ((shrK 64 (wrk false 64 ((andK false 64 (shrK 64 (wrk false 64 ((andK false 64 (shrK 64 a0 1) 6148914691236517205) + (andK false 64 a0 6148914691236517205))) 2) 3689348814741910323) + (andK false 64 (wrk false 64 ((andK false 64 (shrK 64 a0 1) 6148914691236517205) + (andK false 64 a0 6148914691236517205))) 3689348814741910323))) 4) + (wrk false 64 ((andK false 64 (shrK 64 (wrk false 64 ((andK false 64 (shrK 64 a0 1) 6148914691236517205) + (andK false 64 a0 6148914691236517205))) 2) 3689348814741910323) + (andK false 64 (wrk false 64 ((andK false 64 (shrK 64 a0 1) 6148914691236517205) + (andK false 64 a0 6148914691236517205))) 3689348814741910323))))) 1085102592571150095) + (shrK 64 (andK false 64 (wrk false 64 ((shrK 64 (wrk false 64 ((andK false 64 (shrK 64 (wrk false 64 ((andK false 64 (shrK 64 a0 1) 6148914691236517205) + (andK false 64 a0 6148914691236517205))) 2) 3689348814741910323) + (andK false 64 (wrk false 64 ((andK false 64 (shrK 64 a0 1) 6148914691236517205) + (andK false 64 a0 6148914691236517205))) 3689348814741910323))) 4) + (wrk false 64 ((andK false 64 (shrK 64 (wrk false 64 ((andK false 64 (shrK 64 a0 1) 6148914691236517205) + (andK false 64 a0 6148914691236517205))) 2) 3689348814741910323) + (andK false 64 (wrk false 64 ((andK false 64 (shrK 64 a0 1) 6148914691236517205) + (andK false 64 a0 6148914691236517205))) 3689348814741910323))))) 1085102592571150095) 8))) 16))) + (shrK 64 (wrk false 64 ((wrk false 64 ((andK false 64 (wrk false 64 ((shrK 64 (wrk false 64 ((andK false 64 (shrK 64 (wrk false 64 ((andK false 64 (shrK 64 a0 1) 6148914691236517205) + (andK false 64 a0 6148914691236517205))) 2) 3689348814741910323) + (andK false 64 (wrk false 64 ((andK false 64 (shrK 64 a0 1) 6148914691236517205) + (andK false 64 a0 6148914691236517205))) 3689348814741910323))) 4) + (wrk false 64 ((andK false 64 (shrK 64 (wrk false 64 ((andK false 64 (shrK 64 a0 1) 6148914691236517205) + (andK false 64 a0 6148914691236517205))) 2) 3689348814741910323) + (andK false 64 (wrk false 64 ((andK false 64 (shrK 64 a0 1) 6148914691236517205) + (andK false 64 a0 6148914691236517205))) 3689348814741910323))))) 1085102592571150095) + (shrK 64 (andK false 64 (wrk false 64 ((shrK 64 (wrk false 64 ((andK false 64 (shrK 64 (wrk false 64 ((andK false 64 (shrK 64 a0 1) 6148914691236517205) + (andK false 64 a0 6148914691236517205))) 2) 3689348814741910323) + (andK false 64 (wrk false 64 ((andK false 64 (shrK 64 a0 1) 6148914691236517205) + (andK false 64 a0 6148914691236517205))) 3689348814741910323))) 4) + (wrk false 64 ((andK false 64 (shrK 64 (wrk false 64 ((andK false 64 (shrK 64 a0 1) 6148914691236517205) + (andK false 64 a0 6148914691236517205))) 2) 3689348814741910323) + (andK false 64 (wrk false 64 ((andK false 64 (shrK 64 a0 1) 6148914691236517205) + (andK false 64 a0 6148914691236517205))) 3689348814741910323))))) 1085102592571150095) 8))) + (shrK 64 (wrk false 64 ((andK false 64 (wrk false 64 ((shrK 64 (wrk false 64 ((andK false 64 (shrK 64 (wrk false 64 ((andK false 64 (shrK 64 a0 1) 6148914691236517205) + (andK false 64 a0 6148914691236517205))) 2) 3689348814741910323) + (andK false 64 (wrk false 64 ((andK false 64 (shrK 64 a0 1) 6148914691236517205) + (andK false 64 a0 6148914691236517205))) 3689348814741910323))) 4) + (wrk false 64 ((andK false 64 (shrK 64 (wrk false 64 ((andK false 64 (shrK 64 a0 1) 6148914691236517205) + (andK false 64 a0 6148914691236517205))) 2) 3689348814741910323) + (andK false 64 (wrk false 64 ((andK false 64 (shrK 64 a0 1) 6148914691236517205) + (andK false 64 a0 6148914691236517205))) 3689348814741910323))))) 1085102592571150095) + (shrK 64 (andK false 64 (wrk false 64 ((shrK 64 (wrk false 64 ((andK false 64 (shrK 64 (wrk false 64 ((andK false 64 (shrK 64 a0 1) 6148914691236517205) + (andK false 64 a0 6148914691236517205))) 2) 3689348814741910323) + (andK false 64 (wrk false 64 ((andK false 64 (shrK 64 a0 1) 6148914691236517205) + (andK false 64 a0 6148914691236517205))) 3689348814741910323))) 4) + (wrk false 64 ((andK false 64 (shrK 64 (wrk false 64 ((andK false 64 (shrK 64 a0 1) 6148914691236517205) + (andK false 64 a0 6148914691236517205))) 2) 3689348814741910323) + (andK false 64 (wrk false 64 ((andK false 64 (shrK 64 a0 1) 6148914691236517205) + (andK false 64 a0 6148914691236517205))) 3689348814741910323))))) 1085102592571150095) 8))) 16))) 32)))) rfl) ?_
 refine FL.v (E.conv Tryz.runUnderlying237 Tryz.runUnderlying3 rfl) ?_
 refine FL.v (E.and rfl rfl) ?_
 refine FL.v (E.assign (v := Value.int .i64 (andK true 64 (wrk true 64 (wrk false 64 ((wrk false 64 ((wrk false 64 ((andK false 64 (wrk false 64 ((shrK 64 (wrk false 64 ((andK false 64 (shrK 64 (wrk false 64 ((andK false 64 (shrK 64 a0 1) 6148914691236517205) + (andK false 64 a0 6148914691236517205))) 2) 3689348814741910323) + (andK false 64 (wrk false 64 ((andK false 64 (shrK 64 a0 1) 6148914691236517205) + (andK false 64 a0 6148914691236517205))) 3689348814741910323))) 4) + (wrk false 64 ((andK false 64 (shrK 64 (wrk false 64 ((andK false 64 (shrK 64 a0 1) 6148914691236517205) + (andK false 64 a0 6148914691236517205))) 2) 3689348814741910323) + (andK false 64 (wrk false 64 ((andK false 64 (shrK 64 a0 1) 6148914691236517205) + (andK false 64 a0 6148914691236517205))) 3689348814741910323))))) 1085102592571150095) + (shrK 64 (andK false 64 (wrk false 64 ((shrK 64 (wrk false 64 ((andK false 64 (shrK 64 (wrk false 64 ((andK false 64 (shrK 64 a0 1) 6148914691236517205) + (andK false 64 a0 6148914691236517205))) 2) 3689348814741910323) + (andK false 64 (wrk false 64 ((andK false 64 (shrK 64 a0 1) 6148914691236517205) + (andK false 64 a0 6148914691236517205))) 3689348814741910323))) 4) + (wrk false 64 ((andK false 64 (shrK 64 (wrk false 64 ((andK false 64 (shrK 64 a0 1) 6148914691236517205) + (andK false 64 a0 6148914691236517205))) 2) 3689348814741910323) + (andK false 64 (wrk false 64 ((andK false 64 (shrK 64 a0 1) 6148914691236517205) + (andK false 64 a0 6148914691236517205))) 3689348814741910323))))) 1085102592571150095) 8))) + (shrK 64 (wrk false 64 ((andK false 64 (wrk false 64 ((shrK 64 (wrk false 64 ((andK false 64 (shrK 64 (wrk false 64 ((andK false 64 (shrK 64 a0 1) 6148914691236517205) + (andK false 64 a0 6148914691236517205))) 2) 3689348814741910323) + (andK false 64 (wrk false 64 ((andK false 64 (shrK 64 a0 1) 6148914691236517205) + (andK false 64 a0 6148914691236517205))) 3689348814741910323))) 4) + (wrk false 64 ((andK false 64 (shrK 64 (wrk false 64 ((andK false 64 (shrK 64 a0 1) 6148914691236517205) + (andK false 64 a0 6148914691236517205))) 2) 3689348814741910323) + (andK false 64 (wrk false 64 ((andK false 64 (shrK 64 a0 1) 6148914691236517205) + (andK false 64 a0 6148914691236517205))) 3689348814741910323))))) 1085102592571150095) + (shrK 64 (andK false 64 (wrk false 64 ((shrK 64 (wrk false 64 ((andK false 64 (shrK 64 (wrk false 64 ((andK false 64 (shrK 64 a0 1) 6148914691236517205) + (andK false 64 a0 6148914691236517205))) 2) 3689348814741910323) + (andK false 64 (wrk false 64 ((andK false 64 (shrK 64 a0 1) 6148914691236517205) + (andK false 64 a0 6148914691236517205))) 3689348814741910323))) 4) + (wrk false 64 ((andK false 64 (shrK 64 (wrk false 64 ((andK false 64 (shrK 64 a0 1) 6148914691236517205) + (andK false 64 a0 6148914691236517205))) 2) 3689348814741910323) + (andK false 64 (wrk false 64 ((andK false 64 (shrK 64 a0 1) 6148914691236517205) + (andK false 64 a0 6148914691236517205))) 3689348814741910323))))) 1085102592571150095) 8))) 16))) + (shrK 64 (wrk false 64 ((wrk false 64 ((andK false 64 (wrk false 64 ((shrK 64 (wrk false 64 ((andK false 64 (shrK 64 (wrk false 64 ((andK false 64 (shrK 64 a0 1) 6148914691236517205) + (andK false 64 a0 6148914691236517205))) 2) 3689348814741910323) + (andK false 64 (wrk false 64 ((andK false 64 (shrK 64 a0 1) 6148914691236517205) + (andK false 64 a0 6148914691236517205))) 3689348814741910323))) 4) + (wrk false 64 ((andK false 64 (shrK 64 (wrk false 64 ((andK false 64 (shrK 64 a0 1) 6148914691236517205) + (andK false 64 a0 6148914691236517205))) 2) 3689348814741910323) + (andK false 64 (wrk false 64 ((andK false 64 (shrK 64 a0 1) 6148914691236517205) + (andK false 64 a0 6148914691236517205))) 3689348814741910323))))) 1085102592571150095) + (shrK 64 (andK false 64 (wrk false 64 ((shrK 64 (wrk false 64 ((andK false 64 (shrK 64 (wrk false 64 ((andK false 64 (shrK 64 a0 1) 6148914691236517205) + (andK false 64 a0 6148914691236517205))) 2) 3689348814741910323) + (andK false 64 (wrk false 64 ((andK false 64 (shrK 64 a0 1) 6148914691236517205) + (andK false 64 a0 6148914691236517205))) 3689348814741910323))) 4) + (wrk false 64 ((andK false 64 (shrK 64 (wrk false 64 ((andK false 64 (shrK 64 a0 1) 6148914691236517205) + (andK false 64 a0 6148914691236517205))) 2) 3689348814741910323) + (andK false 64 (wrk false 64 ((andK false 64 (shrK 64 a0 1) 6148914691236517205) + (andK false 64 a0 6148914691236517205))) 3689348814741910323))))) 1085102592571150095) 8))) + (shrK 64 (wrk false 64 ((andK false 64 (wrk false 64 ((shrK 64 (wrk false 64 ((andK false 64 (shrK 64 (wrk false 64 ((andK false 64 (shrK 64 a0 1) 6148914691236517205) + (andK false 64 a0 6148914691236517205))) 2) 3689348814741910323) + (andK false 64 (wrk false 64 ((andK false 64 (shrK 64 a0 1) 6148914691236517205) + (andK false 64 a0 6148914691236517205))) 3689348814741910323))) 4) + (wrk false 64 ((andK false 64 (shrK 64 (wrk false 64 ((andK false 64 (shrK 64 a0 1) 6148914691236517205) + (andK false 64 a0 6148914691236517205))) 2) 3689348814741910323) + (andK false 64 (wrk false 64 ((andK false 64 (shrK 64 a0 1) 6148914691236517205) + (andK false 64 a0 6148914691236517205))) 3689348814741910323))))) 1085102592571150095) + (shrK 64 (andK false 64 (wrk false 64 ((shrK 64 (wrk false 64 ((andK false 64 (shrK 64 (wrk false 64 ((andK false 64 (shrK 64 a0 1) 6148914691236517205) + (andK false 64 a0 6148914691236517205))) 2) 3689348814741910323) + (andK false 64 (wrk false 64 ((andK false 64 (shrK 64 a0 1) 6148914691236517205) + (andK false 64 a0 6148914691236517205))) 3689348814741910323))) 4) + (wrk false 64 ((andK false 64 (shrK 64 (wrk false 64 ((andK false 64 (shrK 64 a0 1) 6148914691236517205) + (andK false 64 a0 6148914691236517205))) 2) 3689348814741910323) + (andK false 64 (wrk false 64 ((andK false 64 (shrK 64 a0 1) 6148914691236517205) + (andK false 64 a0 6148914691236517205))) 3689348814741910323))))) 1085102592571150095) 8))) 16))) 32)))) 127)) rfl) ?_
 refine FL.nil ?_
 refine FW.ret ?_
 obtain rfl := hp
 exact ⟨.inr rfl, res1 rfl rfl ⟨rfl, S0.back⟩⟩

theorem w_math_bits_OnesCount {Ha : GH} {wa : World} (hs : Sl Ha wa) (a0 : Int) :
  Calls Tryz.prog 241 #[Value.int .u64 a0] wa (Sc Ha wa (Value.int .i64 (PF.math_bits_OnesCount a0))) := by
 obtain ⟨r, hp⟩ : ∃ r, (PF.math_bits_OnesCount a0) = r := ⟨_, rfl⟩
 rw [hp]
 unfold PF.math_bits_OnesCount at hp
 have S0 := St.init hs
 refine calls_go (N := 8) (args := [Value.int .u64 a0]) Tryz.func241 rfl rfl rfl ?_
 refine FW.seq (FW.region ?_)
 refine FL.v (E.assign (v := Value.int .i64 0) rfl) ?_
 refine FL.nil (FW.seq ?_)
 refine FW.condF rfl rfl ?_
 refine FW.skip (FW.seq (FW.region ?_))
 refine FL.v (E.move (v := Value.int .u64 a0) rfl) ?_
 refine FL.call rfl rfl rfl (E.call Tryz.call262 (A1 rfl)) (w_math_bits_OnesCount64 S0.sl a0) ?_
 rintro e w21 ⟨rfl, r22⟩
 refine ⟨_, rfl, ?_⟩
 have S23 := S0.call r22
 refine FL.v (E.assign (v := Value.int .i64 (PF.math_bits_OnesCount64 a0)) rfl) ?_
 refine FL.nil ?_
 refine FW.ret ?_
 obtain rfl := hp
 exact ⟨.inr rfl, res1 rfl rfl ⟨rfl, S23.back⟩⟩

theorem w_impl_degreeOf {Ha : GH} {wa : World} (hs : Sl Ha wa) (a0 : Int) :
  Calls Tryz.prog 188 #[Value.int .i64 a0] wa (Sc Ha wa (Value.int .i64 (PF.impl_degreeOf a0))) := by
 obtain ⟨r, hp⟩ : ∃ r, (PF.impl_degreeOf a0) = r := ⟨_, rfl⟩
 rw [hp]
 unfold PF.impl_degreeOf at hp
 have S0 := St.init hs
 refine calls_go (N := 6) (args := [Value.int .i64 a0]) Tryz.func188 rfl rfl rfl ?_
 refine FW.seq (FW.region ?_)
 refine FL.v (E.assign (v := Value.int .i64 0) rfl) ?_
 refine FL.nil (FW.seq (FW.region ?_))
 refine FL.v (E.move (v := Value.int .i64 a0) rfl) ?_
 refine FL.v (E.conv Tryz.runUnderlying3 Tryz.runUnderlying202 rfl) ?_
 refine FL.call rfl rfl rfl (E.call Tryz.call241 (A1 rfl)) (w_math_bits_OnesCount S0.sl (wrk false 64 a0)) ?_
 rintro e w21 ⟨rfl, r22⟩
 refine ⟨_, rfl, ?_⟩
 have S23 := S0.call r22
 refine FL.v (E.assign (v := Value.int .i64 (PF.math_bits_OnesCount (wrk false 64 a0))) rfl) ?_
 refine FL.nil ?_
 refine FW.ret ?_
 obtain rfl := hp
 exact ⟨.inr rfl, res1 rfl rfl ⟨rfl, S23.back⟩⟩

theorem w_cmp_isNaN_int {Ha : GH} {wa : World} (hs : Sl Ha wa) (a0 : Int) :
  Calls Tryz.prog 225 #[Value.int .i64 a0] wa (Sc Ha wa (Value.bool (PF.cmp_isNaN_int a0))) := by
 obtain ⟨r, hp⟩ : ∃ r, (PF.cmp_isNaN_int a0) = r := ⟨_, rfl⟩
 rw [hp]
 unfold PF.cmp_isNaN_int at hp
 have S0 := St.init hs
 refine calls_go (N := 6) (args := [Value.int .i64 a0]) Tryz.func225 rfl rfl rfl ?_
 refine FW.seq (FW.region ?_)
 refine FL.v (E.assign (v := Value.bool false) rfl) ?_
 refine FL.nil (FW.seq (FW.region ?_))
 refine FL.v (E.move (v := Value.int .i64 a0) rfl) ?_
 refine FL.v (E.move (v := Value.int .i64 a0) rfl) ?_
 refine FL.v (E.neq rfl rfl) ?_
 refine FL.v (E.assign (v := Value.bool (!(a0 == a0))) rfl) ?_
 refine FL.nil ?_
 refine FW.ret ?_
 obtain rfl := hp
 exact ⟨.inr rfl, res1 rfl rfl ⟨rfl, S0.back⟩⟩

theorem w_cmp_Compare_int {Ha : GH} {wa : World} (hs : Sl Ha wa) (a0 : Int) (a1 : Int) :
  Calls Tryz.prog 171 #[Value.int .i64 a0, Value.int .i64 a1] wa (Sc Ha wa (Value.int .i64 (PF.cmp_Compare_int a0 a1))) := by
 obtain ⟨r, hp⟩ : ∃ r, (PF.cmp_Compare_int a0 a1) = r := ⟨_, rfl⟩
 rw [hp]
 unfold PF.cmp_Compare_int at hp
 have S0 := St.init hs
 refine calls_go (N := 20) (args := [Value.int .i64 a0, Value.int .i64 a1]) Tryz.func171 rfl rfl rfl ?_
 refine FW.seq (FW.region ?_)
 refine FL.v (E.assign (v := Value.int .i64 0) rfl) ?_
 refine FL.nil (FW.seq (FW.region ?_))
 refine FL.v (E.move (v := Value.int .i64 a0) rfl) ?_
 refine FL.call rfl rfl rfl (E.call Tryz.call225 (A1 rfl)) (w_cmp_isNaN_int S0.sl a0) ?_
 rintro e w21 ⟨rfl, r22⟩
 refine ⟨_, rfl, ?_⟩
 have S23 := S0.call r22
 refine FL.v (E.assign (v := Value.bool (PF.cmp_isNaN_int a0)) rfl) ?_
 refine FL.nil (FW.seq (FW.region ?_))
 refine FL.v (E.move (v := Value.int .i64 a1) rfl) ?_
 refine FL.call rfl rfl rfl (E.call Tryz.call225 (A1 rfl)) (w_cmp_isNaN_int S23.sl a1) ?_
 rintro e w24 ⟨rfl, r25⟩
 refine ⟨_, rfl, ?_⟩
 have S26 := S23.call r25
 refine FL.v (E.assign (v := Value.bool (PF.cmp_isNaN_int a1)) rfl) ?_
 refine FL.nil (FW.seq (FW.seq (FW.region ?_)))
 refine FL.v (E.move (v := Value.bool (PF.cmp_isNaN_int a0)) rfl) ?_
 refine FL.nil ?_
 rcases ifT hp with ⟨c27, hp⟩ | ⟨c27, hp⟩
 ·
  refine FW.condT rfl c27 ?_
  refine FW.seq (FW.seq (FW.region ?_))
  refine FL.v (E.move (v := Value.bool (PF.cmp_isNaN_int a1)) rfl) ?_
  refine FL.nil ?_
  rcases ifT hp with ⟨c28, hp⟩ | ⟨c28, hp⟩
  ·
   refine FW.condT rfl c28 ?_
   refine FW.seq (FW.region ?_)
   refine FL.v (E.assign (v := Value.int .i64 0) rfl) ?_
   refine FL.nil ?_
   refine FW.ret ?_
   obtain rfl := hp
   exact ⟨.inr rfl, res1 rfl rfl ⟨rfl, S26.back⟩⟩
  ·
   refine FW.condF rfl c28 ?_
   refine FW.skip (FW.seq (FW.region ?_))
   refine FL.v (E.assign (v := Value.int .i64 (-1)) rfl) ?_
   refine FL.nil ?_
   refine FW.ret ?_
   obtain rfl := hp
   exact ⟨.inr rfl, res1 rfl rfl ⟨rfl, S26.back⟩⟩
 ·
  refine FW.condF rfl c27 ?_
  refine FW.skip (FW.seq (FW.seq (FW.region ?_)))
  refine FL.v (E.move (v := Value.bool (PF.cmp_isNaN_int a1)) rfl) ?_
  refine FL.nil ?_
  rcases ifT hp with ⟨c29, hp⟩ | ⟨c29, hp⟩
  ·
   refine FW.condT rfl c29 ?_
   refine FW.seq (FW.region ?_)
   refine FL.v (E.assign (v := Value.int .i64 1) rfl) ?_
   refine FL.nil ?_
   refine FW.ret ?_
   obtain rfl := hp
   exact ⟨.inr rfl, res1 rfl rfl ⟨rfl, S26.back⟩⟩
  ·
   refine FW.condF rfl c29 ?_
   refine FW.skip (FW.seq (FW.seq (FW.region ?_)))
   refine FL.v (E.move (v := Value.int .i64 a0) rfl) ?_
   refine FL.v (E.move (v := Value.int .i64 a1) rfl) ?_
   refine FL.v (E.lss rfl rfl) ?_
   refine FL.nil ?_
   rcases ifT hp with ⟨c30, hp⟩ | ⟨c30, hp⟩
   ·
    refine FW.condT rfl c30 ?_
    refine FW.seq (FW.region ?_)
    refine FL.v (E.assign (v := Value.int .i64 (-1)) rfl) ?_
    refine FL.nil ?_
    refine FW.ret ?_
    obtain rfl := hp
    exact ⟨.inr rfl, res1 rfl rfl ⟨rfl, S26.back⟩⟩
   ·
    refine FW.condF rfl c30 ?_
    refine FW.skip (FW.seq (FW.seq (FW.region ?_)))
    refine FL.v (E.move (v := Value.int .i64 a0) rfl) ?_
    refine FL.v (E.move (v := Value.int .i64 a1) rfl) ?_
    refine FL.v (E.gtr rfl rfl) ?_
    refine FL.nil ?_
    rcases ifT hp with ⟨c31, hp⟩ | ⟨c31, hp⟩
    ·
     refine FW.condT rfl c31 ?_
     refine FW.seq (FW.region ?_)
     refine FL.v (E.assign (v := Value.int .i64 1) rfl) ?_
     refine FL.nil ?_
     refine FW.ret ?_
     obtain rfl := hp
     exact ⟨.inr rfl, res1 rfl rfl ⟨rfl, S26.back⟩⟩
    ·
     refine FW.condF rfl c31 ?_
     refine FW.skip (FW.seq (FW.region ?_))
     refine FL.v (E.assign (v := Value.int .i64 0) rfl) ?_
     refine FL.nil ?_
     refine FW.ret ?_
     obtain rfl := hp
     exact ⟨.inr rfl, res1 rfl rfl ⟨rfl, S26.back⟩⟩

theorem w_cmp_Or_int {Ha : GH} {wa : World} (hs : Sl Ha wa) (v0 : Value) (a0 : List Int) (p0 : RSl Ha eI 1 v0 a0) {r : Int} (hp : (PF.cmp_Or_int a0) = some r) :
  Calls Tryz.prog 170 #[v0] wa (Sc Ha wa (Value.int .i64 r)) := by
 unfold PF.cmp_Or_int at hp
 have S0 := St.init hs
 refine calls_go (N := 18) (args := [v0]) Tryz.func170 rfl rfl rfl ?_
 refine FW.seq (FW.region ?_)
 refine FL.v (E.assign (v := Value.int .i64 0) rfl) ?_
 refine FL.nil (FW.seq (FW.region ?_))
 refine FL.v (E.assign (v := Value.int .i64 0) rfl) ?_
 refine FL.nil (FW.seq (FW.seq (FW.region ?_)))
 refine FL.v (E.move (v := v0) rfl) ?_
 refine FL.v (E.lenP te73 rfl p0) ?_
 refine FL.v (E.move (v := Value.int .i64 0) rfl) ?_
 refine FL.nil ?_
 obtain ⟨q22, hq, hp⟩ := bndR hp
 refine FW.block ?_
 refine FW.mono (FW.forL (S := Unit) (X := Int) (fun (i22 : Nat) (s22 : Unit) f w => ∃ H : GH, St Ha wa H w [] ∧ Inc Ha H ∧ f 8 = Value.int .i64 ((i22 : Nat) : Int) ∧ f 3 = Value.int .i64 0 ∧ f 6 = v0 ∧ f 7 = Value.int .i64 (len a0)) (fun q e f w => match q with | .go s22 => e = Exit.exit 0 ∧ (∃ H : GH, St Ha wa H w [] ∧ Inc Ha H ∧ f 3 = Value.int .i64 0) | .rt x => ((e = Exit.ret) ∧ (fun e f w => (e = Exit.normal ∨ e = Exit.ret) ∧ ∀ a, Fr (δ := []) 18 a f → ∃ v, (results Tryz.f170 a.tmps).run Tryz.prog w = .ok v w ∧ (Sc Ha wa (Value.int .i64 x)) (.returned v) w) e f w)) hq ⟨_, S0, (Inc.rfl _), rfl, rfl, rfl, rfl⟩ ?_ ?_) ?_
 ·
  clear hp hq
  rintro i22 y21 s22 f43 w42 ⟨H39, S40, i41, k44, k45, k46, k47⟩ hx22 o55 hp
  refine FW.seq (FW.region ?_)
  refine FL.v (E.lssT k44 k47 (lss_len hx22)) ?_
  refine FL.nil (FW.seq ?_)
  refine FW.condT rfl rfl ?_
  refine FW.skip (FW.seq (FW.block (FW.seq (FW.region ?_))))
  obtain ⟨p48, cs49, pt50, l51, at52, rel53⟩ := p0.at (ix_nat hx22)
  obtain rfl := eI_open rel53
  refine FL.v (E.indexAddr te73 k46 k44 pt50) ?_
  refine FL.v (E.load rfl (run_load0 Tryz.isAgg3 ((at52.mono i41).now S40.sl) rfl)) ?_
  refine FL.v (E.assign (v := Value.int .i64 y21) rfl) ?_
  refine FL.nil (FW.seq (FW.region ?_))
  refine FL.v (E.move (v := Value.int .i64 y21) rfl) ?_
  refine FL.v (E.move k45) ?_
  refine FL.v (E.neq rfl rfl) ?_
  refine FL.nil ?_
  rcases ifB hp with ⟨c54, hp⟩ | ⟨c54, hp⟩
  ·
   refine FW.condT rfl c54 ?_
   refine FW.seq (FW.region ?_)
   refine FL.v (E.move (v := Value.int .i64 y21) rfl) ?_
   refine FL.v (E.assign (v := Value.int .i64 y21) rfl) ?_
   refine FL.nil ?_
   refine FW.ret ?_
   obtain rfl := Option.some.inj hp
   exact ⟨nofun, rfl, ⟨.inr rfl, res1 rfl rfl ⟨rfl, S40.back⟩⟩⟩
  ·
   refine FW.condF rfl c54 ?_
   refine FW.skip (FW.region ?_)
   refine FL.v (E.add k44 rfl) ?_
   refine FL.v (E.move (v := Value.int .i64 (wr (((i22 : Nat) : Int) + 1))) rfl) ?_
   refine FL.nil ?_
   obtain rfl := Option.some.inj hp
   exact ⟨rfl, ⟨_, S40, i41, (nat_succ rfl (lt_of_get hx22) (p0.mono i41).le), k45, k46, k47⟩⟩
 ·
  clear hp hq
  rintro s22 f66 w65 ⟨H62, S63, i64, k67, k68, k69, k70⟩
  refine FW.seq (FW.region ?_)
  refine FL.v (E.lss k67 k70) ?_
  refine FL.nil (FW.seq ?_)
  refine FW.condF rfl dlt_len ?_
  refine FW.exit ?_
  exact ⟨nofun, rfl, ⟨_, S63, i64, k68⟩⟩
 ·
  clear hq
  intro e f60 w59 hD
  rcases q22 with s22 | x22
  ·
   obtain ⟨rfl, hD⟩ := hD
   obtain ⟨H56, S57, i58, k61⟩ := hD
   replace hp := el_go hp
   refine FW.seq (FW.region ?_)
   refine FL.v (E.move k61) ?_
   refine FL.v (E.assign (v := Value.int .i64 0) rfl) ?_
   refine FL.nil ?_
   refine FW.ret ?_
   obtain rfl := Option.some.inj hp
   exact ⟨.inr rfl, res1 rfl rfl ⟨rfl, S57.back⟩⟩
  ·
   obtain ⟨he, hL⟩ := hD
   replace hp := el_rt hp
   obtain rfl := Option.some.inj hp
   subst he
   exact hL

theorem w_impl_compareMonos {Ha : GH} {wa : World} (hs : Sl Ha wa) (a0 : Int) (a1 : Int) {r : Int} (hp : (PF.impl_compareMonos a0 a1) = some r) :
  Calls Tryz.prog 212 #[Value.int .i64 a0, Value.int .i64 a1] wa (Sc Ha wa (Value.int .i64 r)) := by
 unfold PF.impl_compareMonos at hp
 have S0 := St.init hs
 refine calls_go (N := 15) (args := [Value.int .i64 a0, Value.int .i64 a1]) Tryz.func212 rfl rfl rfl ?_
 refine FW.seq (FW.region ?_)
 refine FL.v (E.assign (v := Value.int .i64 0) rfl) ?_
 refine FL.nil (FW.seq (FW.region ?_))
 refine FL.v (E.move (v := Value.int .i64 a0) rfl) ?_
 refine FL.call rfl rfl rfl (E.call Tryz.call188 (A1 rfl)) (w_impl_degreeOf S0.sl a0) ?_
 rintro e w21 ⟨rfl, r22⟩
 refine ⟨_, rfl, ?_⟩
 have S23 := S0.call r22
 refine FL.v (E.move (v := Value.int .i64 a1) rfl) ?_
 refine FL.call rfl rfl rfl (E.call Tryz.call188 (A1 rfl)) (w_impl_degreeOf S23.sl a1) ?_
 rintro e w24 ⟨rfl, r25⟩
 refine ⟨_, rfl, ?_⟩
 have S26 := S23.call r25
 refine FL.call rfl rfl rfl (E.call Tryz.call171 (A2 rfl rfl)) (w_cmp_Compare_int S26.sl (PF.impl_degreeOf a0) (PF.impl_degreeOf a1)) ?_
 rintro e w27 ⟨rfl, r28⟩
 refine ⟨_, rfl, ?_⟩
 have S29 := S26.call r28
 refine FL.v (E.move (v := Value.int .i64 a0) rfl) ?_
 refine FL.v (E.move (v := Value.int .i64 a1) rfl) ?_
 refine FL.call rfl rfl rfl (E.call Tryz.call171 (A2 rfl rfl)) (w_cmp_Compare_int S29.sl a0 a1) ?_
 rintro e w30 ⟨rfl, r31⟩
 refine ⟨_, rfl, ?_⟩
 have S32 := S29.call r31
 obtain ⟨v33, w34, run35, S36⟩ := S32.buildSlice (P := Tryz.prog) te73 [Value.int .i64 (PF.cmp_Compare_int (PF.impl_degreeOf a0) (PF.impl_degreeOf a1)), Value.int .i64 (PF.cmp_Compare_int a0 a1)] (parts := #[(0, Value.int .i64 (PF.cmp_Compare_int (PF.impl_degreeOf a0) (PF.impl_degreeOf a1))), (1, Value.int .i64 (PF.cmp_Compare_int a0 a1))]) (cells := [Value.int .i64 (PF.cmp_Compare_int (PF.impl_degreeOf a0) (PF.impl_degreeOf a1)), Value.int .i64 (PF.cmp_Compare_int a0 a1)]) rfl (szs_cons rfl (szs_cons rfl szs_nil)) (fc_cons rfl (fc_cons rfl fc_nil)) (ones_cons rfl (ones_cons rfl ones_nil)) (Nat.le_of_ble_eq_true rfl)
 have els37 : Els (up wa.heap.size Ha) eI 1 [Value.int .i64 (PF.cmp_Compare_int (PF.impl_degreeOf a0) (PF.impl_degreeOf a1)), Value.int .i64 (PF.cmp_Compare_int a0 a1)] [(PF.cmp_Compare_int (PF.impl_degreeOf a0) (PF.impl_degreeOf a1)), (PF.cmp_Compare_int a0 a1)] := (Els.snoc (H := (up wa.heap.size Ha)) (E := eI) (k := 1) (c := [Value.int .i64 (PF.cmp_Compare_int a0 a1)]) (x := (PF.cmp_Compare_int a0 a1)) (Els.snoc (H := (up wa.heap.size Ha)) (E := eI) (k := 1) (c := [Value.int .i64 (PF.cmp_Compare_int (PF.impl_degreeOf a0) (PF.impl_degreeOf a1))]) (x := (PF.cmp_Compare_int (PF.impl_degreeOf a0) (PF.impl_degreeOf a1))) Els.nil rfl rfl) rfl rfl)
 refine FL.v (E.buildSlice (B2 rfl rfl) run35) ?_
 obtain ⟨H38, S39, i40, h41, nv42⟩ := S36.sealRowU (i := 0) (l' := []) rfl els37 (by decide) rfl
 obtain ⟨r43, hr44, hp⟩ := bnd hp
 refine FL.call rfl rfl rfl (E.call Tryz.call170 (A1 rfl)) (w_cmp_Or_int S39.sl v33 [(PF.cmp_Compare_int (PF.impl_degreeOf a0) (PF.impl_degreeOf a1)), (PF.cmp_Compare_int a0 a1)] (h41.mono upI) hr44) ?_
 rintro e w45 ⟨rfl, r46⟩
 refine ⟨_, rfl, ?_⟩
 have r46 := Run.lend i40 S36.sl r46
 have S47 := S36.call r46
 refine FL.v (E.assign (v := Value.int .i64 r43) rfl) ?_
 refine FL.nil ?_
 refine FW.ret ?_
 obtain rfl := Option.some.inj hp
 exact ⟨.inr rfl, res1 rfl rfl ⟨rfl, S47.back⟩⟩

theorem w_impl_leading {Ha : GH} {wa : World} (hs : Sl Ha wa) (v0 : Value) (a0 : List Int) (p0 : RSl Ha eI 1 v0 a0) {r : Int} (hp : (PF.impl_leading a0) = some r) :
    Calls Tryz.prog 163 #[v0] wa (Sc Ha wa (Value.int .i64 r)) := by
  unfold PF.impl_leading at hp
  have S0 := St.init hs
  refine calls_go (N := 28) (args := [v0]) Tryz.func163 rfl rfl rfl ?_
  refine FW.seq (FW.region ?_)
  refine FL.v (E.assign (v := Value.int .i64 0) rfl) ?_
  refine FL.nil (FW.seq (FW.region ?_))
  refine FL.v (E.assign (v := Value.int .i64 (-1)) rfl) ?_
  refine FL.nil (FW.seq (FW.seq (FW.region ?_)))
  refine FL.v (E.move (v := v0) rfl) ?_
  refine FL.v (E.lenP te99 rfl p0) ?_
  refine FL.v (E.move (v := Value.int .i64 0) rfl) ?_
  refine FL.nil ?_
  obtain ⟨q22, hq, hp⟩ := bndR hp
  refine FW.block ?_
  refine FW.mono (FW.forL (S := Int) (X := Empty) (fun (i22 : Nat) (s22 : Int) f w => ∃ H : GH, St Ha wa H w [] ∧ Inc Ha H ∧ f 8 = Value.int .i64 ((i22 : Nat) : Int) ∧ f 3 = Value.int .i64 s22 ∧ f 6 = v0 ∧ f 7 = Value.int .i64 (len a0)) (fun (q : Rs Int Empty) e f w => match q with | .go s22 => e = Exit.exit 0 ∧ (∃ H : GH, St Ha wa H w [] ∧ Inc Ha H ∧ f 3 = Value.int .i64 s22) | .rt x => x.elim) hq ⟨_, S0, (Inc.rfl _), rfl, rfl, rfl, rfl⟩ ?_ ?_) ?_
  ·
    clear hp hq
    rintro i22 y21 s22 f104 w103 ⟨H100, S101, i102, k105, k106, k107, k108⟩ hx22 o177 hp
    refine FW.seq (FW.region ?_)
    refine FL.v (E.lssT k105 k108 (lss_len hx22)) ?_
    refine FL.nil (FW.seq ?_)
    refine FW.condT rfl rfl ?_
    refine FW.skip (FW.seq (FW.block (FW.seq (FW.region ?_))))
    refine FL.v (E.move k105) ?_
    obtain ⟨p109, cs110, pt111, l112, at113, rel114⟩ := p0.at (ix_nat hx22)
    obtain rfl := eI_open rel114
    refine FL.v (E.indexAddr te99 k107 k105 pt111) ?_
    refine FL.v (E.load rfl (run_load0 Tryz.isAgg3 ((at113.mono i102).now S101.sl) rfl)) ?_
    refine FL.v (E.assign (v := Value.int .i64 ((i22 : Nat) : Int)) rfl) ?_
    refine FL.v (E.assign (v := Value.int .i64 y21) rfl) ?_
    refine FL.nil (FW.seq (FW.region ?_))
    refine FL.v (E.move (v := Value.int .i64 y21) rfl) ?_
    refine FL.v (E.neq rfl rfl) ?_
    refine FL.v (E.move (v := Value.bool (!(y21 == 0))) rfl) ?_
    obtain ⟨t139, hqt139, hp⟩ := bnd hp
    refine FL.cut 9 (fun f w => ∃ H : GH, St Ha wa H w [] ∧ Inc H100 H ∧ f 3 = Value.int .i64 s22 ∧ f 4 = Value.int .i64 ((i22 : Nat) : Int) ∧ f 6 = v0 ∧ f 7 = Value.int .i64 (len a0) ∧ f 8 = Value.int .i64 ((i22 : Nat) : Int) ∧ f 24 = Value.bool t139) ?_ ?_
    ·
      clear hp; have hp := hqt139; clear hqt139
      rcases ifB hp with ⟨c145, hp⟩ | ⟨c145, hp⟩
      ·
        refine FL.val (wF_yes rfl rfl rfl c145) rfl rfl (E.move k106) ?_
        refine FL.val (wF_yes rfl rfl rfl c145) rfl rfl (E.lss rfl rfl) ?_
        refine FL.val (wF_yes rfl rfl rfl c145) rfl rfl (E.move (v := Value.bool (decide (s22 < 0))) rfl) ?_
        obtain ⟨t151, hqt151, hp⟩ := bnd hp
        refine FL.cut 5 (fun f w => ∃ H : GH, St Ha wa H w [] ∧ Inc H100 H ∧ f 3 = Value.int .i64 s22 ∧ f 4 = Value.int .i64 ((i22 : Nat) : Int) ∧ f 6 = v0 ∧ f 7 = Value.int .i64 (len a0) ∧ f 8 = Value.int .i64 ((i22 : Nat) : Int) ∧ f 15 = Value.bool (!(y21 == 0)) ∧ f 23 = Value.bool t151) ?_ ?_
        ·
          clear hp; have hp := hqt151; clear hqt151
          rcases ifB hp with ⟨c157, hp⟩ | ⟨c157, hp⟩
          ·
            refine FL.skip (wF_no rfl rfl rfl c157) rfl ?_
            refine FL.skip (wF_no rfl rfl rfl c157) rfl ?_
            refine FL.skip (wF_no rfl rfl rfl c157) rfl ?_
            refine FL.skip (wF_no rfl rfl rfl c157) rfl ?_
            obtain rfl := Option.some.inj hp
            refine FL.val (wF_yes rfl rfl rfl c145) rfl rfl (E.pickT rfl c157 rfl) ?_
            exact FL.nil ⟨rfl, _, S101, (Inc.rfl _), k106, rfl, k107, k108, k105, rfl, rfl⟩
          ·
            refine FL.val (wF_yes rfl rfl rfl c157) rfl rfl (E.move (v := Value.int .i64 ((i22 : Nat) : Int)) rfl) ?_
            refine FL.val (wF_yes rfl rfl rfl c157) rfl rfl (E.move k106) ?_
            obtain ⟨r158, hr159, hp⟩ := bnd hp
            refine FL.call (wF_yes rfl rfl rfl c157) rfl rfl (E.call Tryz.call212 (A2 rfl rfl)) (w_impl_compareMonos S101.sl ((i22 : Nat) : Int) s22 hr159) ?_
            rintro e w160 ⟨rfl, r161⟩
            refine ⟨_, rfl, ?_⟩
            have S162 := S101.call r161
            refine FL.val (wF_yes rfl rfl rfl c157) rfl rfl (E.gtr rfl rfl) ?_
            obtain rfl := Option.some.inj hp
            refine FL.val (wF_yes rfl rfl rfl c145) rfl rfl (E.pickF rfl c157 rfl) ?_
            exact FL.nil ⟨rfl, _, S162, (Inc.rfl _), k106, rfl, k107, k108, k105, rfl, rfl⟩
        rintro f156 w155 ⟨H152, S153, i154, k163, k164, k165, k166, k167, k168, k169⟩
        obtain rfl := Option.some.inj hp
        refine FL.v (E.pickT k168 c145 k169) ?_
        exact FL.nil ⟨rfl, _, S153, i154, k163, k164, k165, k166, k167, rfl⟩
      ·
        refine FL.skip (wF_no rfl rfl rfl c145) rfl ?_
        refine FL.skip (wF_no rfl rfl rfl c145) rfl ?_
        refine FL.skip (wF_no rfl rfl rfl c145) rfl ?_
        refine FL.skip (wF_undef rfl rfl rfl) rfl ?_
        refine FL.skip (wF_undef rfl rfl rfl) rfl ?_
        refine FL.skip (wF_undef rfl rfl rfl) rfl ?_
        refine FL.skip (wF_undef rfl rfl rfl) rfl ?_
        refine FL.skip (wF_no rfl rfl rfl c145) rfl ?_
        obtain rfl := Option.some.inj hp
        refine FL.v (E.pickF rfl c145 rfl) ?_
        exact FL.nil ⟨rfl, _, S101, (Inc.rfl _), k106, rfl, k107, k108, k105, rfl⟩
    rintro f144 w143 ⟨H140, S141, i142, k170, k171, k172, k173, k174, k175⟩
    refine FL.nil ?_
    rcases ifB hp with ⟨c176, hp⟩ | ⟨c176, hp⟩
    ·
      refine FW.condT k175 c176 ?_
      refine FW.region ?_
      refine FL.v (E.move k171) ?_
      refine FL.v (E.assign (v := Value.int .i64 ((i22 : Nat) : Int)) rfl) ?_
      refine FL.nil (FW.region ?_)
      refine FL.v (E.add k174 rfl) ?_
      refine FL.v (E.move (v := Value.int .i64 (wr (((i22 : Nat) : Int) + 1))) rfl) ?_
      refine FL.nil ?_
      obtain rfl := Option.some.inj hp
      exact ⟨rfl, ⟨_, S141, (i102.tr i142), (nat_succ rfl (lt_of_get hx22) (p0.mono (i102.tr i142)).le), rfl, k172, k173⟩⟩
    ·
      refine FW.condF k175 c176 ?_
      refine FW.skip (FW.region ?_)
      refine FL.v (E.add k174 rfl) ?_
      refine FL.v (E.move (v := Value.int .i64 (wr (((i22 : Nat) : Int) + 1))) rfl) ?_
      refine FL.nil ?_
      obtain rfl := Option.some.inj hp
      exact ⟨rfl, ⟨_, S141, (i102.tr i142), (nat_succ rfl (lt_of_get hx22) (p0.mono (i102.tr i142)).le), k170, k172, k173⟩⟩
  ·
    clear hp hq
    rintro s22 f188 w187 ⟨H184, S185, i186, k189, k190, k191, k192⟩
    refine FW.seq (FW.region ?_)
    refine FL.v (E.lss k189 k192) ?_
    refine FL.nil (FW.seq ?_)
    refine FW.condF rfl dlt_len ?_
    refine FW.exit ?_
    exact ⟨nofun, rfl, ⟨_, S185, i186, k190⟩⟩
  ·
    clear hq
    intro e f182 w181 hD
    rcases q22 with s22 | x22
    ·
      obtain ⟨rfl, hD⟩ := hD
      obtain ⟨H178, S179, i180, k183⟩ := hD
      replace hp := el_go hp
      refine FW.seq (FW.region ?_)
      refine FL.v (E.move k183) ?_
      refine FL.v (E.assign (v := Value.int .i64 s22) rfl) ?_
      refine FL.nil ?_
      refine FW.ret ?_
      obtain rfl := Option.some.inj hp
      exact ⟨.inr rfl, res1 rfl rfl ⟨rfl, S179.back⟩⟩
    · exact x22.elim

@[reducible] def p_impl_echelon_reduce (H0 : GH) (w0 : World) (Ha : GH) (L : List MO) (b0 : Nat) (v0_2 : Value) (n0_2 : Nat) (k0_2 : List Value) (v0_3 : Value) (n0_3 : Nat) (k0_3 : List Value) (r : ((List Int) × (List Int) × echelon)) : Ending → World → Prop :=
  fun e w' => ∃ H' : GH, ∃ v0 : Value, ∃ v1 : Value, ∃ n1 : Nat, ∃ c1 : List Value, e = .returned (Value.tuple #[v0, v1]) ∧ (St H0 w0 H' w' (.row 3 1 v1 n1 c1 :: .box b0 148 [Value.int .i64 r.2.2.ring.p, Value.int .i64 r.2.2.ring.vars, v0_2, v0_3, Value.int .i64 r.2.2.many] :: .row 99 1 v0_2 n0_2 k0_2 :: .row 99 1 v0_3 n0_3 k0_3 :: L) ∧ Inc Ha H') ∧ RSl H' eI 1 v0 r.1 ∧ Els (up w0.heap.size H') eI 1 c1 r.2.1
set_option maxHeartbeats 4000000 in
theorem w_impl_echelon_reduce {H0 Ha : GH} {w0 wa : World} {L : List MO} {a0 : echelon} {b0 : Nat} {v0_2 : Value} {n0_2 : Nat} {k0_2 : List Value} {v0_3 : Value} {n0_3 : Nat} {k0_3 : List Value} (S0 : St H0 w0 Ha wa (.box b0 148 [Value.int .i64 a0.ring.p, Value.int .i64 a0.ring.vars, v0_2, v0_3, Value.int .i64 a0.many] :: .row 99 1 v0_2 n0_2 k0_2 :: .row 99 1 v0_3 n0_3 k0_3 :: L)) (p0_2 : Els (up w0.heap.size Ha) (eL eI 1) 1 k0_2 a0.rows) (d0_2 : (bl k0_2).Nodup) (p0_3 : Els (up w0.heap.size Ha) (eL eI 1) 1 k0_3 a0.made) (v1 : Value) (a1 : List Int) (p1 : RSl Ha eI 1 v1 a1) {r : ((List Int) × (List Int) × echelon)} (hp : (PF.impl_echelon_reduce a0 a1) = some r) :
    Calls Tryz.prog 99 #[Value.pointer (some (⟨b0, 0, none⟩ : Addr)), v1] wa (p_impl_echelon_reduce H0 w0 Ha L b0 v0_2 n0_2 k0_2 v0_3 n0_3 k0_3 r) := by
  unfold PF.impl_echelon_reduce at hp
  refine calls_go (N := 82) (args := [Value.pointer (some (⟨b0, 0, none⟩ : Addr)), v1]) Tryz.func99 rfl rfl rfl ?_
  refine FW.seq (FW.region ?_)
  refine FL.v (E.assign (v := Value.slice none 0 0) rfl) ?_
  refine FL.v (E.assign (v := Value.slice none 0 0) rfl) ?_
  refine FL.nil (FW.seq (FW.region ?_))
  refine FL.v (E.move (v := Value.pointer (some (⟨b0, 0, none⟩ : Addr))) rfl) ?_
  refine FL.v (E.nilCheck rfl) ?_
  refine FL.v (E.fieldAddr tf148_3 rfl) ?_
  refine FL.v (E.load rfl (run_load1 Tryz.isAgg3 (S0.box_now (i := 0) rfl) rfl)) ?_
  obtain ⟨xs21, hm22, hp⟩ := bnd hp
  obtain ⟨v23, w24, n28, cs29, run25, S26, els27, hbl30⟩ := S0.makeEls (P := Tryz.prog) te99 (G := (up w0.heap.size Ha)) (En := eI) (x0 := (0 : Int)) hm22 rfl (ones_cons rfl ones_nil) .i64 .i64
  refine FL.v (E.makeSlice rfl rfl run25) ?_
  refine FL.v (E.assign (v := v23) rfl) ?_
  refine FL.nil (FW.seq (FW.seq (FW.region ?_)))
  refine FL.v (E.move (v := Value.pointer (some (⟨b0, 0, none⟩ : Addr))) rfl) ?_
  refine FL.v (E.nilCheck rfl) ?_
  refine FL.v (E.fieldAddr tf148_1 rfl) ?_
  refine FL.v (E.load rfl (run_load1 Tryz.isAgg103 (S26.box_now (i := 1) rfl) rfl)) ?_
  refine FL.v (E.lenO te103 rfl S26 (i := 2) rfl p0_2 (by decide)) ?_
  refine FL.v (E.move (v := Value.int .i64 0) rfl) ?_
  refine FL.nil ?_
  obtain ⟨m31, hchk32, hp⟩ := bnd hp
  obtain ⟨q32, hq, hp⟩ := bndR hp
  refine FW.block ?_
  refine FW.mono (FW.forR (S := ((List Int) × (List Int))) (X := Empty) (fun (i32 : Nat) (s32 : ((List Int) × (List Int))) f w => ∃ H : GH, ∃ v33 : Value, ∃ n34 : Nat, ∃ cs35 : List Value, ∃ v37 : Value, St H0 w0 H w (.row 3 1 v33 n34 cs35 :: .box b0 148 [Value.int .i64 a0.ring.p, Value.int .i64 a0.ring.vars, v0_2, v0_3, Value.int .i64 a0.many] :: .row 99 1 v0_2 n0_2 k0_2 :: .row 99 1 v0_3 n0_3 k0_3 :: L) ∧ Inc Ha H ∧ Els (up w0.heap.size H) eI 1 cs35 s32.1 ∧ RSl H eI 1 v37 s32.2 ∧ f 22 = Value.int .i64 ((i32 : Nat) : Int) ∧ f 0 = Value.pointer (some (⟨b0, 0, none⟩ : Addr)) ∧ f 1 = v37 ∧ f 6 = v33 ∧ f 20 = v0_2 ∧ f 21 = Value.int .i64 (len a0.rows)) (fun (q : Rs ((List Int) × (List Int)) Empty) e f w => match q with | .go s32 => e = Exit.exit 0 ∧ (∃ H : GH, ∃ v33 : Value, ∃ n34 : Nat, ∃ cs35 : List Value, ∃ v37 : Value, St H0 w0 H w (.row 3 1 v33 n34 cs35 :: .box b0 148 [Value.int .i64 a0.ring.p, Value.int .i64 a0.ring.vars, v0_2, v0_3, Value.int .i64 a0.many] :: .row 99 1 v0_2 n0_2 k0_2 :: .row 99 1 v0_3 n0_3 k0_3 :: L) ∧ Inc Ha H ∧ Els (up w0.heap.size H) eI 1 cs35 s32.1 ∧ RSl H eI 1 v37 s32.2 ∧ f 1 = v37 ∧ f 6 = v33) | .rt x => x.elim) hq ⟨_, _, _, _, _, S26, (Inc.rfl _), els27, p1, rfl, rfl, rfl, rfl, rfl, rfl⟩ ?_ ?_) ?_
  ·
    clear hp hq
    rintro i32 s32 f43 w42 ⟨H39, v33, n34, cs35, v37, S40, i41, els36, h38, k44, k45, k46, k47, k48, k49⟩ hi32 hj32 o227 hp
    refine FW.seq (FW.region ?_)
    refine FL.v (E.lssT k44 k49 (lss_chk hj32 hchk32)) ?_
    refine FL.nil (FW.seq ?_)
    refine FW.condT rfl rfl ?_
    refine FW.skip (FW.seq (FW.block (FW.seq (FW.region ?_))))
    refine FL.v (E.move k44) ?_
    obtain ⟨x56, hx57, hp⟩ := bnd hp
    obtain ⟨p50, cs51, pt52, l53, at54, rel55⟩ := S40.row_at (i := 2) rfl p0_2 (by decide) hx57
    obtain ⟨v58, rfl, h59⟩ := eL_open rel55
    refine FL.v (E.indexAddr te103 k48 k44 pt52) ?_
    refine FL.v (E.load rfl (run_load0 Tryz.isAgg99 at54 rfl)) ?_
    refine FL.v (E.assign (v := Value.int .i64 ((i32 : Nat) : Int)) rfl) ?_
    refine FL.v (E.assign (v := v58) rfl) ?_
    refine FL.nil (FW.seq (FW.region ?_))
    refine FL.v (E.move k46) ?_
    refine FL.v (E.move (v := v58) rfl) ?_
    obtain ⟨r60, hr61, hp⟩ := bnd hp
    refine FL.call rfl rfl rfl (E.call Tryz.call163 (A1 rfl)) (w_impl_leading S40.sl v58 x56 (h59.mono (upI.tr i41)) hr61) ?_
    rintro e w62 ⟨rfl, r63⟩
    refine ⟨_, rfl, ?_⟩
    have S64 := S40.call r63
    obtain ⟨x71, hx72, hp⟩ := bnd hp
    obtain ⟨p65, cs66, pt67, l68, at69, rel70⟩ := h38.at hx72
    obtain rfl := eI_open rel70
    refine FL.v (E.indexAddr te99 rfl rfl pt67) ?_
    refine FL.v (E.load rfl (run_load0 Tryz.isAgg3 (at69.now S64.sl) rfl)) ?_
    refine FL.v (E.assign (v := Value.int .i64 x71) rfl) ?_
    refine FL.nil (FW.seq (FW.region ?_))
    refine FL.v (E.move (v := Value.int .i64 x71) rfl) ?_
    refine FL.v (E.neq rfl rfl) ?_
    refine FL.nil ?_
    rcases ifB hp with ⟨c73, hp⟩ | ⟨c73, hp⟩
    ·
      refine FW.condT rfl c73 ?_
      refine FW.seq ?_
      obtain ⟨r77, hr78, hp⟩ := bnd hp
      refine FW.drawB (SX H0 w0 H39 (.box b0 148 [Value.int .i64 a0.ring.p, Value.int .i64 a0.ring.vars, v0_2, v0_3, Value.int .i64 a0.many] :: L)) (fun f w => ∃ H : GH, ∃ v87 : Value, ∃ n88 : Nat, ∃ cs89 : List Value, St H0 w0 H w (.row 3 1 v33 n34 cs35 :: .box b0 148 [Value.int .i64 a0.ring.p, Value.int .i64 a0.ring.vars, v0_2, v0_3, Value.int .i64 a0.many] :: .row 99 1 v0_2 n0_2 k0_2 :: .row 99 1 v0_3 n0_3 k0_3 :: .row 3 1 v87 n88 cs89 :: L) ∧ Inc H39 H ∧ Els (up w0.heap.size H) eI 1 cs89 r77 ∧ f 0 = Value.pointer (some (⟨b0, 0, none⟩ : Addr)) ∧ f 1 = v87 ∧ f 6 = v33 ∧ f 7 = Value.int .i64 ((i32 : Nat) : Int) ∧ f 9 = Value.int .i64 x71 ∧ f 20 = v0_2 ∧ f 21 = Value.int .i64 (len a0.rows) ∧ f 22 = Value.int .i64 ((i32 : Nat) : Int)) (by kernel_rfl) S64.sl ?_ ?_
      ·
        intro w74 r75
        have S76 := S64.call r75
        refine FB.t (i := 0) (bs 15 1) rfl (SP.nil ⟨_, (S76.selT (a := [.row 3 1 v33 n34 cs35, .box b0 148 [Value.int .i64 a0.ring.p, Value.int .i64 a0.ring.vars, v0_2, v0_3, Value.int .i64 a0.many], .row 99 1 v0_2 n0_2 k0_2, .row 99 1 v0_3 n0_3 k0_3]) (l' := [.box b0 148 [Value.int .i64 a0.ring.p, Value.int .i64 a0.ring.vars, v0_2, v0_3, Value.int .i64 a0.many]]) [1] (by decide) rfl), (Inc.rfl _)⟩) rfl (fun w' hw' => (E.move k45)) ?_
        refine FB.t (i := 1) (bs 15 3) rfl (SP.nil ⟨_, (S76.selT (a := [.row 3 1 v33 n34 cs35, .box b0 148 [Value.int .i64 a0.ring.p, Value.int .i64 a0.ring.vars, v0_2, v0_3, Value.int .i64 a0.many], .row 99 1 v0_2 n0_2 k0_2, .row 99 1 v0_3 n0_3 k0_3]) (l' := [.box b0 148 [Value.int .i64 a0.ring.p, Value.int .i64 a0.ring.vars, v0_2, v0_3, Value.int .i64 a0.many]]) [1] (by decide) rfl), (Inc.rfl _)⟩) rfl (fun w' hw' => (E.nilCheck rfl)) ?_
        refine FB.t (i := 2) (bs 15 7) rfl (SP.nil ⟨_, (S76.selT (a := [.row 3 1 v33 n34 cs35, .box b0 148 [Value.int .i64 a0.ring.p, Value.int .i64 a0.ring.vars, v0_2, v0_3, Value.int .i64 a0.many], .row 99 1 v0_2 n0_2 k0_2, .row 99 1 v0_3 n0_3 k0_3]) (l' := [.box b0 148 [Value.int .i64 a0.ring.p, Value.int .i64 a0.ring.vars, v0_2, v0_3, Value.int .i64 a0.many]]) [1] (by decide) rfl), (Inc.rfl _)⟩) rfl (fun w' hw' => (E.fieldAddr tf148_0 rfl)) ?_
        refine FB.t (i := 3) (bs 15 15) rfl (SP.nil ⟨_, (S76.selT (a := [.row 3 1 v33 n34 cs35, .box b0 148 [Value.int .i64 a0.ring.p, Value.int .i64 a0.ring.vars, v0_2, v0_3, Value.int .i64 a0.many], .row 99 1 v0_2 n0_2 k0_2, .row 99 1 v0_3 n0_3 k0_3]) (l' := [.box b0 148 [Value.int .i64 a0.ring.p, Value.int .i64 a0.ring.vars, v0_2, v0_3, Value.int .i64 a0.many]]) [1] (by decide) rfl), (Inc.rfl _)⟩) rfl (fun w' hw' => (E.load rfl (run_loadA Tryz.isAgg102 Tryz.sizeOf102 ((SX.box_now hw' (i := 0) rfl).sub (j := 0) (n := 2) (c := [Value.int .i64 a0.ring.p, Value.int .i64 a0.ring.vars]) rfl) rfl))) ?_
        refine FB.t (i := 4) (bs 15 31) rfl (SP.nil ⟨_, (S76.selT (a := [.row 3 1 v33 n34 cs35, .box b0 148 [Value.int .i64 a0.ring.p, Value.int .i64 a0.ring.vars, v0_2, v0_3, Value.int .i64 a0.many], .row 99 1 v0_2 n0_2 k0_2, .row 99 1 v0_3 n0_3 k0_3]) (l' := [.box b0 148 [Value.int .i64 a0.ring.p, Value.int .i64 a0.ring.vars, v0_2, v0_3, Value.int .i64 a0.many]]) [1] (by decide) rfl), (Inc.rfl _)⟩) rfl (fun w' hw' => (E.move k46)) ?_
        refine FB.t (i := 5) (bs 15 63) rfl (SP.nil ⟨_, (S76.selT (a := [.row 3 1 v33 n34 cs35, .box b0 148 [Value.int .i64 a0.ring.p, Value.int .i64 a0.ring.vars, v0_2, v0_3, Value.int .i64 a0.many], .row 99 1 v0_2 n0_2 k0_2, .row 99 1 v0_3 n0_3 k0_3]) (l' := [.box b0 148 [Value.int .i64 a0.ring.p, Value.int .i64 a0.ring.vars, v0_2, v0_3, Value.int .i64 a0.many]]) [1] (by decide) rfl), (Inc.rfl _)⟩) rfl (fun w' hw' => (E.move (v := v58) rfl)) ?_
        refine FB.t (i := 6) (bs 15 127) rfl (SP.nil ⟨_, (S76.selT (a := [.row 3 1 v33 n34 cs35, .box b0 148 [Value.int .i64 a0.ring.p, Value.int .i64 a0.ring.vars, v0_2, v0_3, Value.int .i64 a0.many], .row 99 1 v0_2 n0_2 k0_2, .row 99 1 v0_3 n0_3 k0_3]) (l' := [.box b0 148 [Value.int .i64 a0.ring.p, Value.int .i64 a0.ring.vars, v0_2, v0_3, Value.int .i64 a0.many]]) [1] (by decide) rfl), (Inc.rfl _)⟩) rfl (fun w' hw' => (E.move k45)) ?_
        refine FB.t (i := 7) (bs 15 255) rfl (SP.nil ⟨_, (S76.selT (a := [.row 3 1 v33 n34 cs35, .box b0 148 [Value.int .i64 a0.ring.p, Value.int .i64 a0.ring.vars, v0_2, v0_3, Value.int .i64 a0.many], .row 99 1 v0_2 n0_2 k0_2, .row 99 1 v0_3 n0_3 k0_3]) (l' := [.box b0 148 [Value.int .i64 a0.ring.p, Value.int .i64 a0.ring.vars, v0_2, v0_3, Value.int .i64 a0.many]]) [1] (by decide) rfl), (Inc.rfl _)⟩) rfl (fun w' hw' => (E.nilCheck rfl)) ?_
        refine FB.t (i := 8) (bs 15 511) rfl (SP.nil ⟨_, (S76.selT (a := [.row 3 1 v33 n34 cs35, .box b0 148 [Value.int .i64 a0.ring.p, Value.int .i64 a0.ring.vars, v0_2, v0_3, Value.int .i64 a0.many], .row 99 1 v0_2 n0_2 k0_2, .row 99 1 v0_3 n0_3 k0_3]) (l' := [.box b0 148 [Value.int .i64 a0.ring.p, Value.int .i64 a0.ring.vars, v0_2, v0_3, Value.int .i64 a0.many]]) [1] (by decide) rfl), (Inc.rfl _)⟩) rfl (fun w' hw' => (E.fieldAddr tf148_0 rfl)) ?_
        refine FB.t (i := 9) (bs 15 1023) rfl (SP.nil ⟨_, (S76.selT (a := [.row 3 1 v33 n34 cs35, .box b0 148 [Value.int .i64 a0.ring.p, Value.int .i64 a0.ring.vars, v0_2, v0_3, Value.int .i64 a0.many], .row 99 1 v0_2 n0_2 k0_2, .row 99 1 v0_3 n0_3 k0_3]) (l' := [.box b0 148 [Value.int .i64 a0.ring.p, Value.int .i64 a0.ring.vars, v0_2, v0_3, Value.int .i64 a0.many]]) [1] (by decide) rfl), (Inc.rfl _)⟩) rfl (fun w' hw' => (E.fieldAddrN tf102_0 rfl rfl)) ?_
        refine FB.t (i := 10) (bs 15 2047) rfl (SP.nil ⟨_, (S76.selT (a := [.row 3 1 v33 n34 cs35, .box b0 148 [Value.int .i64 a0.ring.p, Value.int .i64 a0.ring.vars, v0_2, v0_3, Value.int .i64 a0.many], .row 99 1 v0_2 n0_2 k0_2, .row 99 1 v0_3 n0_3 k0_3]) (l' := [.box b0 148 [Value.int .i64 a0.ring.p, Value.int .i64 a0.ring.vars, v0_2, v0_3, Value.int .i64 a0.many]]) [1] (by decide) rfl), (Inc.rfl _)⟩) rfl (fun w' hw' => (E.load rfl (run_load1 Tryz.isAgg3 (SX.box_now hw' (i := 0) rfl) rfl))) ?_
        refine FB.t (i := 11) (bs 15 4095) rfl (SP.nil ⟨_, (S76.selT (a := [.row 3 1 v33 n34 cs35, .box b0 148 [Value.int .i64 a0.ring.p, Value.int .i64 a0.ring.vars, v0_2, v0_3, Value.int .i64 a0.many], .row 99 1 v0_2 n0_2 k0_2, .row 99 1 v0_3 n0_3 k0_3]) (l' := [.box b0 148 [Value.int .i64 a0.ring.p, Value.int .i64 a0.ring.vars, v0_2, v0_3, Value.int .i64 a0.many]]) [1] (by decide) rfl), (Inc.rfl _)⟩) rfl (fun w' hw' => (E.move (v := Value.int .i64 x71) rfl)) ?_
        refine FB.t (i := 12) (bs 15 8191) rfl (SP.nil ⟨_, (S76.selT (a := [.row 3 1 v33 n34 cs35, .box b0 148 [Value.int .i64 a0.ring.p, Value.int .i64 a0.ring.vars, v0_2, v0_3, Value.int .i64 a0.many], .row 99 1 v0_2 n0_2 k0_2, .row 99 1 v0_3 n0_3 k0_3]) (l' := [.box b0 148 [Value.int .i64 a0.ring.p, Value.int .i64 a0.ring.vars, v0_2, v0_3, Value.int .i64 a0.many]]) [1] (by decide) rfl), (Inc.rfl _)⟩) rfl (fun w' hw' => (E.sub rfl rfl)) ?_
        refine FB.all1 (i := 13) (by kernel_rfl) ?_
        ·
          refine FC.call (l' := (bs 15 16383)) rfl (by kernel_rfl) rfl rfl rfl (E.call Tryz.call164 (A4 rfl rfl rfl rfl)) (w_impl_ring_plus S76.sl a0.ring v37 s32.2 h38 v58 x56 (h59.mono (upI.tr i41)) (wr (a0.ring.p - x71)) hr78) ?_
          rintro e w80 ⟨H79, v83, n84, cs85, rfl, r82, els86⟩
          refine ⟨_, rfl, ?_⟩
          have els86 := els86.mono (up_le S76.size)
          have S81 := S76.join (l' := (.row 3 1 v83 n84 cs85 :: .row 3 1 v33 n34 cs35 :: .box b0 148 [Value.int .i64 a0.ring.p, Value.int .i64 a0.ring.vars, v0_2, v0_3, Value.int .i64 a0.many] :: .row 99 1 v0_2 n0_2 k0_2 :: .row 99 1 v0_3 n0_3 k0_3 :: L)) r82 rfl
          refine ⟨(SP.nil ⟨_, (S81.selT (a := [.row 3 1 v83 n84 cs85, .row 3 1 v33 n34 cs35, .box b0 148 [Value.int .i64 a0.ring.p, Value.int .i64 a0.ring.vars, v0_2, v0_3, Value.int .i64 a0.many], .row 99 1 v0_2 n0_2 k0_2, .row 99 1 v0_3 n0_3 k0_3]) (l' := [.box b0 148 [Value.int .i64 a0.ring.p, Value.int .i64 a0.ring.vars, v0_2, v0_3, Value.int .i64 a0.many]]) [2] (by decide) rfl), r82.run.inc⟩), ?_⟩
          refine FB.t (i := 14) (bs 15 32767) rfl (SP.nil ⟨_, (S81.selT (a := [.row 3 1 v83 n84 cs85, .row 3 1 v33 n34 cs35, .box b0 148 [Value.int .i64 a0.ring.p, Value.int .i64 a0.ring.vars, v0_2, v0_3, Value.int .i64 a0.many], .row 99 1 v0_2 n0_2 k0_2, .row 99 1 v0_3 n0_3 k0_3]) (l' := [.box b0 148 [Value.int .i64 a0.ring.p, Value.int .i64 a0.ring.vars, v0_2, v0_3, Value.int .i64 a0.many]]) [2] (by decide) rfl), r82.run.inc⟩) rfl (fun w' hw' => (E.assign (v := v83) rfl)) ?_
          exact FB.done (by kernel_rfl) ⟨_, _, _, _, (S81.selT (a := [.row 3 1 v83 n84 cs85, .row 3 1 v33 n34 cs35, .box b0 148 [Value.int .i64 a0.ring.p, Value.int .i64 a0.ring.vars, v0_2, v0_3, Value.int .i64 a0.many], .row 99 1 v0_2 n0_2 k0_2, .row 99 1 v0_3 n0_3 k0_3]) (l' := [.row 3 1 v33 n34 cs35, .box b0 148 [Value.int .i64 a0.ring.p, Value.int .i64 a0.ring.vars, v0_2, v0_3, Value.int .i64 a0.many], .row 99 1 v0_2 n0_2 k0_2, .row 99 1 v0_3 n0_3 k0_3, .row 3 1 v83 n84 cs85]) [1, 2, 3, 4, 0] (by decide) rfl), r82.run.inc, els86, k45, rfl, k47, rfl, rfl, k48, k49, k44⟩
      ·
        rintro f95 w94 ⟨H91, v87, n88, cs89, S92, i93, els90, k96, k97, k98, k100, k101, k104, k105, k106⟩
        refine FW.seq (FW.region ?_)
        refine FL.v (E.move k96) ?_
        refine FL.v (E.nilCheck rfl) ?_
        refine FL.v (E.fieldAddr tf148_2 rfl) ?_
        refine FL.v (E.load rfl (run_load1 Tryz.isAgg103 (S92.box_now (i := 1) rfl) rfl)) ?_
        refine FL.v (E.move k100) ?_
        obtain ⟨x113, hx114, hp⟩ := bnd hp
        obtain ⟨p107, cs108, pt109, l110, at111, rel112⟩ := S92.row_at (i := 3) rfl p0_3 (by decide) hx114
        obtain ⟨v115, rfl, h116⟩ := eL_open rel112
        refine FL.v (E.indexAddr te103 rfl rfl pt109) ?_
        refine FL.v (E.load rfl (run_load0 Tryz.isAgg99 at111 rfl)) ?_
        refine FL.v (E.lenP te99 rfl h116) ?_
        refine FL.v (E.move (v := Value.int .i64 0) rfl) ?_
        refine FL.nil ?_
        obtain ⟨q118, hq, hp⟩ := bndR hp
        refine FW.block ?_
        refine FW.mono (FW.forL (S := (List Int)) (X := Empty) (fun (i118 : Nat) (s118 : (List Int)) f w => ∃ H : GH, ∃ v119 : Value, ∃ n120 : Nat, ∃ cs121 : List Value, St H0 w0 H w (.row 3 1 v119 n120 cs121 :: .box b0 148 [Value.int .i64 a0.ring.p, Value.int .i64 a0.ring.vars, v0_2, v0_3, Value.int .i64 a0.many] :: .row 99 1 v0_2 n0_2 k0_2 :: .row 99 1 v0_3 n0_3 k0_3 :: .row 3 1 v87 n88 cs89 :: L) ∧ Inc H91 H ∧ Els (up w0.heap.size H) eI 1 cs121 s118 ∧ f 56 = Value.int .i64 ((i118 : Nat) : Int) ∧ f 0 = Value.pointer (some (⟨b0, 0, none⟩ : Addr)) ∧ f 1 = v87 ∧ f 6 = v119 ∧ f 9 = Value.int .i64 x71 ∧ f 20 = v0_2 ∧ f 21 = Value.int .i64 (len a0.rows) ∧ f 22 = Value.int .i64 ((i32 : Nat) : Int) ∧ f 54 = v115 ∧ f 55 = Value.int .i64 (len x113)) (fun (q : Rs (List Int) Empty) e f w => match q with | .go s118 => e = Exit.exit 2 ∧ (∃ H : GH, ∃ v119 : Value, ∃ n120 : Nat, ∃ cs121 : List Value, St H0 w0 H w (.row 3 1 v119 n120 cs121 :: .box b0 148 [Value.int .i64 a0.ring.p, Value.int .i64 a0.ring.vars, v0_2, v0_3, Value.int .i64 a0.many] :: .row 99 1 v0_2 n0_2 k0_2 :: .row 99 1 v0_3 n0_3 k0_3 :: .row 3 1 v87 n88 cs89 :: L) ∧ Inc H91 H ∧ Els (up w0.heap.size H) eI 1 cs121 s118 ∧ f 0 = Value.pointer (some (⟨b0, 0, none⟩ : Addr)) ∧ f 1 = v87 ∧ f 6 = v119 ∧ f 20 = v0_2 ∧ f 21 = Value.int .i64 (len a0.rows) ∧ f 22 = Value.int .i64 ((i32 : Nat) : Int)) | .rt x => x.elim) hq ⟨_, _, _, _, S92, (Inc.rfl _), (els36.mono (up_mono i93)), rfl, k96, k97, k98, k101, k104, k105, k106, rfl, rfl⟩ ?_ ?_) ?_
        ·
          clear hp hq
          rintro i118 y117 s118 f127 w126 ⟨H123, v119, n120, cs121, S124, i125, els122, k128, k129, k130, k131, k132, k133, k134, k135, k136, k137⟩ hx118 o195 hp
          refine FW.seq (FW.region ?_)
          refine FL.v (E.lssT k128 k137 (lss_len hx118)) ?_
          refine FL.nil (FW.seq ?_)
          refine FW.condT rfl rfl ?_
          refine FW.skip (FW.seq (FW.block (FW.seq (FW.region ?_))))
          refine FL.v (E.move k128) ?_
          obtain ⟨p138, cs139, pt140, l141, at142, rel143⟩ := h116.at (ix_nat hx118)
          obtain rfl := eI_open rel143
          refine FL.v (E.indexAddr te99 k136 k128 pt140) ?_
          refine FL.v (E.load rfl (run_load0 Tryz.isAgg3 ((at142.mono (upI.tr ((i41.tr i93).tr i125))).now S124.sl) rfl)) ?_
          refine FL.v (E.assign (v := Value.int .i64 ((i118 : Nat) : Int)) rfl) ?_
          refine FL.v (E.assign (v := Value.int .i64 y117) rfl) ?_
          refine FL.nil ?_
          obtain ⟨x154, hx155, hp⟩ := bnd hp
          obtain ⟨u158, z157, hp⟩ := bnd hp
          obtain ⟨x165, hx166, hp⟩ := bnd hp
          obtain ⟨xs171, hput172, hp⟩ := bnd hp
          refine FW.drawB (SX H0 w0 H123 (.box b0 148 [Value.int .i64 a0.ring.p, Value.int .i64 a0.ring.vars, v0_2, v0_3, Value.int .i64 a0.many] :: L)) (fun f w => ∃ H : GH, ∃ v176 : Value, ∃ n177 : Nat, ∃ cs178 : List Value, St H0 w0 H w (.row 3 1 v176 n177 cs178 :: .box b0 148 [Value.int .i64 a0.ring.p, Value.int .i64 a0.ring.vars, v0_2, v0_3, Value.int .i64 a0.many] :: .row 99 1 v0_2 n0_2 k0_2 :: .row 99 1 v0_3 n0_3 k0_3 :: .row 3 1 v87 n88 cs89 :: L) ∧ Inc H123 H ∧ Els (up w0.heap.size H) eI 1 cs178 xs171 ∧ f 0 = Value.pointer (some (⟨b0, 0, none⟩ : Addr)) ∧ f 1 = v87 ∧ f 6 = v176 ∧ f 9 = Value.int .i64 x71 ∧ f 20 = v0_2 ∧ f 21 = Value.int .i64 (len a0.rows) ∧ f 22 = Value.int .i64 ((i32 : Nat) : Int) ∧ f 54 = v115 ∧ f 55 = Value.int .i64 (len x113) ∧ f 56 = Value.int .i64 ((i118 : Nat) : Int)) (by kernel_rfl) S124.sl ?_ ?_
          ·
            intro w144 r145
            have S146 := S124.call r145
            refine FB.t (i := 0) (bs 18 1) rfl (SP.nil ⟨_, (S146.selT (a := [.row 3 1 v119 n120 cs121, .box b0 148 [Value.int .i64 a0.ring.p, Value.int .i64 a0.ring.vars, v0_2, v0_3, Value.int .i64 a0.many], .row 99 1 v0_2 n0_2 k0_2, .row 99 1 v0_3 n0_3 k0_3, .row 3 1 v87 n88 cs89]) (l' := [.box b0 148 [Value.int .i64 a0.ring.p, Value.int .i64 a0.ring.vars, v0_2, v0_3, Value.int .i64 a0.many]]) [1] (by decide) rfl), (Inc.rfl _)⟩) rfl (fun w' hw' => (E.move k131)) ?_
            refine FB.t (i := 1) (bs 18 3) rfl (SP.nil ⟨_, (S146.selT (a := [.row 3 1 v119 n120 cs121, .box b0 148 [Value.int .i64 a0.ring.p, Value.int .i64 a0.ring.vars, v0_2, v0_3, Value.int .i64 a0.many], .row 99 1 v0_2 n0_2 k0_2, .row 99 1 v0_3 n0_3 k0_3, .row 3 1 v87 n88 cs89]) (l' := [.box b0 148 [Value.int .i64 a0.ring.p, Value.int .i64 a0.ring.vars, v0_2, v0_3, Value.int .i64 a0.many]]) [1] (by decide) rfl), (Inc.rfl _)⟩) rfl (fun w' hw' => (E.move (v := Value.int .i64 ((i118 : Nat) : Int)) rfl)) ?_
            refine FB.t (i := 2) (bs 18 7) rfl (SP.nil ⟨_, (S146.selT (a := [.row 3 1 v119 n120 cs121, .box b0 148 [Value.int .i64 a0.ring.p, Value.int .i64 a0.ring.vars, v0_2, v0_3, Value.int .i64 a0.many], .row 99 1 v0_2 n0_2 k0_2, .row 99 1 v0_3 n0_3 k0_3, .row 3 1 v87 n88 cs89]) (l' := [.box b0 148 [Value.int .i64 a0.ring.p, Value.int .i64 a0.ring.vars, v0_2, v0_3, Value.int .i64 a0.many]]) [1] (by decide) rfl), (Inc.rfl _)⟩) rfl (fun w' hw' => (E.move k131)) ?_
            refine FB.t (i := 3) (bs 18 15) rfl (SP.nil ⟨_, (S146.selT (a := [.row 3 1 v119 n120 cs121, .box b0 148 [Value.int .i64 a0.ring.p, Value.int .i64 a0.ring.vars, v0_2, v0_3, Value.int .i64 a0.many], .row 99 1 v0_2 n0_2 k0_2, .row 99 1 v0_3 n0_3 k0_3, .row 3 1 v87 n88 cs89]) (l' := [.box b0 148 [Value.int .i64 a0.ring.p, Value.int .i64 a0.ring.vars, v0_2, v0_3, Value.int .i64 a0.many]]) [1] (by decide) rfl), (Inc.rfl _)⟩) rfl (fun w' hw' => (E.move (v := Value.int .i64 ((i118 : Nat) : Int)) rfl)) ?_
            obtain ⟨p147, cs149, pt150, l151, at152, rel153, hall156⟩ := S146.row_atA (i := 0) rfl els122 (by decide) hx155
            obtain rfl := eI_open rel153
            refine FB.t (i := 4) (bs 18 31) rfl (SP.nil ⟨_, (S146.selT (a := [.row 3 1 v119 n120 cs121, .box b0 148 [Value.int .i64 a0.ring.p, Value.int .i64 a0.ring.vars, v0_2, v0_3, Value.int .i64 a0.many], .row 99 1 v0_2 n0_2 k0_2, .row 99 1 v0_3 n0_3 k0_3, .row 3 1 v87 n88 cs89]) (l' := [.box b0 148 [Value.int .i64 a0.ring.p, Value.int .i64 a0.ring.vars, v0_2, v0_3, Value.int .i64 a0.many]]) [1] (by decide) rfl), (Inc.rfl _)⟩) rfl (fun w' hw' => (E.indexAddr te99 rfl rfl pt150)) ?_
            refine FB.phase [17] (fun w' => WAt w' p147 [Value.int .i64 x154]) ?_
            refine FB.p (i := 5) (bs 18 63) 0 [9, 15, 16, 17] rfl (SP.on (hall156 _ _ _ 0 S146 rfl) (SP.nil ⟨_, (S146.selT (a := [.row 3 1 v119 n120 cs121, .box b0 148 [Value.int .i64 a0.ring.p, Value.int .i64 a0.ring.vars, v0_2, v0_3, Value.int .i64 a0.many], .row 99 1 v0_2 n0_2 k0_2, .row 99 1 v0_3 n0_3 k0_3, .row 3 1 v87 n88 cs89]) (l' := [.box b0 148 [Value.int .i64 a0.ring.p, Value.int .i64 a0.ring.vars, v0_2, v0_3, Value.int .i64 a0.many]]) [1] (by decide) rfl), (Inc.rfl _)⟩)) rfl rfl (fun w' hw' => (E.load rfl (run_load0 Tryz.isAgg3 hw' rfl))) ?_
            refine FB.t (i := 6) (bs 18 127) rfl (SP.on (hall156 _ _ _ 0 S146 rfl) (SP.nil ⟨_, (S146.selT (a := [.row 3 1 v119 n120 cs121, .box b0 148 [Value.int .i64 a0.ring.p, Value.int .i64 a0.ring.vars, v0_2, v0_3, Value.int .i64 a0.many], .row 99 1 v0_2 n0_2 k0_2, .row 99 1 v0_3 n0_3 k0_3, .row 3 1 v87 n88 cs89]) (l' := [.box b0 148 [Value.int .i64 a0.ring.p, Value.int .i64 a0.ring.vars, v0_2, v0_3, Value.int .i64 a0.many]]) [1] (by decide) rfl), (Inc.rfl _)⟩)) rfl (fun w' hw' => (E.move k132)) ?_
            refine FB.t (i := 7) (bs 18 255) rfl (SP.on (hall156 _ _ _ 0 S146 rfl) (SP.nil ⟨_, (S146.selT (a := [.row 3 1 v119 n120 cs121, .box b0 148 [Value.int .i64 a0.ring.p, Value.int .i64 a0.ring.vars, v0_2, v0_3, Value.int .i64 a0.many], .row 99 1 v0_2 n0_2 k0_2, .row 99 1 v0_3 n0_3 k0_3, .row 3 1 v87 n88 cs89]) (l' := [.box b0 148 [Value.int .i64 a0.ring.p, Value.int .i64 a0.ring.vars, v0_2, v0_3, Value.int .i64 a0.many]]) [1] (by decide) rfl), (Inc.rfl _)⟩)) rfl (fun w' hw' => (E.move (v := Value.int .i64 y117) rfl)) ?_
            refine FB.t (i := 8) (bs 18 511) rfl (SP.on (hall156 _ _ _ 0 S146 rfl) (SP.nil ⟨_, (S146.selT (a := [.row 3 1 v119 n120 cs121, .box b0 148 [Value.int .i64 a0.ring.p, Value.int .i64 a0.ring.vars, v0_2, v0_3, Value.int .i64 a0.many], .row 99 1 v0_2 n0_2 k0_2, .row 99 1 v0_3 n0_3 k0_3, .row 3 1 v87 n88 cs89]) (l' := [.box b0 148 [Value.int .i64 a0.ring.p, Value.int .i64 a0.ring.vars, v0_2, v0_3, Value.int .i64 a0.many]]) [1] (by decide) rfl), (Inc.rfl _)⟩)) rfl (fun w' hw' => (E.mul rfl rfl)) ?_
            refine FB.t (i := 9) (bs 18 1023) rfl (SP.on (hall156 _ _ _ 0 S146 rfl) (SP.nil ⟨_, (S146.selT (a := [.row 3 1 v119 n120 cs121, .box b0 148 [Value.int .i64 a0.ring.p, Value.int .i64 a0.ring.vars, v0_2, v0_3, Value.int .i64 a0.many], .row 99 1 v0_2 n0_2 k0_2, .row 99 1 v0_3 n0_3 k0_3, .row 3 1 v87 n88 cs89]) (l' := [.box b0 148 [Value.int .i64 a0.ring.p, Value.int .i64 a0.ring.vars, v0_2, v0_3, Value.int .i64 a0.many]]) [1] (by decide) rfl), (Inc.rfl _)⟩)) rfl (fun w' hw' => (E.add rfl rfl)) ?_
            refine FB.t (i := 10) (bs 18 2047) rfl (SP.on (hall156 _ _ _ 0 S146 rfl) (SP.nil ⟨_, (S146.selT (a := [.row 3 1 v119 n120 cs121, .box b0 148 [Value.int .i64 a0.ring.p, Value.int .i64 a0.ring.vars, v0_2, v0_3, Value.int .i64 a0.many], .row 99 1 v0_2 n0_2 k0_2, .row 99 1 v0_3 n0_3 k0_3, .row 3 1 v87 n88 cs89]) (l' := [.box b0 148 [Value.int .i64 a0.ring.p, Value.int .i64 a0.ring.vars, v0_2, v0_3, Value.int .i64 a0.many]]) [1] (by decide) rfl), (Inc.rfl _)⟩)) rfl (fun w' hw' => (E.move k129)) ?_
            refine FB.t (i := 11) (bs 18 4095) rfl (SP.on (hall156 _ _ _ 0 S146 rfl) (SP.nil ⟨_, (S146.selT (a := [.row 3 1 v119 n120 cs121, .box b0 148 [Value.int .i64 a0.ring.p, Value.int .i64 a0.ring.vars, v0_2, v0_3, Value.int .i64 a0.many], .row 99 1 v0_2 n0_2 k0_2, .row 99 1 v0_3 n0_3 k0_3, .row 3 1 v87 n88 cs89]) (l' := [.box b0 148 [Value.int .i64 a0.ring.p, Value.int .i64 a0.ring.vars, v0_2, v0_3, Value.int .i64 a0.many]]) [1] (by decide) rfl), (Inc.rfl _)⟩)) rfl (fun w' hw' => (E.nilCheck rfl)) ?_
            refine FB.t (i := 12) (bs 18 8191) rfl (SP.on (hall156 _ _ _ 0 S146 rfl) (SP.nil ⟨_, (S146.selT (a := [.row 3 1 v119 n120 cs121, .box b0 148 [Value.int .i64 a0.ring.p, Value.int .i64 a0.ring.vars, v0_2, v0_3, Value.int .i64 a0.many], .row 99 1 v0_2 n0_2 k0_2, .row 99 1 v0_3 n0_3 k0_3, .row 3 1 v87 n88 cs89]) (l' := [.box b0 148 [Value.int .i64 a0.ring.p, Value.int .i64 a0.ring.vars, v0_2, v0_3, Value.int .i64 a0.many]]) [1] (by decide) rfl), (Inc.rfl _)⟩)) rfl (fun w' hw' => (E.fieldAddr tf148_0 rfl)) ?_
            refine FB.t (i := 13) (bs 18 16383) rfl (SP.on (hall156 _ _ _ 0 S146 rfl) (SP.nil ⟨_, (S146.selT (a := [.row 3 1 v119 n120 cs121, .box b0 148 [Value.int .i64 a0.ring.p, Value.int .i64 a0.ring.vars, v0_2, v0_3, Value.int .i64 a0.many], .row 99 1 v0_2 n0_2 k0_2, .row 99 1 v0_3 n0_3 k0_3, .row 3 1 v87 n88 cs89]) (l' := [.box b0 148 [Value.int .i64 a0.ring.p, Value.int .i64 a0.ring.vars, v0_2, v0_3, Value.int .i64 a0.many]]) [1] (by decide) rfl), (Inc.rfl _)⟩)) rfl (fun w' hw' => (E.fieldAddrN tf102_0 rfl rfl)) ?_
            refine FB.t (i := 14) (bs 18 32767) rfl (SP.on (hall156 _ _ _ 0 S146 rfl) (SP.nil ⟨_, (S146.selT (a := [.row 3 1 v119 n120 cs121, .box b0 148 [Value.int .i64 a0.ring.p, Value.int .i64 a0.ring.vars, v0_2, v0_3, Value.int .i64 a0.many], .row 99 1 v0_2 n0_2 k0_2, .row 99 1 v0_3 n0_3 k0_3, .row 3 1 v87 n88 cs89]) (l' := [.box b0 148 [Value.int .i64 a0.ring.p, Value.int .i64 a0.ring.vars, v0_2, v0_3, Value.int .i64 a0.many]]) [1] (by decide) rfl), (Inc.rfl _)⟩)) rfl (fun w' hw' => (E.load rfl (run_load1 Tryz.isAgg3 (SX.box_now hw' (i := 0) rfl) rfl))) ?_
            refine FB.t (i := 15) (bs 18 65535) rfl (SP.on (hall156 _ _ _ 0 S146 rfl) (SP.nil ⟨_, (S146.selT (a := [.row 3 1 v119 n120 cs121, .box b0 148 [Value.int .i64 a0.ring.p, Value.int .i64 a0.ring.vars, v0_2, v0_3, Value.int .i64 a0.many], .row 99 1 v0_2 n0_2 k0_2, .row 99 1 v0_3 n0_3 k0_3, .row 3 1 v87 n88 cs89]) (l' := [.box b0 148 [Value.int .i64 a0.ring.p, Value.int .i64 a0.ring.vars, v0_2, v0_3, Value.int .i64 a0.many]]) [1] (by decide) rfl), (Inc.rfl _)⟩)) rfl (fun w' hw' => (E.rem rfl rfl (nz_ne z157))) ?_
            obtain ⟨p159, cs160, pt161, l162, at163, rel164, hall167⟩ := S146.row_atA (i := 0) rfl els122 (by decide) hx166
            obtain rfl := eI_open rel164
            refine FB.t (i := 16) (bs 18 131071) rfl (SP.on (hall156 _ _ _ 0 S146 rfl) (SP.nil ⟨_, (S146.selT (a := [.row 3 1 v119 n120 cs121, .box b0 148 [Value.int .i64 a0.ring.p, Value.int .i64 a0.ring.vars, v0_2, v0_3, Value.int .i64 a0.many], .row 99 1 v0_2 n0_2 k0_2, .row 99 1 v0_3 n0_3 k0_3, .row 3 1 v87 n88 cs89]) (l' := [.box b0 148 [Value.int .i64 a0.ring.p, Value.int .i64 a0.ring.vars, v0_2, v0_3, Value.int .i64 a0.many]]) [1] (by decide) rfl), (Inc.rfl _)⟩)) rfl (fun w' hw' => (E.indexAddr te99 rfl rfl pt161)) ?_
            refine FB.all1 (i := 17) (by kernel_rfl) ?_
            ·
              obtain ⟨w168, cs174, run169, S170, els173, ce175⟩ := S146.putEls (P := Tryz.prog) (t := 3) (i := 0) rfl els122 hput172 pt161 Tryz.sizeOf3 (u := Value.int .i64 ((wr (x154 + (wr (x71 * y117)))).tmod a0.ring.p)) (c := [Value.int .i64 ((wr (x154 + (wr (x71 * y117)))).tmod a0.ring.p)]) rfl rfl (ones_cons rfl ones_nil) rfl
              have S170 : St H0 w0 H123 w168 (.row 3 1 v119 n120 cs174 :: .box b0 148 [Value.int .i64 a0.ring.p, Value.int .i64 a0.ring.vars, v0_2, v0_3, Value.int .i64 a0.many] :: .row 99 1 v0_2 n0_2 k0_2 :: .row 99 1 v0_3 n0_3 k0_3 :: .row 3 1 v87 n88 cs89 :: L) := S170
              refine FC.act (l' := (bs 18 262143)) rfl (by kernel_rfl) rfl rfl (E.store rfl rfl run169) ?_
              refine ⟨(SP.o (SP.nil ⟨_, (S170.selT (a := [.row 3 1 v119 n120 cs174, .box b0 148 [Value.int .i64 a0.ring.p, Value.int .i64 a0.ring.vars, v0_2, v0_3, Value.int .i64 a0.many], .row 99 1 v0_2 n0_2 k0_2, .row 99 1 v0_3 n0_3 k0_3, .row 3 1 v87 n88 cs89]) (l' := [.box b0 148 [Value.int .i64 a0.ring.p, Value.int .i64 a0.ring.vars, v0_2, v0_3, Value.int .i64 a0.many]]) [1] (by decide) rfl), (Inc.rfl _)⟩)), ?_⟩
              exact FB.done (by kernel_rfl) ⟨_, _, _, _, S170, (Inc.rfl _), els173, k129, k130, k131, k132, k133, k134, k135, k136, k137, k128⟩
          ·
            rintro f184 w183 ⟨H180, v176, n177, cs178, S181, i182, els179, k185, k186, k187, k188, k189, k190, k191, k192, k193, k194⟩
            refine FW.region ?_
            refine FL.v (E.add k194 rfl) ?_
            refine FL.v (E.move (v := Value.int .i64 (wr (((i118 : Nat) : Int) + 1))) rfl) ?_
            refine FL.nil ?_
            obtain rfl := Option.some.inj hp
            exact ⟨rfl, ⟨_, _, _, _, S181, (i125.tr i182), els179, (nat_succ rfl (lt_of_get hx118) (h116.mono (upI.tr (((i41.tr i93).tr i125).tr i182))).le), k185, k186, k187, k188, k189, k190, k191, k192, k193⟩⟩
        ·
          clear hp hq
          rintro s118 f216 w215 ⟨H212, v119, n120, cs121, S213, i214, els122, k217, k218, k219, k220, k221, k222, k223, k224, k225, k226⟩
          refine FW.seq (FW.region ?_)
          refine FL.v (E.lss k217 k226) ?_
          refine FL.nil (FW.seq ?_)
          refine FW.condF rfl dlt_len ?_
          refine FW.exit ?_
          exact ⟨nofun, rfl, ⟨_, _, _, _, S213, i214, els122, k218, k219, k220, k222, k223, k224⟩⟩
        ·
          clear hq
          intro e f200 w199 hD
          rcases q118 with s118 | x118
          ·
            obtain ⟨rfl, hD⟩ := hD
            obtain ⟨H196, v119, n120, cs121, S197, i198, els122, k201, k202, k203, k204, k205, k206⟩ := hD
            replace hp := el_go hp
            refine FW.region ?_
            refine FL.v (E.add k206 rfl) ?_
            refine FL.v (E.move (v := Value.int .i64 (wr (((i32 : Nat) : Int) + 1))) rfl) ?_
            refine FL.nil ?_
            obtain ⟨H207, S208, i209, h210, nv211⟩ := S197.sealRowU (i := 4) (l' := (.row 3 1 v119 n120 cs121 :: .box b0 148 [Value.int .i64 a0.ring.p, Value.int .i64 a0.ring.vars, v0_2, v0_3, Value.int .i64 a0.many] :: .row 99 1 v0_2 n0_2 k0_2 :: .row 99 1 v0_3 n0_3 k0_3 :: L)) rfl (els90.mono (up_mono i198)) (by decide) rfl
            obtain rfl := Option.some.inj hp
            exact ⟨rfl, ⟨_, _, _, _, _, S208, (((i41.tr i93).tr i198).tr i209), (els122.mono (up_mono i209)), (h210.mono upI), (nat_succ rfl hj32 (chk_le hchk32)), k201, k202, k203, k204, k205⟩⟩
          · exact x118.elim
    ·
      refine FW.condF rfl c73 ?_
      refine FW.skip (FW.region ?_)
      refine FL.v (E.add k44 rfl) ?_
      refine FL.v (E.move (v := Value.int .i64 (wr (((i32 : Nat) : Int) + 1))) rfl) ?_
      refine FL.nil ?_
      obtain rfl := Option.some.inj hp
      exact ⟨rfl, ⟨_, _, _, _, _, S64, i41, els36, h38, (nat_succ rfl hj32 (chk_le hchk32)), k45, k46, k47, k48, k49⟩⟩
  ·
    clear hp hq
    rintro s32 f239 w238 ⟨H235, v33, n34, cs35, v37, S236, i237, els36, h38, k240, k241, k242, k243, k244, k245⟩
    refine FW.seq (FW.region ?_)
    refine FL.v (E.lss k240 k245) ?_
    refine FL.nil (FW.seq ?_)
    refine FW.condF rfl (dlt_maxchk hchk32) ?_
    refine FW.exit ?_
    exact ⟨nofun, rfl, ⟨_, _, _, _, _, S236, i237, els36, h38, k242, k243⟩⟩
  ·
    clear hq
    intro e f232 w231 hD
    rcases q32 with s32 | x32
    ·
      obtain ⟨rfl, hD⟩ := hD
      obtain ⟨H228, v33, n34, cs35, v37, S229, i230, els36, h38, k233, k234⟩ := hD
      replace hp := el_go hp
      refine FW.seq (FW.region ?_)
      refine FL.v (E.move k233) ?_
      refine FL.v (E.move k234) ?_
      refine FL.v (E.assign (v := v37) rfl) ?_
      refine FL.v (E.assign (v := v33) rfl) ?_
      refine FL.nil ?_
      refine FW.ret ?_
      obtain rfl := Option.some.inj hp
      exact ⟨.inr rfl, res2 rfl rfl rfl ⟨_, _, _, _, _, rfl, ⟨S229, i230⟩, h38, els36⟩⟩
    · exact x32.elim

theorem w_impl_ring_inverse {Ha : GH} {wa : World} (hs : Sl Ha wa) (a0 : ring) (a1 : Int) {r : Int} (hp : (PF.impl_ring_inverse a0 a1) = some r) :
  Calls Tryz.prog 245 #[Value.agg #[Value.int .i64 a0.p, Value.int .i64 a0.vars], Value.int .i64 a1] wa (Sc Ha wa (Value.int .i64 r)) := by
 unfold PF.impl_ring_inverse at hp
 have S0 := St.init hs
 refine calls_go (N := 16) (args := [Value.agg #[Value.int .i64 a0.p, Value.int .i64 a0.vars], Value.int .i64 a1]) Tryz.func245 rfl rfl rfl ?_
 refine FW.seq (FW.region ?_)
 obtain ⟨b21, w22, run23, S24⟩ := S0.box (P := Tryz.prog) 102 [Value.int .i64 a0.p, Value.int .i64 a0.vars] (v := Value.agg #[Value.int .i64 a0.p, Value.int .i64 a0.vars]) rfl (ones_cons rfl (ones_cons rfl ones_nil))
 refine FL.v (E.box rfl run23) ?_
 obtain ⟨H25, S26, i27, at28⟩ := S24.sealBox (i := 0) (l' := []) rfl rfl
 refine FL.v (E.assign (v := Value.int .i64 0) rfl) ?_
 refine FL.nil (FW.seq (FW.region ?_))
 refine FL.v (E.assign (v := Value.int .i64 1) rfl) ?_
 refine FL.nil ?_
 obtain ⟨q29, hq, hp⟩ := bndR hp
 refine FW.block ?_
 refine FW.mono (FW.iter (S := Int) (X := Int) (fun (s29 : Int) f w => ∃ H : GH, St Ha wa H w [] ∧ Inc H25 H ∧ f 1 = Value.int .i64 a1 ∧ f 2 = Value.pointer (some ⟨b21, 0, none⟩) ∧ f 5 = Value.int .i64 s29) (fun q e f w => match q with | .go s29 => e = Exit.exit 0 ∧ (∃ H : GH, St Ha wa H w [] ∧ Inc H25 H ∧ f 4 = Value.int .i64 0) | .rt x => ((e = Exit.ret) ∧ (fun e f w => (e = Exit.normal ∨ e = Exit.ret) ∧ ∀ a, Fr (δ := []) 16 a f → ∃ v, (results Tryz.f245 a.tmps).run Tryz.prog w = .ok v w ∧ (Sc Ha wa (Value.int .i64 x)) (.returned v) w) e f w)) hq ⟨_, S26, (Inc.rfl _), rfl, rfl, rfl⟩ ?_) ?_
 ·
  clear hp hq
  rintro s29 f45 w44 ⟨H41, S42, i43, k46, k47, k48⟩ o52 hp
  refine FW.seq (FW.block (FW.seq (FW.region ?_)))
  refine FL.v (E.move k46) ?_
  refine FL.v (E.move k48) ?_
  refine FL.v (E.mul rfl rfl) ?_
  refine FL.v (E.fieldAddr tf102_0 k47) ?_
  refine FL.v (E.load rfl (run_load1 Tryz.isAgg3 ((at28.mono i43).now S42.sl) rfl)) ?_
  obtain ⟨u50, z49, hp⟩ := bnd hp
  refine FL.v (E.rem rfl rfl (nz_ne z49)) ?_
  refine FL.v (E.eql rfl rfl) ?_
  refine FL.nil ?_
  rcases ifB hp with ⟨c51, hp⟩ | ⟨c51, hp⟩
  ·
   refine FW.condT rfl c51 ?_
   refine FW.seq (FW.region ?_)
   refine FL.v (E.move k48) ?_
   refine FL.v (E.assign (v := Value.int .i64 s29) rfl) ?_
   refine FL.nil ?_
   refine FW.ret ?_
   obtain rfl := Option.some.inj hp
   exact ⟨nofun, rfl, ⟨.inr rfl, res1 rfl rfl ⟨rfl, S42.back⟩⟩⟩
  ·
   refine FW.condF rfl c51 ?_
   refine FW.skip (FW.region ?_)
   refine FL.v (E.move k48) ?_
   refine FL.v (E.add rfl rfl) ?_
   refine FL.v (E.assign (v := Value.int .i64 (wr (s29 + 1))) rfl) ?_
   refine FL.nil ?_
   obtain rfl := Option.some.inj hp
   exact ⟨rfl, ⟨_, S42, i43, k46, k47, rfl⟩⟩
 ·
  clear hq
  intro e f57 w56 hD
  rcases q29 with s29 | x29
  ·
   obtain ⟨rfl, hD⟩ := hD
   obtain ⟨H53, S54, i55, k58⟩ := hD
   replace hp := el_go hp
   obtain rfl := Option.some.inj hp
   exact ⟨.inl rfl, res1 rfl k58 ⟨rfl, S54.back⟩⟩
  ·
   obtain ⟨he, hL⟩ := hD
   replace hp := el_rt hp
   obtain rfl := Option.some.inj hp
   subst he
   exact hL

@[reducible] def p_impl_echelon_add (H0 : GH) (w0 : World) (Ha : GH) (L : List MO) (b0 : Nat) (r : (Bool × echelon)) : Ending → World → Prop :=
  fun e w' => ∃ H' : GH, ∃ v0_2r : Value, ∃ n0_2r : Nat, ∃ c0_2r : List Value, ∃ v0_3r : Value, ∃ n0_3r : Nat, ∃ c0_3r : List Value, e = .returned (Value.bool r.1) ∧ (St H0 w0 H' w' (.box b0 148 [Value.int .i64 r.2.ring.p, Value.int .i64 r.2.ring.vars, v0_2r, v0_3r, Value.int .i64 r.2.many] :: .row 99 1 v0_2r n0_2r c0_2r :: .row 99 1 v0_3r n0_3r c0_3r :: L) ∧ Inc Ha H') ∧ Els (up w0.heap.size H') (eL eI 1) 1 c0_2r r.2.rows ∧ (bl c0_2r).Nodup ∧ Els (up w0.heap.size H') (eL eI 1) 1 c0_3r r.2.made
set_option maxHeartbeats 4000000 in
theorem w_impl_echelon_add {H0 Ha : GH} {w0 wa : World} {L : List MO} {a0 : echelon} {b0 : Nat} {v0_2 : Value} {n0_2 : Nat} {k0_2 : List Value} {v0_3 : Value} {n0_3 : Nat} {k0_3 : List Value} (S0 : St H0 w0 Ha wa (.box b0 148 [Value.int .i64 a0.ring.p, Value.int .i64 a0.ring.vars, v0_2, v0_3, Value.int .i64 a0.many] :: .row 99 1 v0_2 n0_2 k0_2 :: .row 99 1 v0_3 n0_3 k0_3 :: L)) (p0_2 : Els (up w0.heap.size Ha) (eL eI 1) 1 k0_2 a0.rows) (d0_2 : (bl k0_2).Nodup) (p0_3 : Els (up w0.heap.size Ha) (eL eI 1) 1 k0_3 a0.made) (v1 : Value) (a1 : List Int) (p1 : RSl Ha eI 1 v1 a1) {r : (Bool × echelon)} (hp : (PF.impl_echelon_add a0 a1) = some r) :
    Calls Tryz.prog 206 #[Value.pointer (some (⟨b0, 0, none⟩ : Addr)), v1] wa (p_impl_echelon_add H0 w0 Ha L b0 r) := by
  unfold PF.impl_echelon_add at hp
  refine calls_go (N := 222) (args := [Value.pointer (some (⟨b0, 0, none⟩ : Addr)), v1]) Tryz.func206 rfl rfl rfl ?_
  refine FW.seq (FW.region ?_)
  refine FL.v (E.assign (v := Value.bool false) rfl) ?_
  refine FL.nil (FW.seq (FW.region ?_))
  refine FL.v (E.move (v := Value.pointer (some (⟨b0, 0, none⟩ : Addr))) rfl) ?_
  refine FL.v (E.move (v := v1) rfl) ?_
  obtain ⟨r21, hr22, hp⟩ := bnd hp
  have S23 : St H0 w0 Ha wa (.row 99 1 v0_3 n0_3 k0_3 :: .box b0 148 [Value.int .i64 a0.ring.p, Value.int .i64 a0.ring.vars, v0_2, v0_3, Value.int .i64 a0.many] :: .row 99 1 v0_2 n0_2 k0_2 :: L) := S0.front 2 rfl rfl
  have S24 : St H0 w0 Ha wa (.row 99 1 v0_2 n0_2 k0_2 :: .row 99 1 v0_3 n0_3 k0_3 :: .box b0 148 [Value.int .i64 a0.ring.p, Value.int .i64 a0.ring.vars, v0_2, v0_3, Value.int .i64 a0.many] :: L) := S23.front 2 rfl rfl
  have S25 : St H0 w0 Ha wa (.box b0 148 [Value.int .i64 a0.ring.p, Value.int .i64 a0.ring.vars, v0_2, v0_3, Value.int .i64 a0.many] :: .row 99 1 v0_2 n0_2 k0_2 :: .row 99 1 v0_3 n0_3 k0_3 :: L) := S24.front 2 rfl rfl
  refine FL.call rfl rfl rfl (E.call Tryz.call99 (A2 rfl rfl)) (w_impl_echelon_reduce (L := (L)) S25 (a0 := a0) p0_2 d0_2 p0_3 v1 a1 p1 hr22) ?_
  rintro e w27 ⟨H26, v30, v32, n33, cs34, rfl, ⟨S28, i29⟩, h31, els35⟩
  refine ⟨_, rfl, ?_⟩
  have S28 : St H0 w0 H26 w27 (.row 3 1 v32 n33 cs34 :: .box b0 148 [Value.int .i64 r21.2.2.ring.p, Value.int .i64 r21.2.2.ring.vars, v0_2, v0_3, Value.int .i64 r21.2.2.many] :: .row 99 1 v0_2 n0_2 k0_2 :: .row 99 1 v0_3 n0_3 k0_3 :: L) := S28
  refine FL.v (E.move (v := Value.tuple #[v30, v32]) rfl) ?_
  refine FL.v (E.extract (i := 0) rfl rfl) ?_
  refine FL.v (E.extract (i := 1) rfl rfl) ?_
  refine FL.v (E.assign (v := v30) rfl) ?_
  refine FL.v (E.assign (v := v32) rfl) ?_
  refine FL.nil (FW.seq (FW.region ?_))
  refine FL.v (E.move (v := v30) rfl) ?_
  obtain ⟨r36, hr37, hp⟩ := bnd hp
  refine FL.call rfl rfl rfl (E.call Tryz.call163 (A1 rfl)) (w_impl_leading S28.sl v30 r21.1 h31 hr37) ?_
  rintro e w38 ⟨rfl, r39⟩
  refine ⟨_, rfl, ?_⟩
  have S40 := S28.call r39
  refine FL.v (E.assign (v := Value.int .i64 r36) rfl) ?_
  refine FL.nil (FW.seq (FW.seq (FW.region ?_)))
  refine FL.v (E.move (v := Value.int .i64 r36) rfl) ?_
  refine FL.v (E.lss rfl rfl) ?_
  refine FL.nil ?_
  rcases ifB hp with ⟨c41, hp⟩ | ⟨c41, hp⟩
  ·
    refine FW.condT rfl c41 ?_
    refine FW.seq (FW.region ?_)
    refine FL.v (E.assign (v := Value.bool false) rfl) ?_
    refine FL.nil ?_
    refine FW.ret ?_
    obtain rfl := Option.some.inj hp
    exact ⟨.inr rfl, res1 rfl rfl ⟨_, _, _, _, _, _, _, rfl, ⟨(S40.selT (a := [.row 3 1 v32 n33 cs34, .box b0 148 [Value.int .i64 r21.2.2.ring.p, Value.int .i64 r21.2.2.ring.vars, v0_2, v0_3, Value.int .i64 r21.2.2.many], .row 99 1 v0_2 n0_2 k0_2, .row 99 1 v0_3 n0_3 k0_3]) (l' := [.box b0 148 [Value.int .i64 r21.2.2.ring.p, Value.int .i64 r21.2.2.ring.vars, v0_2, v0_3, Value.int .i64 r21.2.2.many], .row 99 1 v0_2 n0_2 k0_2, .row 99 1 v0_3 n0_3 k0_3]) [1, 2, 3] (by decide) rfl), i29⟩, (p0_2.mono (up_mono i29)), d0_2, (p0_3.mono (up_mono i29))⟩⟩
  ·
    refine FW.condF rfl c41 ?_
    refine FW.skip (FW.seq ?_)
    refine FW.draw (fun w' => Run w38.heap.size H26 w38 H26 w') (by kernel_rfl) (by kernel_rfl) (run_drew S40.sl) ?_
    refine FD.val rfl rfl rfl (fun w' hw' => (E.move (v := Value.pointer (some (⟨b0, 0, none⟩ : Addr))) rfl)) ?_
    refine FD.val rfl rfl rfl (fun w' hw' => (E.nilCheck rfl)) ?_
    refine FD.val rfl rfl rfl (fun w' hw' => (E.fieldAddr tf148_0 rfl)) ?_
    refine FD.val rfl rfl rfl (fun w' hw' => (E.load rfl (run_loadA Tryz.isAgg102 Tryz.sizeOf102 (((S40.call hw').box_now (i := 1) rfl).sub (j := 0) (n := 2) (c := [Value.int .i64 r21.2.2.ring.p, Value.int .i64 r21.2.2.ring.vars]) rfl) rfl))) ?_
    refine FD.val rfl rfl rfl (fun w' hw' => (E.move (v := v30) rfl)) ?_
    refine FD.val rfl rfl rfl (fun w' hw' => (E.move (v := Value.int .i64 r36) rfl)) ?_
    obtain ⟨x49, hx50, hp⟩ := bnd hp
    obtain ⟨p43, cs44, pt45, l46, at47, rel48⟩ := h31.at hx50
    obtain rfl := eI_open rel48
    refine FD.val rfl rfl rfl (fun w' hw' => (E.indexAddr te99 rfl rfl pt45)) ?_
    refine FD.val rfl rfl rfl (fun w' hw' => (E.load rfl (run_load0 Tryz.isAgg3 (at47.now (S40.call hw').sl) rfl))) ?_
    obtain ⟨r51, hr52, hp⟩ := bnd hp
    refine FD.call rfl rfl rfl (fun w' hw' => (E.call Tryz.call245 (A2 rfl rfl))) (fun w' hw' => Calls.cls hw' (w_impl_ring_inverse (S40.call hw').sl r21.2.2.ring x49 hr52)) ?_
    refine FD.val rfl rfl rfl (fun w' hw' => (E.assign (v := Value.int .i64 r51) rfl)) ?_
    refine FD.nil ?_
    intro w53 r55
    have S54 := S40.call r55
    refine FW.seq ?_
    obtain ⟨r42, hr59, hp⟩ := bnd hp
    obtain ⟨r73, hr74, hp⟩ := bnd hp
    refine FW.drawB (SX H0 w0 H26 (.box b0 148 [Value.int .i64 r21.2.2.ring.p, Value.int .i64 r21.2.2.ring.vars, v0_2, v0_3, Value.int .i64 r21.2.2.many] :: L)) (fun f w => ∃ H : GH, ∃ v85 : Value, ∃ n86 : Nat, ∃ cs87 : List Value, St H0 w0 H w (.row 3 1 v32 n33 cs34 :: .box b0 148 [Value.int .i64 r21.2.2.ring.p, Value.int .i64 r21.2.2.ring.vars, v0_2, v0_3, Value.int .i64 r21.2.2.many] :: .row 99 1 v0_2 n0_2 k0_2 :: .row 99 1 v0_3 n0_3 k0_3 :: .row 3 1 v85 n86 cs87 :: L) ∧ Inc H26 H ∧ Els (up w0.heap.size H) eI 1 cs87 r73 ∧ f 0 = Value.pointer (some (⟨b0, 0, none⟩ : Addr)) ∧ f 5 = v85 ∧ f 6 = v32 ∧ f 7 = Value.int .i64 r36 ∧ f 8 = Value.int .i64 r51) (by kernel_rfl) S54.sl ?_ ?_
    ·
      intro w56 r57
      have S58 := S54.call r57
      refine FB.t (i := 0) (bs 13 1) rfl (SP.nil ⟨_, (S58.selT (a := [.row 3 1 v32 n33 cs34, .box b0 148 [Value.int .i64 r21.2.2.ring.p, Value.int .i64 r21.2.2.ring.vars, v0_2, v0_3, Value.int .i64 r21.2.2.many], .row 99 1 v0_2 n0_2 k0_2, .row 99 1 v0_3 n0_3 k0_3]) (l' := [.box b0 148 [Value.int .i64 r21.2.2.ring.p, Value.int .i64 r21.2.2.ring.vars, v0_2, v0_3, Value.int .i64 r21.2.2.many]]) [1] (by decide) rfl), (Inc.rfl _)⟩) rfl (fun w' hw' => (E.move (v := Value.pointer (some (⟨b0, 0, none⟩ : Addr))) rfl)) ?_
      refine FB.t (i := 1) (bs 13 3) rfl (SP.nil ⟨_, (S58.selT (a := [.row 3 1 v32 n33 cs34, .box b0 148 [Value.int .i64 r21.2.2.ring.p, Value.int .i64 r21.2.2.ring.vars, v0_2, v0_3, Value.int .i64 r21.2.2.many], .row 99 1 v0_2 n0_2 k0_2, .row 99 1 v0_3 n0_3 k0_3]) (l' := [.box b0 148 [Value.int .i64 r21.2.2.ring.p, Value.int .i64 r21.2.2.ring.vars, v0_2, v0_3, Value.int .i64 r21.2.2.many]]) [1] (by decide) rfl), (Inc.rfl _)⟩) rfl (fun w' hw' => (E.nilCheck rfl)) ?_
      refine FB.t (i := 2) (bs 13 7) rfl (SP.nil ⟨_, (S58.selT (a := [.row 3 1 v32 n33 cs34, .box b0 148 [Value.int .i64 r21.2.2.ring.p, Value.int .i64 r21.2.2.ring.vars, v0_2, v0_3, Value.int .i64 r21.2.2.many], .row 99 1 v0_2 n0_2 k0_2, .row 99 1 v0_3 n0_3 k0_3]) (l' := [.box b0 148 [Value.int .i64 r21.2.2.ring.p, Value.int .i64 r21.2.2.ring.vars, v0_2, v0_3, Value.int .i64 r21.2.2.many]]) [1] (by decide) rfl), (Inc.rfl _)⟩) rfl (fun w' hw' => (E.fieldAddr tf148_0 rfl)) ?_
      refine FB.t (i := 3) (bs 13 15) rfl (SP.nil ⟨_, (S58.selT (a := [.row 3 1 v32 n33 cs34, .box b0 148 [Value.int .i64 r21.2.2.ring.p, Value.int .i64 r21.2.2.ring.vars, v0_2, v0_3, Value.int .i64 r21.2.2.many], .row 99 1 v0_2 n0_2 k0_2, .row 99 1 v0_3 n0_3 k0_3]) (l' := [.box b0 148 [Value.int .i64 r21.2.2.ring.p, Value.int .i64 r21.2.2.ring.vars, v0_2, v0_3, Value.int .i64 r21.2.2.many]]) [1] (by decide) rfl), (Inc.rfl _)⟩) rfl (fun w' hw' => (E.load rfl (run_loadA Tryz.isAgg102 Tryz.sizeOf102 ((SX.box_now hw' (i := 0) rfl).sub (j := 0) (n := 2) (c := [Value.int .i64 r21.2.2.ring.p, Value.int .i64 r21.2.2.ring.vars]) rfl) rfl))) ?_
      refine FB.t (i := 4) (bs 13 31) rfl (SP.nil ⟨_, (S58.selT (a := [.row 3 1 v32 n33 cs34, .box b0 148 [Value.int .i64 r21.2.2.ring.p, Value.int .i64 r21.2.2.ring.vars, v0_2, v0_3, Value.int .i64 r21.2.2.many], .row 99 1 v0_2 n0_2 k0_2, .row 99 1 v0_3 n0_3 k0_3]) (l' := [.box b0 148 [Value.int .i64 r21.2.2.ring.p, Value.int .i64 r21.2.2.ring.vars, v0_2, v0_3, Value.int .i64 r21.2.2.many]]) [1] (by decide) rfl), (Inc.rfl _)⟩) rfl (fun w' hw' => (E.move (v := Value.pointer (some (⟨b0, 0, none⟩ : Addr))) rfl)) ?_
      refine FB.t (i := 5) (bs 13 63) rfl (SP.nil ⟨_, (S58.selT (a := [.row 3 1 v32 n33 cs34, .box b0 148 [Value.int .i64 r21.2.2.ring.p, Value.int .i64 r21.2.2.ring.vars, v0_2, v0_3, Value.int .i64 r21.2.2.many], .row 99 1 v0_2 n0_2 k0_2, .row 99 1 v0_3 n0_3 k0_3]) (l' := [.box b0 148 [Value.int .i64 r21.2.2.ring.p, Value.int .i64 r21.2.2.ring.vars, v0_2, v0_3, Value.int .i64 r21.2.2.many]]) [1] (by decide) rfl), (Inc.rfl _)⟩) rfl (fun w' hw' => (E.nilCheck rfl)) ?_
      refine FB.t (i := 6) (bs 13 127) rfl (SP.nil ⟨_, (S58.selT (a := [.row 3 1 v32 n33 cs34, .box b0 148 [Value.int .i64 r21.2.2.ring.p, Value.int .i64 r21.2.2.ring.vars, v0_2, v0_3, Value.int .i64 r21.2.2.many], .row 99 1 v0_2 n0_2 k0_2, .row 99 1 v0_3 n0_3 k0_3]) (l' := [.box b0 148 [Value.int .i64 r21.2.2.ring.p, Value.int .i64 r21.2.2.ring.vars, v0_2, v0_3, Value.int .i64 r21.2.2.many]]) [1] (by decide) rfl), (Inc.rfl _)⟩) rfl (fun w' hw' => (E.fieldAddr tf148_0 rfl)) ?_
      refine FB.t (i := 7) (bs 13 255) rfl (SP.nil ⟨_, (S58.selT (a := [.row 3 1 v32 n33 cs34, .box b0 148 [Value.int .i64 r21.2.2.ring.p, Value.int .i64 r21.2.2.ring.vars, v0_2, v0_3, Value.int .i64 r21.2.2.many], .row 99 1 v0_2 n0_2 k0_2, .row 99 1 v0_3 n0_3 k0_3]) (l' := [.box b0 148 [Value.int .i64 r21.2.2.ring.p, Value.int .i64 r21.2.2.ring.vars, v0_2, v0_3, Value.int .i64 r21.2.2.many]]) [1] (by decide) rfl), (Inc.rfl _)⟩) rfl (fun w' hw' => (E.load rfl (run_loadA Tryz.isAgg102 Tryz.sizeOf102 ((SX.box_now hw' (i := 0) rfl).sub (j := 0) (n := 2) (c := [Value.int .i64 r21.2.2.ring.p, Value.int .i64 r21.2.2.ring.vars]) rfl) rfl))) ?_
      refine FB.t (i := 9) (bs 13 767) rfl (SP.nil ⟨_, (S58.selT (a := [.row 3 1 v32 n33 cs34, .box b0 148 [Value.int .i64 r21.2.2.ring.p, Value.int .i64 r21.2.2.ring.vars, v0_2, v0_3, Value.int .i64 r21.2.2.many], .row 99 1 v0_2 n0_2 k0_2, .row 99 1 v0_3 n0_3 k0_3]) (l' := [.box b0 148 [Value.int .i64 r21.2.2.ring.p, Value.int .i64 r21.2.2.ring.vars, v0_2, v0_3, Value.int .i64 r21.2.2.many]]) [1] (by decide) rfl), (Inc.rfl _)⟩) rfl (fun w' hw' => (E.move (v := v30) rfl)) ?_
      refine FB.t (i := 10) (bs 13 1791) rfl (SP.nil ⟨_, (S58.selT (a := [.row 3 1 v32 n33 cs34, .box b0 148 [Value.int .i64 r21.2.2.ring.p, Value.int .i64 r21.2.2.ring.vars, v0_2, v0_3, Value.int .i64 r21.2.2.many], .row 99 1 v0_2 n0_2 k0_2, .row 99 1 v0_3 n0_3 k0_3]) (l' := [.box b0 148 [Value.int .i64 r21.2.2.ring.p, Value.int .i64 r21.2.2.ring.vars, v0_2, v0_3, Value.int .i64 r21.2.2.many]]) [1] (by decide) rfl), (Inc.rfl _)⟩) rfl (fun w' hw' => (E.move (v := Value.int .i64 r51) rfl)) ?_
      refine FB.all1 (i := 8) (by kernel_rfl) ?_
      ·
        refine FC.call (l' := (bs 13 2047)) rfl (by kernel_rfl) rfl rfl rfl (E.call Tryz.call165 (A1 rfl)) (w_impl_ring_zero S58.sl r21.2.2.ring hr59) ?_
        rintro e w61 ⟨H60, v64, n65, cs66, rfl, r63, els67⟩
        refine ⟨_, rfl, ?_⟩
        have els67 := els67.mono (up_le S58.size)
        have S62 := S58.join (l' := (.row 3 1 v64 n65 cs66 :: .row 3 1 v32 n33 cs34 :: .box b0 148 [Value.int .i64 r21.2.2.ring.p, Value.int .i64 r21.2.2.ring.vars, v0_2, v0_3, Value.int .i64 r21.2.2.many] :: .row 99 1 v0_2 n0_2 k0_2 :: .row 99 1 v0_3 n0_3 k0_3 :: L)) r63 rfl
        refine ⟨(SP.nil ⟨_, (S62.selT (a := [.row 3 1 v64 n65 cs66, .row 3 1 v32 n33 cs34, .box b0 148 [Value.int .i64 r21.2.2.ring.p, Value.int .i64 r21.2.2.ring.vars, v0_2, v0_3, Value.int .i64 r21.2.2.many], .row 99 1 v0_2 n0_2 k0_2, .row 99 1 v0_3 n0_3 k0_3]) (l' := [.box b0 148 [Value.int .i64 r21.2.2.ring.p, Value.int .i64 r21.2.2.ring.vars, v0_2, v0_3, Value.int .i64 r21.2.2.many]]) [2] (by decide) rfl), r63.run.inc⟩), ?_⟩
        refine FB.all1 (i := 11) (by kernel_rfl) ?_
        ·
          obtain ⟨H68, S69, i70, h71, nv72⟩ := S62.sealRowU (i := 0) (l' := (.row 3 1 v32 n33 cs34 :: .box b0 148 [Value.int .i64 r21.2.2.ring.p, Value.int .i64 r21.2.2.ring.vars, v0_2, v0_3, Value.int .i64 r21.2.2.many] :: .row 99 1 v0_2 n0_2 k0_2 :: .row 99 1 v0_3 n0_3 k0_3 :: L)) rfl els67 (by decide) rfl
          refine FC.call (l' := (bs 13 4095)) rfl (by kernel_rfl) rfl rfl rfl (E.call Tryz.call164 (A4 rfl rfl rfl rfl)) (w_impl_ring_plus S69.sl r21.2.2.ring v64 r42 (h71.mono upI) v30 r21.1 (h31.mono (r63.run.inc.tr i70)) r51 hr74) ?_
          rintro e w76 ⟨H75, v81, n82, cs83, rfl, r78, els84⟩
          refine ⟨_, rfl, ?_⟩
          obtain ⟨H79, r78, hU80⟩ := St.lendX i70 S62.sl r78
          have els84 := els84.mono (hU80.tr (up_le S62.size))
          have S77 := S62.join (l' := (.row 3 1 v81 n82 cs83 :: .row 3 1 v64 n65 cs66 :: .row 3 1 v32 n33 cs34 :: .box b0 148 [Value.int .i64 r21.2.2.ring.p, Value.int .i64 r21.2.2.ring.vars, v0_2, v0_3, Value.int .i64 r21.2.2.many] :: .row 99 1 v0_2 n0_2 k0_2 :: .row 99 1 v0_3 n0_3 k0_3 :: L)) r78 rfl
          refine ⟨(SP.nil ⟨_, (S77.selT (a := [.row 3 1 v81 n82 cs83, .row 3 1 v64 n65 cs66, .row 3 1 v32 n33 cs34, .box b0 148 [Value.int .i64 r21.2.2.ring.p, Value.int .i64 r21.2.2.ring.vars, v0_2, v0_3, Value.int .i64 r21.2.2.many], .row 99 1 v0_2 n0_2 k0_2, .row 99 1 v0_3 n0_3 k0_3]) (l' := [.box b0 148 [Value.int .i64 r21.2.2.ring.p, Value.int .i64 r21.2.2.ring.vars, v0_2, v0_3, Value.int .i64 r21.2.2.many]]) [3] (by decide) rfl), (r63.run.inc.tr r78.run.inc)⟩), ?_⟩
          refine FB.t (i := 12) (bs 13 8191) rfl (SP.nil ⟨_, (S77.selT (a := [.row 3 1 v81 n82 cs83, .row 3 1 v64 n65 cs66, .row 3 1 v32 n33 cs34, .box b0 148 [Value.int .i64 r21.2.2.ring.p, Value.int .i64 r21.2.2.ring.vars, v0_2, v0_3, Value.int .i64 r21.2.2.many], .row 99 1 v0_2 n0_2 k0_2, .row 99 1 v0_3 n0_3 k0_3]) (l' := [.box b0 148 [Value.int .i64 r21.2.2.ring.p, Value.int .i64 r21.2.2.ring.vars, v0_2, v0_3, Value.int .i64 r21.2.2.many]]) [3] (by decide) rfl), (r63.run.inc.tr r78.run.inc)⟩) rfl (fun w' hw' => (E.assign (v := v81) rfl)) ?_
          exact FB.done (by kernel_rfl) ⟨_, _, _, _, (S77.selT (a := [.row 3 1 v81 n82 cs83, .row 3 1 v64 n65 cs66, .row 3 1 v32 n33 cs34, .box b0 148 [Value.int .i64 r21.2.2.ring.p, Value.int .i64 r21.2.2.ring.vars, v0_2, v0_3, Value.int .i64 r21.2.2.many], .row 99 1 v0_2 n0_2 k0_2, .row 99 1 v0_3 n0_3 k0_3]) (l' := [.row 3 1 v32 n33 cs34, .box b0 148 [Value.int .i64 r21.2.2.ring.p, Value.int .i64 r21.2.2.ring.vars, v0_2, v0_3, Value.int .i64 r21.2.2.many], .row 99 1 v0_2 n0_2 k0_2, .row 99 1 v0_3 n0_3 k0_3, .row 3 1 v81 n82 cs83]) [2, 3, 4, 5, 0] (by decide) rfl), (r63.run.inc.tr r78.run.inc), els84, rfl, rfl, rfl, rfl, rfl⟩
    ·
      rintro f93 w92 ⟨H89, v85, n86, cs87, S90, i91, els88, k94, k95, k96, k97, k98⟩
      refine FW.seq (FW.region ?_)
      refine FL.v (E.move k94) ?_
      refine FL.v (E.nilCheck rfl) ?_
      refine FL.v (E.fieldAddr tf148_3 rfl) ?_
      refine FL.v (E.load rfl (run_load1 Tryz.isAgg3 (S90.box_now (i := 1) rfl) rfl)) ?_
      refine FL.v (E.add rfl rfl) ?_
      obtain ⟨xs100, hm101, hp⟩ := bnd hp
      obtain ⟨v104, w105, n109, cs110, run106, S107, els108, hbl111⟩ := S90.makeEls (P := Tryz.prog) te99 (G := (up w0.heap.size H89)) (En := eI) (x0 := (0 : Int)) hm101 rfl (ones_cons rfl ones_nil) .i64 .i64
      refine FL.v (E.makeSlice rfl rfl run106) ?_
      refine FL.v (E.assign (v := v104) rfl) ?_
      refine FL.nil (FW.seq (FW.seq (FW.region ?_)))
      refine FL.v (E.move k96) ?_
      refine FL.v (E.lenO te99 rfl S107 (i := 1) rfl els35 (by decide)) ?_
      refine FL.v (E.move (v := Value.int .i64 0) rfl) ?_
      refine FL.nil ?_
      obtain ⟨m112, hchk113, hp⟩ := bnd hp
      obtain ⟨q113, hq, hp⟩ := bndR hp
      refine FW.block ?_
      refine FW.mono (FW.forR (S := (List Int)) (X := Empty) (fun (i113 : Nat) (s113 : (List Int)) f w => ∃ H : GH, ∃ v114 : Value, ∃ n115 : Nat, ∃ cs116 : List Value, St H0 w0 H w (.row 3 1 v114 n115 cs116 :: .row 3 1 v32 n33 cs34 :: .box b0 148 [Value.int .i64 r21.2.2.ring.p, Value.int .i64 r21.2.2.ring.vars, v0_2, v0_3, Value.int .i64 r21.2.2.many] :: .row 99 1 v0_2 n0_2 k0_2 :: .row 99 1 v0_3 n0_3 k0_3 :: .row 3 1 v85 n86 cs87 :: L) ∧ Inc H89 H ∧ Els (up w0.heap.size H) eI 1 cs116 s113 ∧ f 56 = Value.int .i64 ((i113 : Nat) : Int) ∧ f 0 = Value.pointer (some (⟨b0, 0, none⟩ : Addr)) ∧ f 5 = v85 ∧ f 7 = Value.int .i64 r36 ∧ f 8 = Value.int .i64 r51 ∧ f 9 = v114 ∧ f 54 = v32 ∧ f 55 = Value.int .i64 (len r21.2.1)) (fun (q : Rs (List Int) Empty) e f w => match q with | .go s113 => e = Exit.exit 0 ∧ (∃ H : GH, ∃ v114 : Value, ∃ n115 : Nat, ∃ cs116 : List Value, St H0 w0 H w (.row 3 1 v114 n115 cs116 :: .row 3 1 v32 n33 cs34 :: .box b0 148 [Value.int .i64 r21.2.2.ring.p, Value.int .i64 r21.2.2.ring.vars, v0_2, v0_3, Value.int .i64 r21.2.2.many] :: .row 99 1 v0_2 n0_2 k0_2 :: .row 99 1 v0_3 n0_3 k0_3 :: .row 3 1 v85 n86 cs87 :: L) ∧ Inc H89 H ∧ Els (up w0.heap.size H) eI 1 cs116 s113 ∧ f 0 = Value.pointer (some (⟨b0, 0, none⟩ : Addr)) ∧ f 5 = v85 ∧ f 7 = Value.int .i64 r36 ∧ f 8 = Value.int .i64 r51 ∧ f 9 = v114) | .rt x => x.elim) hq ⟨_, _, _, _, S107, (Inc.rfl _), els108, rfl, k94, k95, k97, k98, rfl, rfl, rfl⟩ ?_ ?_) ?_
      ·
        clear hp hq
        rintro i113 s113 f122 w121 ⟨H118, v114, n115, cs116, S119, i120, els117, k123, k124, k125, k126, k127, k128, k129, k130⟩ hi113 hj113 o179 hp
        refine FW.seq (FW.region ?_)
        refine FL.v (E.lssT k123 k130 (lss_chk hj113 hchk113)) ?_
        refine FL.nil (FW.seq ?_)
        refine FW.condT rfl rfl ?_
        refine FW.skip (FW.seq (FW.block (FW.seq (FW.region ?_))))
        refine FL.v (E.move k123) ?_
        obtain ⟨x137, hx138, hp⟩ := bnd hp
        obtain ⟨p131, cs132, pt133, l134, at135, rel136⟩ := S119.row_at (i := 1) rfl els35 (by decide) hx138
        obtain rfl := eI_open rel136
        refine FL.v (E.indexAddr te99 k129 k123 pt133) ?_
        refine FL.v (E.load rfl (run_load0 Tryz.isAgg3 at135 rfl)) ?_
        refine FL.v (E.assign (v := Value.int .i64 ((i113 : Nat) : Int)) rfl) ?_
        refine FL.v (E.assign (v := Value.int .i64 x137) rfl) ?_
        refine FL.nil ?_
        obtain ⟨u143, z142, hp⟩ := bnd hp
        obtain ⟨x151, hx152, hp⟩ := bnd hp
        obtain ⟨xs157, hput158, hp⟩ := bnd hp
        refine FW.drawB (SX H0 w0 H118 (.box b0 148 [Value.int .i64 r21.2.2.ring.p, Value.int .i64 r21.2.2.ring.vars, v0_2, v0_3, Value.int .i64 r21.2.2.many] :: L)) (fun f w => ∃ H : GH, ∃ v162 : Value, ∃ n163 : Nat, ∃ cs164 : List Value, St H0 w0 H w (.row 3 1 v162 n163 cs164 :: .row 3 1 v32 n33 cs34 :: .box b0 148 [Value.int .i64 r21.2.2.ring.p, Value.int .i64 r21.2.2.ring.vars, v0_2, v0_3, Value.int .i64 r21.2.2.many] :: .row 99 1 v0_2 n0_2 k0_2 :: .row 99 1 v0_3 n0_3 k0_3 :: .row 3 1 v85 n86 cs87 :: L) ∧ Inc H118 H ∧ Els (up w0.heap.size H) eI 1 cs164 xs157 ∧ f 0 = Value.pointer (some (⟨b0, 0, none⟩ : Addr)) ∧ f 5 = v85 ∧ f 7 = Value.int .i64 r36 ∧ f 8 = Value.int .i64 r51 ∧ f 9 = v162 ∧ f 54 = v32 ∧ f 55 = Value.int .i64 (len r21.2.1) ∧ f 56 = Value.int .i64 ((i113 : Nat) : Int)) (by kernel_rfl) S119.sl ?_ ?_
        ·
          intro w139 r140
          have S141 := S119.call r140
          refine FB.t (i := 0) (bs 19 1) rfl (SP.nil ⟨_, (S141.selT (a := [.row 3 1 v114 n115 cs116, .row 3 1 v32 n33 cs34, .box b0 148 [Value.int .i64 r21.2.2.ring.p, Value.int .i64 r21.2.2.ring.vars, v0_2, v0_3, Value.int .i64 r21.2.2.many], .row 99 1 v0_2 n0_2 k0_2, .row 99 1 v0_3 n0_3 k0_3, .row 3 1 v85 n86 cs87]) (l' := [.box b0 148 [Value.int .i64 r21.2.2.ring.p, Value.int .i64 r21.2.2.ring.vars, v0_2, v0_3, Value.int .i64 r21.2.2.many]]) [2] (by decide) rfl), (Inc.rfl _)⟩) rfl (fun w' hw' => (E.move k128)) ?_
          refine FB.t (i := 1) (bs 19 3) rfl (SP.nil ⟨_, (S141.selT (a := [.row 3 1 v114 n115 cs116, .row 3 1 v32 n33 cs34, .box b0 148 [Value.int .i64 r21.2.2.ring.p, Value.int .i64 r21.2.2.ring.vars, v0_2, v0_3, Value.int .i64 r21.2.2.many], .row 99 1 v0_2 n0_2 k0_2, .row 99 1 v0_3 n0_3 k0_3, .row 3 1 v85 n86 cs87]) (l' := [.box b0 148 [Value.int .i64 r21.2.2.ring.p, Value.int .i64 r21.2.2.ring.vars, v0_2, v0_3, Value.int .i64 r21.2.2.many]]) [2] (by decide) rfl), (Inc.rfl _)⟩) rfl (fun w' hw' => (E.move (v := Value.int .i64 ((i113 : Nat) : Int)) rfl)) ?_
          refine FB.t (i := 2) (bs 19 7) rfl (SP.nil ⟨_, (S141.selT (a := [.row 3 1 v114 n115 cs116, .row 3 1 v32 n33 cs34, .box b0 148 [Value.int .i64 r21.2.2.ring.p, Value.int .i64 r21.2.2.ring.vars, v0_2, v0_3, Value.int .i64 r21.2.2.many], .row 99 1 v0_2 n0_2 k0_2, .row 99 1 v0_3 n0_3 k0_3, .row 3 1 v85 n86 cs87]) (l' := [.box b0 148 [Value.int .i64 r21.2.2.ring.p, Value.int .i64 r21.2.2.ring.vars, v0_2, v0_3, Value.int .i64 r21.2.2.many]]) [2] (by decide) rfl), (Inc.rfl _)⟩) rfl (fun w' hw' => (E.move k124)) ?_
          refine FB.t (i := 3) (bs 19 15) rfl (SP.nil ⟨_, (S141.selT (a := [.row 3 1 v114 n115 cs116, .row 3 1 v32 n33 cs34, .box b0 148 [Value.int .i64 r21.2.2.ring.p, Value.int .i64 r21.2.2.ring.vars, v0_2, v0_3, Value.int .i64 r21.2.2.many], .row 99 1 v0_2 n0_2 k0_2, .row 99 1 v0_3 n0_3 k0_3, .row 3 1 v85 n86 cs87]) (l' := [.box b0 148 [Value.int .i64 r21.2.2.ring.p, Value.int .i64 r21.2.2.ring.vars, v0_2, v0_3, Value.int .i64 r21.2.2.many]]) [2] (by decide) rfl), (Inc.rfl _)⟩) rfl (fun w' hw' => (E.nilCheck rfl)) ?_
          refine FB.t (i := 4) (bs 19 31) rfl (SP.nil ⟨_, (S141.selT (a := [.row 3 1 v114 n115 cs116, .row 3 1 v32 n33 cs34, .box b0 148 [Value.int .i64 r21.2.2.ring.p, Value.int .i64 r21.2.2.ring.vars, v0_2, v0_3, Value.int .i64 r21.2.2.many], .row 99 1 v0_2 n0_2 k0_2, .row 99 1 v0_3 n0_3 k0_3, .row 3 1 v85 n86 cs87]) (l' := [.box b0 148 [Value.int .i64 r21.2.2.ring.p, Value.int .i64 r21.2.2.ring.vars, v0_2, v0_3, Value.int .i64 r21.2.2.many]]) [2] (by decide) rfl), (Inc.rfl _)⟩) rfl (fun w' hw' => (E.fieldAddr tf148_0 rfl)) ?_
          refine FB.t (i := 5) (bs 19 63) rfl (SP.nil ⟨_, (S141.selT (a := [.row 3 1 v114 n115 cs116, .row 3 1 v32 n33 cs34, .box b0 148 [Value.int .i64 r21.2.2.ring.p, Value.int .i64 r21.2.2.ring.vars, v0_2, v0_3, Value.int .i64 r21.2.2.many], .row 99 1 v0_2 n0_2 k0_2, .row 99 1 v0_3 n0_3 k0_3, .row 3 1 v85 n86 cs87]) (l' := [.box b0 148 [Value.int .i64 r21.2.2.ring.p, Value.int .i64 r21.2.2.ring.vars, v0_2, v0_3, Value.int .i64 r21.2.2.many]]) [2] (by decide) rfl), (Inc.rfl _)⟩) rfl (fun w' hw' => (E.fieldAddrN tf102_0 rfl rfl)) ?_
          refine FB.t (i := 6) (bs 19 127) rfl (SP.nil ⟨_, (S141.selT (a := [.row 3 1 v114 n115 cs116, .row 3 1 v32 n33 cs34, .box b0 148 [Value.int .i64 r21.2.2.ring.p, Value.int .i64 r21.2.2.ring.vars, v0_2, v0_3, Value.int .i64 r21.2.2.many], .row 99 1 v0_2 n0_2 k0_2, .row 99 1 v0_3 n0_3 k0_3, .row 3 1 v85 n86 cs87]) (l' := [.box b0 148 [Value.int .i64 r21.2.2.ring.p, Value.int .i64 r21.2.2.ring.vars, v0_2, v0_3, Value.int .i64 r21.2.2.many]]) [2] (by decide) rfl), (Inc.rfl _)⟩) rfl (fun w' hw' => (E.load rfl (run_load1 Tryz.isAgg3 (SX.box_now hw' (i := 0) rfl) rfl))) ?_
          refine FB.t (i := 7) (bs 19 255) rfl (SP.nil ⟨_, (S141.selT (a := [.row 3 1 v114 n115 cs116, .row 3 1 v32 n33 cs34, .box b0 148 [Value.int .i64 r21.2.2.ring.p, Value.int .i64 r21.2.2.ring.vars, v0_2, v0_3, Value.int .i64 r21.2.2.many], .row 99 1 v0_2 n0_2 k0_2, .row 99 1 v0_3 n0_3 k0_3, .row 3 1 v85 n86 cs87]) (l' := [.box b0 148 [Value.int .i64 r21.2.2.ring.p, Value.int .i64 r21.2.2.ring.vars, v0_2, v0_3, Value.int .i64 r21.2.2.many]]) [2] (by decide) rfl), (Inc.rfl _)⟩) rfl (fun w' hw' => (E.move (v := Value.int .i64 x137) rfl)) ?_
          refine FB.t (i := 8) (bs 19 511) rfl (SP.nil ⟨_, (S141.selT (a := [.row 3 1 v114 n115 cs116, .row 3 1 v32 n33 cs34, .box b0 148 [Value.int .i64 r21.2.2.ring.p, Value.int .i64 r21.2.2.ring.vars, v0_2, v0_3, Value.int .i64 r21.2.2.many], .row 99 1 v0_2 n0_2 k0_2, .row 99 1 v0_3 n0_3 k0_3, .row 3 1 v85 n86 cs87]) (l' := [.box b0 148 [Value.int .i64 r21.2.2.ring.p, Value.int .i64 r21.2.2.ring.vars, v0_2, v0_3, Value.int .i64 r21.2.2.many]]) [2] (by decide) rfl), (Inc.rfl _)⟩) rfl (fun w' hw' => (E.sub rfl rfl)) ?_
          refine FB.t (i := 9) (bs 19 1023) rfl (SP.nil ⟨_, (S141.selT (a := [.row 3 1 v114 n115 cs116, .row 3 1 v32 n33 cs34, .box b0 148 [Value.int .i64 r21.2.2.ring.p, Value.int .i64 r21.2.2.ring.vars, v0_2, v0_3, Value.int .i64 r21.2.2.many], .row 99 1 v0_2 n0_2 k0_2, .row 99 1 v0_3 n0_3 k0_3, .row 3 1 v85 n86 cs87]) (l' := [.box b0 148 [Value.int .i64 r21.2.2.ring.p, Value.int .i64 r21.2.2.ring.vars, v0_2, v0_3, Value.int .i64 r21.2.2.many]]) [2] (by decide) rfl), (Inc.rfl _)⟩) rfl (fun w' hw' => (E.move k127)) ?_
          refine FB.t (i := 10) (bs 19 2047) rfl (SP.nil ⟨_, (S141.selT (a := [.row 3 1 v114 n115 cs116, .row 3 1 v32 n33 cs34, .box b0 148 [Value.int .i64 r21.2.2.ring.p, Value.int .i64 r21.2.2.ring.vars, v0_2, v0_3, Value.int .i64 r21.2.2.many], .row 99 1 v0_2 n0_2 k0_2, .row 99 1 v0_3 n0_3 k0_3, .row 3 1 v85 n86 cs87]) (l' := [.box b0 148 [Value.int .i64 r21.2.2.ring.p, Value.int .i64 r21.2.2.ring.vars, v0_2, v0_3, Value.int .i64 r21.2.2.many]]) [2] (by decide) rfl), (Inc.rfl _)⟩) rfl (fun w' hw' => (E.mul rfl rfl)) ?_
          refine FB.t (i := 11) (bs 19 4095) rfl (SP.nil ⟨_, (S141.selT (a := [.row 3 1 v114 n115 cs116, .row 3 1 v32 n33 cs34, .box b0 148 [Value.int .i64 r21.2.2.ring.p, Value.int .i64 r21.2.2.ring.vars, v0_2, v0_3, Value.int .i64 r21.2.2.many], .row 99 1 v0_2 n0_2 k0_2, .row 99 1 v0_3 n0_3 k0_3, .row 3 1 v85 n86 cs87]) (l' := [.box b0 148 [Value.int .i64 r21.2.2.ring.p, Value.int .i64 r21.2.2.ring.vars, v0_2, v0_3, Value.int .i64 r21.2.2.many]]) [2] (by decide) rfl), (Inc.rfl _)⟩) rfl (fun w' hw' => (E.move k124)) ?_
          refine FB.t (i := 12) (bs 19 8191) rfl (SP.nil ⟨_, (S141.selT (a := [.row 3 1 v114 n115 cs116, .row 3 1 v32 n33 cs34, .box b0 148 [Value.int .i64 r21.2.2.ring.p, Value.int .i64 r21.2.2.ring.vars, v0_2, v0_3, Value.int .i64 r21.2.2.many], .row 99 1 v0_2 n0_2 k0_2, .row 99 1 v0_3 n0_3 k0_3, .row 3 1 v85 n86 cs87]) (l' := [.box b0 148 [Value.int .i64 r21.2.2.ring.p, Value.int .i64 r21.2.2.ring.vars, v0_2, v0_3, Value.int .i64 r21.2.2.many]]) [2] (by decide) rfl), (Inc.rfl _)⟩) rfl (fun w' hw' => (E.nilCheck rfl)) ?_
          refine FB.t (i := 13) (bs 19 16383) rfl (SP.nil ⟨_, (S141.selT (a := [.row 3 1 v114 n115 cs116, .row 3 1 v32 n33 cs34, .box b0 148 [Value.int .i64 r21.2.2.ring.p, Value.int .i64 r21.2.2.ring.vars, v0_2, v0_3, Value.int .i64 r21.2.2.many], .row 99 1 v0_2 n0_2 k0_2, .row 99 1 v0_3 n0_3 k0_3, .row 3 1 v85 n86 cs87]) (l' := [.box b0 148 [Value.int .i64 r21.2.2.ring.p, Value.int .i64 r21.2.2.ring.vars, v0_2, v0_3, Value.int .i64 r21.2.2.many]]) [2] (by decide) rfl), (Inc.rfl _)⟩) rfl (fun w' hw' => (E.fieldAddr tf148_0 rfl)) ?_
          refine FB.t (i := 14) (bs 19 32767) rfl (SP.nil ⟨_, (S141.selT (a := [.row 3 1 v114 n115 cs116, .row 3 1 v32 n33 cs34, .box b0 148 [Value.int .i64 r21.2.2.ring.p, Value.int .i64 r21.2.2.ring.vars, v0_2, v0_3, Value.int .i64 r21.2.2.many], .row 99 1 v0_2 n0_2 k0_2, .row 99 1 v0_3 n0_3 k0_3, .row 3 1 v85 n86 cs87]) (l' := [.box b0 148 [Value.int .i64 r21.2.2.ring.p, Value.int .i64 r21.2.2.ring.vars, v0_2, v0_3, Value.int .i64 r21.2.2.many]]) [2] (by decide) rfl), (Inc.rfl _)⟩) rfl (fun w' hw' => (E.fieldAddrN tf102_0 rfl rfl)) ?_
          refine FB.t (i := 15) (bs 19 65535) rfl (SP.nil ⟨_, (S141.selT (a := [.row 3 1 v114 n115 cs116, .row 3 1 v32 n33 cs34, .box b0 148 [Value.int .i64 r21.2.2.ring.p, Value.int .i64 r21.2.2.ring.vars, v0_2, v0_3, Value.int .i64 r21.2.2.many], .row 99 1 v0_2 n0_2 k0_2, .row 99 1 v0_3 n0_3 k0_3, .row 3 1 v85 n86 cs87]) (l' := [.box b0 148 [Value.int .i64 r21.2.2.ring.p, Value.int .i64 r21.2.2.ring.vars, v0_2, v0_3, Value.int .i64 r21.2.2.many]]) [2] (by decide) rfl), (Inc.rfl _)⟩) rfl (fun w' hw' => (E.load rfl (run_load1 Tryz.isAgg3 (SX.box_now hw' (i := 0) rfl) rfl))) ?_
          refine FB.t (i := 16) (bs 19 131071) rfl (SP.nil ⟨_, (S141.selT (a := [.row 3 1 v114 n115 cs116, .row 3 1 v32 n33 cs34, .box b0 148 [Value.int .i64 r21.2.2.ring.p, Value.int .i64 r21.2.2.ring.vars, v0_2, v0_3, Value.int .i64 r21.2.2.many], .row 99 1 v0_2 n0_2 k0_2, .row 99 1 v0_3 n0_3 k0_3, .row 3 1 v85 n86 cs87]) (l' := [.box b0 148 [Value.int .i64 r21.2.2.ring.p, Value.int .i64 r21.2.2.ring.vars, v0_2, v0_3, Value.int .i64 r21.2.2.many]]) [2] (by decide) rfl), (Inc.rfl _)⟩) rfl (fun w' hw' => (E.rem rfl rfl (nz_ne z142))) ?_
          obtain ⟨p144, cs145, pt146, l147, at149, rel150, hall153⟩ := S141.row_atA (i := 0) rfl els117 (by decide) hx152
          obtain rfl := eI_open rel150
          refine FB.t (i := 17) (bs 19 262143) rfl (SP.nil ⟨_, (S141.selT (a := [.row 3 1 v114 n115 cs116, .row 3 1 v32 n33 cs34, .box b0 148 [Value.int .i64 r21.2.2.ring.p, Value.int .i64 r21.2.2.ring.vars, v0_2, v0_3, Value.int .i64 r21.2.2.many], .row 99 1 v0_2 n0_2 k0_2, .row 99 1 v0_3 n0_3 k0_3, .row 3 1 v85 n86 cs87]) (l' := [.box b0 148 [Value.int .i64 r21.2.2.ring.p, Value.int .i64 r21.2.2.ring.vars, v0_2, v0_3, Value.int .i64 r21.2.2.many]]) [2] (by decide) rfl), (Inc.rfl _)⟩) rfl (fun w' hw' => (E.indexAddr te99 rfl rfl pt146)) ?_
          refine FB.all1 (i := 18) (by kernel_rfl) ?_
          ·
            obtain ⟨w154, cs160, run155, S156, els159, ce161⟩ := S141.putEls (P := Tryz.prog) (t := 3) (i := 0) rfl els117 hput158 pt146 Tryz.sizeOf3 (u := Value.int .i64 ((wr ((wr (r21.2.2.ring.p - x137)) * r51)).tmod r21.2.2.ring.p)) (c := [Value.int .i64 ((wr ((wr (r21.2.2.ring.p - x137)) * r51)).tmod r21.2.2.ring.p)]) rfl rfl (ones_cons rfl ones_nil) rfl
            have S156 : St H0 w0 H118 w154 (.row 3 1 v114 n115 cs160 :: .row 3 1 v32 n33 cs34 :: .box b0 148 [Value.int .i64 r21.2.2.ring.p, Value.int .i64 r21.2.2.ring.vars, v0_2, v0_3, Value.int .i64 r21.2.2.many] :: .row 99 1 v0_2 n0_2 k0_2 :: .row 99 1 v0_3 n0_3 k0_3 :: .row 3 1 v85 n86 cs87 :: L) := S156
            refine FC.act (l' := (bs 19 524287)) rfl (by kernel_rfl) rfl rfl (E.store rfl rfl run155) ?_
            refine ⟨(SP.nil ⟨_, (S156.selT (a := [.row 3 1 v114 n115 cs160, .row 3 1 v32 n33 cs34, .box b0 148 [Value.int .i64 r21.2.2.ring.p, Value.int .i64 r21.2.2.ring.vars, v0_2, v0_3, Value.int .i64 r21.2.2.many], .row 99 1 v0_2 n0_2 k0_2, .row 99 1 v0_3 n0_3 k0_3, .row 3 1 v85 n86 cs87]) (l' := [.box b0 148 [Value.int .i64 r21.2.2.ring.p, Value.int .i64 r21.2.2.ring.vars, v0_2, v0_3, Value.int .i64 r21.2.2.many]]) [2] (by decide) rfl), (Inc.rfl _)⟩), ?_⟩
            exact FB.done (by kernel_rfl) ⟨_, _, _, _, S156, (Inc.rfl _), els159, k124, k125, k126, k127, k128, k129, k130, k123⟩
        ·
          rintro f170 w169 ⟨H166, v162, n163, cs164, S167, i168, els165, k171, k172, k173, k174, k175, k176, k177, k178⟩
          refine FW.region ?_
          refine FL.v (E.add k178 rfl) ?_
          refine FL.v (E.move (v := Value.int .i64 (wr (((i113 : Nat) : Int) + 1))) rfl) ?_
          refine FL.nil ?_
          obtain rfl := Option.some.inj hp
          exact ⟨rfl, ⟨_, _, _, _, S167, (i120.tr i168), els165, (nat_succ rfl hj113 (chk_le hchk113)), k171, k172, k173, k174, k175, k176, k177⟩⟩
      ·
        clear hp hq
        rintro s113 f598 w597 ⟨H594, v114, n115, cs116, S595, i596, els117, k599, k600, k601, k602, k603, k604, k605, k606⟩
        refine FW.seq (FW.region ?_)
        refine FL.v (E.lss k599 k606) ?_
        refine FL.nil (FW.seq ?_)
        refine FW.condF rfl (dlt_maxchk hchk113) ?_
        refine FW.exit ?_
        exact ⟨nofun, rfl, ⟨_, _, _, _, S595, i596, els117, k600, k601, k602, k603, k604⟩⟩
      ·
        clear hq
        intro e f184 w183 hD
        rcases q113 with s113 | x113
        ·
          obtain ⟨rfl, hD⟩ := hD
          obtain ⟨H180, v114, n115, cs116, S181, i182, els117, k185, k186, k187, k188, k189⟩ := hD
          replace hp := el_go hp
          refine FW.seq (FW.region ?_)
          refine FL.v (E.move k189) ?_
          refine FL.v (E.move k185) ?_
          refine FL.v (E.nilCheck rfl) ?_
          refine FL.v (E.fieldAddr tf148_3 rfl) ?_
          refine FL.v (E.load rfl (run_load1 Tryz.isAgg3 (S181.box_now (i := 2) rfl) rfl)) ?_
          refine FL.v (E.move k188) ?_
          obtain ⟨x196, hx197, hp⟩ := bnd hp
          obtain ⟨p190, cs191, pt192, l193, at194, rel195⟩ := S181.row_at (i := 0) rfl els117 (by decide) hx197
          obtain rfl := eI_open rel195
          refine FL.v (E.indexAddr te99 rfl rfl pt192) ?_
          obtain ⟨xs201, hput202, hp⟩ := bnd hp
          obtain ⟨w198, cs204, run199, S200, els203, ce205⟩ := S181.putEls (P := Tryz.prog) (t := 3) (i := 0) rfl els117 hput202 pt192 Tryz.sizeOf3 (u := Value.int .i64 r51) (c := [Value.int .i64 r51]) rfl rfl (ones_cons rfl ones_nil) rfl
          have S200 : St H0 w0 H180 w198 (.row 3 1 v114 n115 cs204 :: .row 3 1 v32 n33 cs34 :: .box b0 148 [Value.int .i64 r21.2.2.ring.p, Value.int .i64 r21.2.2.ring.vars, v0_2, v0_3, Value.int .i64 r21.2.2.many] :: .row 99 1 v0_2 n0_2 k0_2 :: .row 99 1 v0_3 n0_3 k0_3 :: .row 3 1 v85 n86 cs87 :: L) := S200
          refine FL.act rfl rfl (E.store rfl rfl run199) ?_
          refine FL.nil (FW.seq (FW.region ?_))
          refine FL.v (E.move k185) ?_
          refine FL.v (E.nilCheck rfl) ?_
          refine FL.v (E.fieldAddr tf148_3 rfl) ?_
          refine FL.v (E.load rfl (run_load1 Tryz.isAgg3 (S200.box_now (i := 2) rfl) rfl)) ?_
          refine FL.v (E.add rfl rfl) ?_
          refine FL.v (E.nilCheck rfl) ?_
          refine FL.v (E.fieldAddr tf148_3 rfl) ?_
          obtain ⟨w206, run207, S208⟩ := S200.store (P := Tryz.prog) (t := 3) (i := 2) (j := 4) (cs' := [Value.int .i64 r21.2.2.ring.p, Value.int .i64 r21.2.2.ring.vars, v0_2, v0_3, Value.int .i64 (wr (r21.2.2.many + 1))]) (l' := (.row 3 1 v114 n115 cs204 :: .row 3 1 v32 n33 cs34 :: .box b0 148 [Value.int .i64 r21.2.2.ring.p, Value.int .i64 r21.2.2.ring.vars, v0_2, v0_3, Value.int .i64 (wr (r21.2.2.many + 1))] :: .row 99 1 v0_2 n0_2 k0_2 :: .row 99 1 v0_3 n0_3 k0_3 :: .row 3 1 v85 n86 cs87 :: L)) (v := Value.int .i64 (wr (r21.2.2.many + 1))) (c := [Value.int .i64 (wr (r21.2.2.many + 1))]) rfl Tryz.sizeOf3 rfl rfl (ones_cons rfl ones_nil) (Nat.le_of_ble_eq_true rfl) rfl rfl
          refine FL.act rfl rfl (E.store rfl rfl run207) ?_
          refine FL.nil (FW.seq (FW.seq (FW.region ?_)))
          refine FL.v (E.move k185) ?_
          refine FL.v (E.nilCheck rfl) ?_
          refine FL.v (E.fieldAddr tf148_1 rfl) ?_
          refine FL.v (E.load rfl (run_load1 Tryz.isAgg103 (S208.box_now (i := 2) rfl) rfl)) ?_
          refine FL.v (E.lenO te103 rfl S208 (i := 3) rfl p0_2 (by decide)) ?_
          refine FL.v (E.move (v := Value.int .i64 0) rfl) ?_
          refine FL.nil ?_
          obtain ⟨m209, hchk210, hp⟩ := bnd hp
          obtain ⟨q210, hq, hp⟩ := bndR hp
          refine FW.block ?_
          refine FW.mono (FW.forR (S := ((List (List Int)) × (List (List Int)) × Int × Int × Int)) (X := Empty) (fun (i210 : Nat) (s210 : ((List (List Int)) × (List (List Int)) × Int × Int × Int)) f w => ∃ H : GH, ∃ cs211 : List Value, ∃ cs214 : List Value, St H0 w0 H w (.row 3 1 v114 n115 cs204 :: .box b0 148 [Value.int .i64 s210.2.2.1, Value.int .i64 s210.2.2.2.1, v0_2, v0_3, Value.int .i64 s210.2.2.2.2] :: .row 99 1 v0_2 n0_2 cs211 :: .row 99 1 v0_3 n0_3 cs214 :: .row 3 1 v85 n86 cs87 :: L) ∧ Inc H180 H ∧ Els (up w0.heap.size H) (eL eI 1) 1 cs211 s210.1 ∧ Els (up w0.heap.size H) (eL eI 1) 1 cs214 s210.2.1 ∧ (bl cs211).Nodup ∧ f 99 = Value.int .i64 ((i210 : Nat) : Int) ∧ f 0 = Value.pointer (some (⟨b0, 0, none⟩ : Addr)) ∧ f 5 = v85 ∧ f 7 = Value.int .i64 r36 ∧ f 9 = v114 ∧ f 97 = v0_2 ∧ f 98 = Value.int .i64 (len a0.rows)) (fun (q : Rs ((List (List Int)) × (List (List Int)) × Int × Int × Int) Empty) e f w => match q with | .go s210 => e = Exit.exit 2 ∧ (∃ H : GH, ∃ cs211 : List Value, ∃ cs214 : List Value, St H0 w0 H w (.row 3 1 v114 n115 cs204 :: .box b0 148 [Value.int .i64 s210.2.2.1, Value.int .i64 s210.2.2.2.1, v0_2, v0_3, Value.int .i64 s210.2.2.2.2] :: .row 99 1 v0_2 n0_2 cs211 :: .row 99 1 v0_3 n0_3 cs214 :: .row 3 1 v85 n86 cs87 :: L) ∧ Inc H180 H ∧ Els (up w0.heap.size H) (eL eI 1) 1 cs211 s210.1 ∧ Els (up w0.heap.size H) (eL eI 1) 1 cs214 s210.2.1 ∧ (bl cs211).Nodup ∧ f 0 = Value.pointer (some (⟨b0, 0, none⟩ : Addr)) ∧ f 5 = v85 ∧ f 9 = v114) | .rt x => x.elim) hq ⟨_, _, _, (S208.selT (a := [.row 3 1 v114 n115 cs204, .row 3 1 v32 n33 cs34, .box b0 148 [Value.int .i64 r21.2.2.ring.p, Value.int .i64 r21.2.2.ring.vars, v0_2, v0_3, Value.int .i64 (wr (r21.2.2.many + 1))], .row 99 1 v0_2 n0_2 k0_2, .row 99 1 v0_3 n0_3 k0_3, .row 3 1 v85 n86 cs87]) (l' := [.row 3 1 v114 n115 cs204, .box b0 148 [Value.int .i64 r21.2.2.ring.p, Value.int .i64 r21.2.2.ring.vars, v0_2, v0_3, Value.int .i64 (wr (r21.2.2.many + 1))], .row 99 1 v0_2 n0_2 k0_2, .row 99 1 v0_3 n0_3 k0_3, .row 3 1 v85 n86 cs87]) [0, 2, 3, 4, 5] (by decide) rfl), (Inc.rfl _), (p0_2.mono (up_mono ((i29.tr i91).tr i182))), (p0_3.mono (up_mono ((i29.tr i91).tr i182))), d0_2, rfl, k185, k186, k187, k189, rfl, rfl⟩ ?_ ?_) ?_
          ·
            clear hp hq
            rintro i210 s210 f220 w219 ⟨H216, cs211, cs214, S217, i218, els212, els215, nd213, k221, k222, k223, k224, k225, k226, k227⟩ hi210 hj210 o522 hp
            refine FW.seq (FW.region ?_)
            refine FL.v (E.lssT k221 k227 (lss_chk hj210 hchk210)) ?_
            refine FL.nil (FW.seq ?_)
            refine FW.condT rfl rfl ?_
            refine FW.skip (FW.seq (FW.block (FW.seq (FW.region ?_))))
            refine FL.v (E.move k221) ?_
            obtain ⟨x234, hx235, hp⟩ := bnd hp
            obtain ⟨p228, cs229, pt230, l231, at232, rel233⟩ := S217.row_at (i := 2) rfl els212 (by decide) hx235
            obtain ⟨v236, rfl, h237⟩ := eL_open rel233
            refine FL.v (E.indexAddr te103 k226 k221 pt230) ?_
            refine FL.v (E.load rfl (run_load0 Tryz.isAgg99 at232 rfl)) ?_
            refine FL.v (E.assign (v := Value.int .i64 ((i210 : Nat) : Int)) rfl) ?_
            refine FL.v (E.assign (v := v236) rfl) ?_
            refine FL.nil (FW.seq ?_)
            obtain ⟨x247, hx248, hp⟩ := bnd hp
            obtain ⟨r252, hr253, hp⟩ := bnd hp
            obtain ⟨x268, hx269, hp⟩ := bnd hp
            obtain ⟨xs273, hz274, hp⟩ := bnd hp
            obtain ⟨x288, hx289, hp⟩ := bnd hp
            refine FW.drawB (Sl H216) (fun f w => ∃ H : GH, ∃ cs298 : List Value, ∃ v299 : Value, ∃ n300 : Nat, ∃ cs301 : List Value, St H0 w0 H w (.row 3 1 v114 n115 cs204 :: .box b0 148 [Value.int .i64 s210.2.2.1, Value.int .i64 s210.2.2.2.1, v0_2, v0_3, Value.int .i64 s210.2.2.2.2] :: .row 99 1 v0_2 n0_2 cs211 :: .row 99 1 v0_3 n0_3 cs298 :: .row 3 1 v85 n86 cs87 :: .row 3 1 v299 n300 cs301 :: L) ∧ Inc H216 H ∧ Els (up w0.heap.size H) eI 1 cs301 xs273 ∧ Pend (up w0.heap.size H) (eL eI 1) cs298 s210.2.1 ((i210 : Nat) : Int) v299 ∧ f 0 = Value.pointer (some (⟨b0, 0, none⟩ : Addr)) ∧ f 5 = v85 ∧ f 7 = Value.int .i64 r36 ∧ f 9 = v114 ∧ f 12 = Value.int .i64 ((i210 : Nat) : Int) ∧ f 13 = v236 ∧ f 97 = v0_2 ∧ f 98 = Value.int .i64 (len a0.rows) ∧ f 99 = Value.int .i64 ((i210 : Nat) : Int)) (by kernel_rfl) S217.sl ?_ ?_
            ·
              intro w238 r239
              have S240 := S217.call r239
              refine FB.phase [] (fun w => WAt w (Addr.add ⟨b0, 0, none⟩ 4) [Value.int .i64 s210.2.2.2.2]) ?_
              refine FB.phase [28] (fun w => WAt w (Addr.add ⟨b0, 0, none⟩ 3) [v0_3]) ?_
              refine FB.t (i := 0) (bs 29 1) rfl (SP.on ((S240.box_now (i := 1) rfl).sub (j := 3) (n := 1) (c := [v0_3]) rfl) (SP.on ((S240.box_now (i := 1) rfl).sub (j := 4) (n := 1) (c := [Value.int .i64 s210.2.2.2.2]) rfl) (SP.nil S240.sl))) rfl (fun w' hw' => (E.move k222)) ?_
              refine FB.t (i := 1) (bs 29 3) rfl (SP.on ((S240.box_now (i := 1) rfl).sub (j := 3) (n := 1) (c := [v0_3]) rfl) (SP.on ((S240.box_now (i := 1) rfl).sub (j := 4) (n := 1) (c := [Value.int .i64 s210.2.2.2.2]) rfl) (SP.nil S240.sl))) rfl (fun w' hw' => (E.nilCheck rfl)) ?_
              refine FB.t (i := 2) (bs 29 7) rfl (SP.on ((S240.box_now (i := 1) rfl).sub (j := 3) (n := 1) (c := [v0_3]) rfl) (SP.on ((S240.box_now (i := 1) rfl).sub (j := 4) (n := 1) (c := [Value.int .i64 s210.2.2.2.2]) rfl) (SP.nil S240.sl))) rfl (fun w' hw' => (E.fieldAddr tf148_2 rfl)) ?_
              refine FB.p (i := 3) (bs 29 15) 0 [27, 28] rfl (SP.on ((S240.box_now (i := 1) rfl).sub (j := 3) (n := 1) (c := [v0_3]) rfl) (SP.on ((S240.box_now (i := 1) rfl).sub (j := 4) (n := 1) (c := [Value.int .i64 s210.2.2.2.2]) rfl) (SP.nil S240.sl))) rfl rfl (fun w' hw' => (E.load rfl (run_load0 Tryz.isAgg103 hw' rfl))) ?_
              refine FB.t (i := 4) (bs 29 31) rfl (SP.on ((S240.box_now (i := 1) rfl).sub (j := 3) (n := 1) (c := [v0_3]) rfl) (SP.on ((S240.box_now (i := 1) rfl).sub (j := 4) (n := 1) (c := [Value.int .i64 s210.2.2.2.2]) rfl) (SP.nil S240.sl))) rfl (fun w' hw' => (E.move (v := Value.int .i64 ((i210 : Nat) : Int)) rfl)) ?_
              refine FB.t (i := 5) (bs 29 63) rfl (SP.on ((S240.box_now (i := 1) rfl).sub (j := 3) (n := 1) (c := [v0_3]) rfl) (SP.on ((S240.box_now (i := 1) rfl).sub (j := 4) (n := 1) (c := [Value.int .i64 s210.2.2.2.2]) rfl) (SP.nil S240.sl))) rfl (fun w' hw' => (E.move k222)) ?_
              refine FB.t (i := 6) (bs 29 127) rfl (SP.on ((S240.box_now (i := 1) rfl).sub (j := 3) (n := 1) (c := [v0_3]) rfl) (SP.on ((S240.box_now (i := 1) rfl).sub (j := 4) (n := 1) (c := [Value.int .i64 s210.2.2.2.2]) rfl) (SP.nil S240.sl))) rfl (fun w' hw' => (E.nilCheck rfl)) ?_
              refine FB.t (i := 7) (bs 29 255) rfl (SP.on ((S240.box_now (i := 1) rfl).sub (j := 3) (n := 1) (c := [v0_3]) rfl) (SP.on ((S240.box_now (i := 1) rfl).sub (j := 4) (n := 1) (c := [Value.int .i64 s210.2.2.2.2]) rfl) (SP.nil S240.sl))) rfl (fun w' hw' => (E.fieldAddr tf148_2 rfl)) ?_
              refine FB.p (i := 8) (bs 29 511) 0 [10, 11, 12, 26, 27, 28] rfl (SP.on ((S240.box_now (i := 1) rfl).sub (j := 3) (n := 1) (c := [v0_3]) rfl) (SP.on ((S240.box_now (i := 1) rfl).sub (j := 4) (n := 1) (c := [Value.int .i64 s210.2.2.2.2]) rfl) (SP.nil S240.sl))) rfl rfl (fun w' hw' => (E.load rfl (run_load0 Tryz.isAgg103 hw' rfl))) ?_
              refine FB.t (i := 9) (bs 29 1023) rfl (SP.on ((S240.box_now (i := 1) rfl).sub (j := 3) (n := 1) (c := [v0_3]) rfl) (SP.on ((S240.box_now (i := 1) rfl).sub (j := 4) (n := 1) (c := [Value.int .i64 s210.2.2.2.2]) rfl) (SP.nil S240.sl))) rfl (fun w' hw' => (E.move (v := Value.int .i64 ((i210 : Nat) : Int)) rfl)) ?_
              obtain ⟨p241, cs242, pt243, l244, at245, rel246, hall249⟩ := S240.row_atA (i := 3) rfl els215 (by decide) hx248
              obtain ⟨v250, rfl, h251⟩ := eL_open rel246
              refine FB.t (i := 10) (bs 29 2047) rfl (SP.on ((S240.box_now (i := 1) rfl).sub (j := 3) (n := 1) (c := [v0_3]) rfl) (SP.on ((S240.box_now (i := 1) rfl).sub (j := 4) (n := 1) (c := [Value.int .i64 s210.2.2.2.2]) rfl) (SP.nil S240.sl))) rfl (fun w' hw' => (E.indexAddr te103 rfl rfl pt243)) ?_
              refine FB.phase [28] (fun w' => WAt w' p241 [v250]) ?_
              refine FB.p (i := 11) (bs 29 4095) 0 [12, 26, 27, 28] rfl (SP.on (hall249 _ _ _ 3 S240 rfl) (SP.on ((S240.box_now (i := 1) rfl).sub (j := 3) (n := 1) (c := [v0_3]) rfl) (SP.on ((S240.box_now (i := 1) rfl).sub (j := 4) (n := 1) (c := [Value.int .i64 s210.2.2.2.2]) rfl) (SP.nil S240.sl)))) rfl rfl (fun w' hw' => (E.load rfl (run_load0 Tryz.isAgg99 hw' rfl))) ?_
              refine FB.t (i := 13) (bs 29 12287) rfl (SP.on (hall249 _ _ _ 3 S240 rfl) (SP.on ((S240.box_now (i := 1) rfl).sub (j := 3) (n := 1) (c := [v0_3]) rfl) (SP.on ((S240.box_now (i := 1) rfl).sub (j := 4) (n := 1) (c := [Value.int .i64 s210.2.2.2.2]) rfl) (SP.nil S240.sl)))) rfl (fun w' hw' => (E.move k222)) ?_
              refine FB.t (i := 14) (bs 29 28671) rfl (SP.on (hall249 _ _ _ 3 S240 rfl) (SP.on ((S240.box_now (i := 1) rfl).sub (j := 3) (n := 1) (c := [v0_3]) rfl) (SP.on ((S240.box_now (i := 1) rfl).sub (j := 4) (n := 1) (c := [Value.int .i64 s210.2.2.2.2]) rfl) (SP.nil S240.sl)))) rfl (fun w' hw' => (E.nilCheck rfl)) ?_
              refine FB.t (i := 15) (bs 29 61439) rfl (SP.on (hall249 _ _ _ 3 S240 rfl) (SP.on ((S240.box_now (i := 1) rfl).sub (j := 3) (n := 1) (c := [v0_3]) rfl) (SP.on ((S240.box_now (i := 1) rfl).sub (j := 4) (n := 1) (c := [Value.int .i64 s210.2.2.2.2]) rfl) (SP.nil S240.sl)))) rfl (fun w' hw' => (E.fieldAddr tf148_3 rfl)) ?_
              refine FB.p (i := 16) (bs 29 126975) 2 [25, 26, 27, 28] rfl (SP.on (hall249 _ _ _ 3 S240 rfl) (SP.on ((S240.box_now (i := 1) rfl).sub (j := 3) (n := 1) (c := [v0_3]) rfl) (SP.on ((S240.box_now (i := 1) rfl).sub (j := 4) (n := 1) (c := [Value.int .i64 s210.2.2.2.2]) rfl) (SP.nil S240.sl)))) rfl rfl (fun w' hw' => (E.load rfl (run_load0 Tryz.isAgg3 hw' rfl))) ?_
              refine FB.t (i := 17) (bs 29 258047) rfl (SP.on (hall249 _ _ _ 3 S240 rfl) (SP.on ((S240.box_now (i := 1) rfl).sub (j := 3) (n := 1) (c := [v0_3]) rfl) (SP.on ((S240.box_now (i := 1) rfl).sub (j := 4) (n := 1) (c := [Value.int .i64 s210.2.2.2.2]) rfl) (SP.nil S240.sl)))) rfl (fun w' hw' => (E.move k222)) ?_
              refine FB.t (i := 18) (bs 29 520191) rfl (SP.on (hall249 _ _ _ 3 S240 rfl) (SP.on ((S240.box_now (i := 1) rfl).sub (j := 3) (n := 1) (c := [v0_3]) rfl) (SP.on ((S240.box_now (i := 1) rfl).sub (j := 4) (n := 1) (c := [Value.int .i64 s210.2.2.2.2]) rfl) (SP.nil S240.sl)))) rfl (fun w' hw' => (E.nilCheck rfl)) ?_
              refine FB.t (i := 19) (bs 29 1044479) rfl (SP.on (hall249 _ _ _ 3 S240 rfl) (SP.on ((S240.box_now (i := 1) rfl).sub (j := 3) (n := 1) (c := [v0_3]) rfl) (SP.on ((S240.box_now (i := 1) rfl).sub (j := 4) (n := 1) (c := [Value.int .i64 s210.2.2.2.2]) rfl) (SP.nil S240.sl)))) rfl (fun w' hw' => (E.fieldAddr tf148_2 rfl)) ?_
              refine FB.p (i := 20) (bs 29 2093055) 1 [22, 23, 24, 25, 26, 27, 28] rfl (SP.on (hall249 _ _ _ 3 S240 rfl) (SP.on ((S240.box_now (i := 1) rfl).sub (j := 3) (n := 1) (c := [v0_3]) rfl) (SP.on ((S240.box_now (i := 1) rfl).sub (j := 4) (n := 1) (c := [Value.int .i64 s210.2.2.2.2]) rfl) (SP.nil S240.sl)))) rfl rfl (fun w' hw' => (E.load rfl (run_load0 Tryz.isAgg103 hw' rfl))) ?_
              refine FB.t (i := 21) (bs 29 4190207) rfl (SP.on (hall249 _ _ _ 3 S240 rfl) (SP.on ((S240.box_now (i := 1) rfl).sub (j := 3) (n := 1) (c := [v0_3]) rfl) (SP.on ((S240.box_now (i := 1) rfl).sub (j := 4) (n := 1) (c := [Value.int .i64 s210.2.2.2.2]) rfl) (SP.nil S240.sl)))) rfl (fun w' hw' => (E.move (v := Value.int .i64 ((i210 : Nat) : Int)) rfl)) ?_
              obtain ⟨p262, cs263, pt264, l265, at266, rel267, hall270⟩ := S240.row_atA (i := 3) rfl els215 (by decide) hx269
              obtain ⟨v271, rfl, h272⟩ := eL_open rel267
              refine FB.t (i := 22) (bs 29 8384511) rfl (SP.on (hall249 _ _ _ 3 S240 rfl) (SP.on ((S240.box_now (i := 1) rfl).sub (j := 3) (n := 1) (c := [v0_3]) rfl) (SP.on ((S240.box_now (i := 1) rfl).sub (j := 4) (n := 1) (c := [Value.int .i64 s210.2.2.2.2]) rfl) (SP.nil S240.sl)))) rfl (fun w' hw' => (E.indexAddr te103 rfl rfl pt264)) ?_
              refine FB.phase [28] (fun w' => WAt w' p262 [v271]) ?_
              refine FB.p (i := 23) (bs 29 16773119) 0 [24, 25, 26, 27, 28] rfl (SP.on (hall270 _ _ _ 3 S240 rfl) (SP.on (hall249 _ _ _ 3 S240 rfl) (SP.on ((S240.box_now (i := 1) rfl).sub (j := 3) (n := 1) (c := [v0_3]) rfl) (SP.on ((S240.box_now (i := 1) rfl).sub (j := 4) (n := 1) (c := [Value.int .i64 s210.2.2.2.2]) rfl) (SP.nil S240.sl))))) rfl rfl (fun w' hw' => (E.load rfl (run_load0 Tryz.isAgg99 hw' rfl))) ?_
              refine FB.t (i := 24) (bs 29 33550335) rfl (SP.on (hall270 _ _ _ 3 S240 rfl) (SP.on (hall249 _ _ _ 3 S240 rfl) (SP.on ((S240.box_now (i := 1) rfl).sub (j := 3) (n := 1) (c := [v0_3]) rfl) (SP.on ((S240.box_now (i := 1) rfl).sub (j := 4) (n := 1) (c := [Value.int .i64 s210.2.2.2.2]) rfl) (SP.nil S240.sl))))) rfl (fun w' hw' => (E.lenP te99 rfl h272)) ?_
              refine FB.t (i := 25) (bs 29 67104767) rfl (SP.on (hall270 _ _ _ 3 S240 rfl) (SP.on (hall249 _ _ _ 3 S240 rfl) (SP.on ((S240.box_now (i := 1) rfl).sub (j := 3) (n := 1) (c := [v0_3]) rfl) (SP.on ((S240.box_now (i := 1) rfl).sub (j := 4) (n := 1) (c := [Value.int .i64 s210.2.2.2.2]) rfl) (SP.nil S240.sl))))) rfl (fun w' hw' => (E.sub rfl rfl)) ?_
              refine FB.all1 (i := 12) (by kernel_rfl) ?_
              ·
                refine FC.call (l' := (bs 29 67108863)) rfl (by kernel_rfl) rfl rfl rfl (E.call Tryz.call213 (A1 rfl)) (w_slices_Clone_impl_dense_int S240.sl v250 x247 (h251.mono upI) hr253) ?_
                rintro e w255 ⟨H254, v258, n259, cs260, rfl, r257, els261⟩
                refine ⟨_, rfl, ?_⟩
                have els261 := els261.mono (up_le S240.size)
                have S256 := S240.join (l' := (.row 3 1 v258 n259 cs260 :: .row 3 1 v114 n115 cs204 :: .box b0 148 [Value.int .i64 s210.2.2.1, Value.int .i64 s210.2.2.2.1, v0_2, v0_3, Value.int .i64 s210.2.2.2.2] :: .row 99 1 v0_2 n0_2 cs211 :: .row 99 1 v0_3 n0_3 cs214 :: .row 3 1 v85 n86 cs87 :: L)) r257 rfl
                refine ⟨(SP.on (hall270 _ _ _ 4 S256 rfl) (SP.on (hall249 _ _ _ 4 S256 rfl) (SP.on ((S256.box_now (i := 2) rfl).sub (j := 3) (n := 1) (c := [v0_3]) rfl) (SP.on ((S256.box_now (i := 2) rfl).sub (j := 4) (n := 1) (c := [Value.int .i64 s210.2.2.2.2]) rfl) (SP.nil (Sl.of_inc r257.run.inc S256.sl)))))), ?_⟩
                refine FB.all1 (i := 26) (by kernel_rfl) ?_
                ·
                  obtain ⟨v275, w278, n276, cs277, run279, S280, els281⟩ := S256.appendZ (P := Tryz.prog) te99 Tryz.underlying3 (i := 0) rfl els261 hz274
                  have S280 : St H0 w0 H254 w278 (.row 3 1 v275 n276 cs277 :: .row 3 1 v114 n115 cs204 :: .box b0 148 [Value.int .i64 s210.2.2.1, Value.int .i64 s210.2.2.2.1, v0_2, v0_3, Value.int .i64 s210.2.2.2.2] :: .row 99 1 v0_2 n0_2 cs211 :: .row 99 1 v0_3 n0_3 cs214 :: .row 3 1 v85 n86 cs87 :: L) := S280
                  refine FC.val (l' := (bs 29 134217727)) rfl (by kernel_rfl) rfl rfl rfl (E.appendZ rfl rfl run279) ?_
                  refine ⟨(SP.on (hall270 _ _ _ 4 S280 rfl) (SP.on (hall249 _ _ _ 4 S280 rfl) (SP.on ((S280.box_now (i := 2) rfl).sub (j := 3) (n := 1) (c := [v0_3]) rfl) (SP.on ((S280.box_now (i := 2) rfl).sub (j := 4) (n := 1) (c := [Value.int .i64 s210.2.2.2.2]) rfl) (SP.nil (Sl.of_inc r257.run.inc S280.sl)))))), ?_⟩
                  obtain ⟨p282, cs283, pt284, l285, at286, rel287, hall290⟩ := S280.row_atA (i := 4) rfl els215 (by decide) hx289
                  obtain ⟨v291, rfl, h292⟩ := eL_open rel287
                  refine FB.t (i := 27) (bs 29 268435455) rfl (SP.on (hall270 _ _ _ 4 S280 rfl) (SP.on (hall249 _ _ _ 4 S280 rfl) (SP.on ((S280.box_now (i := 2) rfl).sub (j := 3) (n := 1) (c := [v0_3]) rfl) (SP.on ((S280.box_now (i := 2) rfl).sub (j := 4) (n := 1) (c := [Value.int .i64 s210.2.2.2.2]) rfl) (SP.nil (Sl.of_inc r257.run.inc S280.sl)))))) rfl (fun w' hw' => (E.indexAddr te103 rfl rfl pt284)) ?_
                  refine FB.all1 (i := 28) (by kernel_rfl) ?_
                  ·
                    obtain ⟨w293, cs294, run295, S296, pd297⟩ := S280.pend (P := Tryz.prog) (t := 99) (i := 4) rfl els215 hx289 pt284 Tryz.sizeOf99 (u := v275) (Ln.cells (S280.row_ln (i := 0) rfl)) (ones_cons (Ln.one (S280.row_ln (i := 0) rfl)) ones_nil)
                    have S296 : St H0 w0 H254 w293 (.row 3 1 v275 n276 cs277 :: .row 3 1 v114 n115 cs204 :: .box b0 148 [Value.int .i64 s210.2.2.1, Value.int .i64 s210.2.2.2.1, v0_2, v0_3, Value.int .i64 s210.2.2.2.2] :: .row 99 1 v0_2 n0_2 cs211 :: .row 99 1 v0_3 n0_3 cs294 :: .row 3 1 v85 n86 cs87 :: L) := S296
                    refine FC.act (l' := (bs 29 536870911)) rfl (by kernel_rfl) rfl rfl (E.store rfl rfl run295) ?_
                    refine ⟨(SP.o (SP.o (SP.o (SP.on ((S296.box_now (i := 2) rfl).sub (j := 4) (n := 1) (c := [Value.int .i64 s210.2.2.2.2]) rfl) (SP.nil (Sl.of_inc r257.run.inc S296.sl)))))), ?_⟩
                    exact FB.done (by kernel_rfl) ⟨_, _, _, _, _, (S296.selT (a := [.row 3 1 v275 n276 cs277, .row 3 1 v114 n115 cs204, .box b0 148 [Value.int .i64 s210.2.2.1, Value.int .i64 s210.2.2.2.1, v0_2, v0_3, Value.int .i64 s210.2.2.2.2], .row 99 1 v0_2 n0_2 cs211, .row 99 1 v0_3 n0_3 cs294, .row 3 1 v85 n86 cs87]) (l' := [.row 3 1 v114 n115 cs204, .box b0 148 [Value.int .i64 s210.2.2.1, Value.int .i64 s210.2.2.2.1, v0_2, v0_3, Value.int .i64 s210.2.2.2.2], .row 99 1 v0_2 n0_2 cs211, .row 99 1 v0_3 n0_3 cs294, .row 3 1 v85 n86 cs87, .row 3 1 v275 n276 cs277]) [1, 2, 3, 4, 5, 0] (by decide) rfl), r257.run.inc, els281, (pd297.mono (up_mono r257.run.inc)), k222, k223, k224, k225, rfl, rfl, k226, k227, k221⟩
            ·
              rintro f308 w307 ⟨H304, cs298, v299, n300, cs301, S305, i306, els302, pd303, k309, k310, k311, k312, k313, k314, k315, k316, k317⟩
              refine FW.seq (FW.region ?_)
              refine FL.v (E.move k314) ?_
              refine FL.v (E.move k311) ?_
              obtain ⟨x324, hx325, hp⟩ := bnd hp
              obtain ⟨p318, cs319, pt320, l321, at322, rel323⟩ := h237.at hx325
              obtain rfl := eI_open rel323
              refine FL.v (E.indexAddr te99 rfl rfl pt320) ?_
              refine FL.v (E.load rfl (run_load0 Tryz.isAgg3 ((at322.mono (upI.tr i306)).now S305.sl) rfl)) ?_
              refine FL.v (E.assign (v := Value.int .i64 x324) rfl) ?_
              refine FL.nil (FW.seq (FW.region ?_))
              refine FL.v (E.move (v := Value.int .i64 x324) rfl) ?_
              refine FL.v (E.neq rfl rfl) ?_
              refine FL.nil ?_
              rcases ifB hp with ⟨c326, hp⟩ | ⟨c326, hp⟩
              ·
                refine FW.condT rfl c326 ?_
                refine FW.seq ?_
                obtain ⟨r335, hr336, hp⟩ := bnd hp
                obtain ⟨x353, hx354, hp⟩ := bnd hp
                obtain ⟨xs366, hput367, hp⟩ := bnd hp
                refine FW.drawB (Sl H304) (fun f w => ∃ H : GH, ∃ cs372 : List Value, St H0 w0 H w (.row 3 1 v114 n115 cs204 :: .box b0 148 [Value.int .i64 s210.2.2.1, Value.int .i64 s210.2.2.2.1, v0_2, v0_3, Value.int .i64 s210.2.2.2.2] :: .row 99 1 v0_2 n0_2 cs372 :: .row 99 1 v0_3 n0_3 cs298 :: .row 3 1 v85 n86 cs87 :: .row 3 1 v299 n300 cs301 :: L) ∧ Inc H304 H ∧ Els (up w0.heap.size H) (eL eI 1) 1 cs372 xs366 ∧ (bl cs372).Nodup ∧ f 0 = Value.pointer (some (⟨b0, 0, none⟩ : Addr)) ∧ f 5 = v85 ∧ f 7 = Value.int .i64 r36 ∧ f 9 = v114 ∧ f 12 = Value.int .i64 ((i210 : Nat) : Int) ∧ f 14 = Value.int .i64 x324 ∧ f 97 = v0_2 ∧ f 98 = Value.int .i64 (len a0.rows) ∧ f 99 = Value.int .i64 ((i210 : Nat) : Int)) (by kernel_rfl) S305.sl ?_ ?_
                ·
                  intro w327 r328
                  have S329 := S305.call r328
                  refine FB.phase [] (fun w => WAt w (Addr.add ⟨b0, 0, none⟩ 0) [Value.int .i64 s210.2.2.1]) ?_
                  refine FB.phase [] (fun w => WAt w (Addr.add ⟨b0, 0, none⟩ 0) [Value.int .i64 s210.2.2.1, Value.int .i64 s210.2.2.2.1]) ?_
                  refine FB.phase [20] (fun w => WAt w (Addr.add ⟨b0, 0, none⟩ 2) [v0_2]) ?_
                  refine FB.t (i := 0) (bs 21 1) rfl (SP.on ((S329.box_now (i := 1) rfl).sub (j := 2) (n := 1) (c := [v0_2]) rfl) (SP.on ((S329.box_now (i := 1) rfl).sub (j := 0) (n := 2) (c := [Value.int .i64 s210.2.2.1, Value.int .i64 s210.2.2.2.1]) rfl) (SP.on ((S329.box_now (i := 1) rfl).sub (j := 0) (n := 1) (c := [Value.int .i64 s210.2.2.1]) rfl) (SP.nil S329.sl)))) rfl (fun w' hw' => (E.move k309)) ?_
                  refine FB.t (i := 1) (bs 21 3) rfl (SP.on ((S329.box_now (i := 1) rfl).sub (j := 2) (n := 1) (c := [v0_2]) rfl) (SP.on ((S329.box_now (i := 1) rfl).sub (j := 0) (n := 2) (c := [Value.int .i64 s210.2.2.1, Value.int .i64 s210.2.2.2.1]) rfl) (SP.on ((S329.box_now (i := 1) rfl).sub (j := 0) (n := 1) (c := [Value.int .i64 s210.2.2.1]) rfl) (SP.nil S329.sl)))) rfl (fun w' hw' => (E.nilCheck rfl)) ?_
                  refine FB.t (i := 2) (bs 21 7) rfl (SP.on ((S329.box_now (i := 1) rfl).sub (j := 2) (n := 1) (c := [v0_2]) rfl) (SP.on ((S329.box_now (i := 1) rfl).sub (j := 0) (n := 2) (c := [Value.int .i64 s210.2.2.1, Value.int .i64 s210.2.2.2.1]) rfl) (SP.on ((S329.box_now (i := 1) rfl).sub (j := 0) (n := 1) (c := [Value.int .i64 s210.2.2.1]) rfl) (SP.nil S329.sl)))) rfl (fun w' hw' => (E.fieldAddr tf148_1 rfl)) ?_
                  refine FB.p (i := 3) (bs 21 15) 0 [19, 20] rfl (SP.on ((S329.box_now (i := 1) rfl).sub (j := 2) (n := 1) (c := [v0_2]) rfl) (SP.on ((S329.box_now (i := 1) rfl).sub (j := 0) (n := 2) (c := [Value.int .i64 s210.2.2.1, Value.int .i64 s210.2.2.2.1]) rfl) (SP.on ((S329.box_now (i := 1) rfl).sub (j := 0) (n := 1) (c := [Value.int .i64 s210.2.2.1]) rfl) (SP.nil S329.sl)))) rfl rfl (fun w' hw' => (E.load rfl (run_load0 Tryz.isAgg103 hw' rfl))) ?_
                  refine FB.t (i := 4) (bs 21 31) rfl (SP.on ((S329.box_now (i := 1) rfl).sub (j := 2) (n := 1) (c := [v0_2]) rfl) (SP.on ((S329.box_now (i := 1) rfl).sub (j := 0) (n := 2) (c := [Value.int .i64 s210.2.2.1, Value.int .i64 s210.2.2.2.1]) rfl) (SP.on ((S329.box_now (i := 1) rfl).sub (j := 0) (n := 1) (c := [Value.int .i64 s210.2.2.1]) rfl) (SP.nil S329.sl)))) rfl (fun w' hw' => (E.move k313)) ?_
                  refine FB.t (i := 5) (bs 21 63) rfl (SP.on ((S329.box_now (i := 1) rfl).sub (j := 2) (n := 1) (c := [v0_2]) rfl) (SP.on ((S329.box_now (i := 1) rfl).sub (j := 0) (n := 2) (c := [Value.int .i64 s210.2.2.1, Value.int .i64 s210.2.2.2.1]) rfl) (SP.on ((S329.box_now (i := 1) rfl).sub (j := 0) (n := 1) (c := [Value.int .i64 s210.2.2.1]) rfl) (SP.nil S329.sl)))) rfl (fun w' hw' => (E.move k309)) ?_
                  refine FB.t (i := 6) (bs 21 127) rfl (SP.on ((S329.box_now (i := 1) rfl).sub (j := 2) (n := 1) (c := [v0_2]) rfl) (SP.on ((S329.box_now (i := 1) rfl).sub (j := 0) (n := 2) (c := [Value.int .i64 s210.2.2.1, Value.int .i64 s210.2.2.2.1]) rfl) (SP.on ((S329.box_now (i := 1) rfl).sub (j := 0) (n := 1) (c := [Value.int .i64 s210.2.2.1]) rfl) (SP.nil S329.sl)))) rfl (fun w' hw' => (E.nilCheck rfl)) ?_
                  refine FB.t (i := 7) (bs 21 255) rfl (SP.on ((S329.box_now (i := 1) rfl).sub (j := 2) (n := 1) (c := [v0_2]) rfl) (SP.on ((S329.box_now (i := 1) rfl).sub (j := 0) (n := 2) (c := [Value.int .i64 s210.2.2.1, Value.int .i64 s210.2.2.2.1]) rfl) (SP.on ((S329.box_now (i := 1) rfl).sub (j := 0) (n := 1) (c := [Value.int .i64 s210.2.2.1]) rfl) (SP.nil S329.sl)))) rfl (fun w' hw' => (E.fieldAddr tf148_0 rfl)) ?_
                  refine FB.p (i := 8) (bs 21 511) 1 [18, 19, 20] rfl (SP.on ((S329.box_now (i := 1) rfl).sub (j := 2) (n := 1) (c := [v0_2]) rfl) (SP.on ((S329.box_now (i := 1) rfl).sub (j := 0) (n := 2) (c := [Value.int .i64 s210.2.2.1, Value.int .i64 s210.2.2.2.1]) rfl) (SP.on ((S329.box_now (i := 1) rfl).sub (j := 0) (n := 1) (c := [Value.int .i64 s210.2.2.1]) rfl) (SP.nil S329.sl)))) rfl rfl (fun w' hw' => (E.load rfl (run_loadA Tryz.isAgg102 Tryz.sizeOf102 hw' rfl))) ?_
                  refine FB.t (i := 9) (bs 21 1023) rfl (SP.on ((S329.box_now (i := 1) rfl).sub (j := 2) (n := 1) (c := [v0_2]) rfl) (SP.on ((S329.box_now (i := 1) rfl).sub (j := 0) (n := 2) (c := [Value.int .i64 s210.2.2.1, Value.int .i64 s210.2.2.2.1]) rfl) (SP.on ((S329.box_now (i := 1) rfl).sub (j := 0) (n := 1) (c := [Value.int .i64 s210.2.2.1]) rfl) (SP.nil S329.sl)))) rfl (fun w' hw' => (E.move k314)) ?_
                  refine FB.t (i := 10) (bs 21 2047) rfl (SP.on ((S329.box_now (i := 1) rfl).sub (j := 2) (n := 1) (c := [v0_2]) rfl) (SP.on ((S329.box_now (i := 1) rfl).sub (j := 0) (n := 2) (c := [Value.int .i64 s210.2.2.1, Value.int .i64 s210.2.2.2.1]) rfl) (SP.on ((S329.box_now (i := 1) rfl).sub (j := 0) (n := 1) (c := [Value.int .i64 s210.2.2.1]) rfl) (SP.nil S329.sl)))) rfl (fun w' hw' => (E.move k310)) ?_
                  refine FB.t (i := 11) (bs 21 4095) rfl (SP.on ((S329.box_now (i := 1) rfl).sub (j := 2) (n := 1) (c := [v0_2]) rfl) (SP.on ((S329.box_now (i := 1) rfl).sub (j := 0) (n := 2) (c := [Value.int .i64 s210.2.2.1, Value.int .i64 s210.2.2.2.1]) rfl) (SP.on ((S329.box_now (i := 1) rfl).sub (j := 0) (n := 1) (c := [Value.int .i64 s210.2.2.1]) rfl) (SP.nil S329.sl)))) rfl (fun w' hw' => (E.move k309)) ?_
                  refine FB.t (i := 12) (bs 21 8191) rfl (SP.on ((S329.box_now (i := 1) rfl).sub (j := 2) (n := 1) (c := [v0_2]) rfl) (SP.on ((S329.box_now (i := 1) rfl).sub (j := 0) (n := 2) (c := [Value.int .i64 s210.2.2.1, Value.int .i64 s210.2.2.2.1]) rfl) (SP.on ((S329.box_now (i := 1) rfl).sub (j := 0) (n := 1) (c := [Value.int .i64 s210.2.2.1]) rfl) (SP.nil S329.sl)))) rfl (fun w' hw' => (E.nilCheck rfl)) ?_
                  refine FB.t (i := 13) (bs 21 16383) rfl (SP.on ((S329.box_now (i := 1) rfl).sub (j := 2) (n := 1) (c := [v0_2]) rfl) (SP.on ((S329.box_now (i := 1) rfl).sub (j := 0) (n := 2) (c := [Value.int .i64 s210.2.2.1, Value.int .i64 s210.2.2.2.1]) rfl) (SP.on ((S329.box_now (i := 1) rfl).sub (j := 0) (n := 1) (c := [Value.int .i64 s210.2.2.1]) rfl) (SP.nil S329.sl)))) rfl (fun w' hw' => (E.fieldAddr tf148_0 rfl)) ?_
                  refine FB.t (i := 14) (bs 21 32767) rfl (SP.on ((S329.box_now (i := 1) rfl).sub (j := 2) (n := 1) (c := [v0_2]) rfl) (SP.on ((S329.box_now (i := 1) rfl).sub (j := 0) (n := 2) (c := [Value.int .i64 s210.2.2.1, Value.int .i64 s210.2.2.2.1]) rfl) (SP.on ((S329.box_now (i := 1) rfl).sub (j := 0) (n := 1) (c := [Value.int .i64 s210.2.2.1]) rfl) (SP.nil S329.sl)))) rfl (fun w' hw' => (E.fieldAddrN tf102_0 rfl rfl)) ?_
                  refine FB.p (i := 15) (bs 21 65535) 2 [17, 18, 19, 20] rfl (SP.on ((S329.box_now (i := 1) rfl).sub (j := 2) (n := 1) (c := [v0_2]) rfl) (SP.on ((S329.box_now (i := 1) rfl).sub (j := 0) (n := 2) (c := [Value.int .i64 s210.2.2.1, Value.int .i64 s210.2.2.2.1]) rfl) (SP.on ((S329.box_now (i := 1) rfl).sub (j := 0) (n := 1) (c := [Value.int .i64 s210.2.2.1]) rfl) (SP.nil S329.sl)))) rfl rfl (fun w' hw' => (E.load rfl (run_load0 Tryz.isAgg3 hw' rfl))) ?_
                  refine FB.t (i := 16) (bs 21 131071) rfl (SP.on ((S329.box_now (i := 1) rfl).sub (j := 2) (n := 1) (c := [v0_2]) rfl) (SP.on ((S329.box_now (i := 1) rfl).sub (j := 0) (n := 2) (c := [Value.int .i64 s210.2.2.1, Value.int .i64 s210.2.2.2.1]) rfl) (SP.on ((S329.box_now (i := 1) rfl).sub (j := 0) (n := 1) (c := [Value.int .i64 s210.2.2.1]) rfl) (SP.nil S329.sl)))) rfl (fun w' hw' => (E.move (v := Value.int .i64 x324) rfl)) ?_
                  refine FB.t (i := 17) (bs 21 262143) rfl (SP.on ((S329.box_now (i := 1) rfl).sub (j := 2) (n := 1) (c := [v0_2]) rfl) (SP.on ((S329.box_now (i := 1) rfl).sub (j := 0) (n := 2) (c := [Value.int .i64 s210.2.2.1, Value.int .i64 s210.2.2.2.1]) rfl) (SP.on ((S329.box_now (i := 1) rfl).sub (j := 0) (n := 1) (c := [Value.int .i64 s210.2.2.1]) rfl) (SP.nil S329.sl)))) rfl (fun w' hw' => (E.sub rfl rfl)) ?_
                  refine FB.all1 (i := 18) (by kernel_rfl) ?_
                  ·
                    obtain ⟨H330, S331, i332, h333, nv334⟩ := S329.sealRowU (i := 4) (l' := (.row 3 1 v114 n115 cs204 :: .box b0 148 [Value.int .i64 s210.2.2.1, Value.int .i64 s210.2.2.2.1, v0_2, v0_3, Value.int .i64 s210.2.2.2.2] :: .row 99 1 v0_2 n0_2 cs211 :: .row 99 1 v0_3 n0_3 cs298 :: .row 3 1 v299 n300 cs301 :: L)) rfl (els88.mono (up_mono ((i182.tr i218).tr i306))) (by decide) rfl
                    refine FC.call (l' := (bs 21 524287)) rfl (by kernel_rfl) rfl rfl rfl (E.call Tryz.call164 (A4 rfl rfl rfl rfl)) (w_impl_ring_plus S331.sl (ring.mk s210.2.2.1 s210.2.2.2.1) v236 x234 (h237.mono (upI.tr (i306.tr i332))) v85 r73 (h333.mono upI) (wr (s210.2.2.1 - x324)) hr336) ?_
                    rintro e w338 ⟨H337, v343, n344, cs345, rfl, r340, els346⟩
                    refine ⟨_, rfl, ?_⟩
                    obtain ⟨H341, r340, hU342⟩ := St.lendX i332 S329.sl r340
                    have els346 := els346.mono (hU342.tr (up_le S329.size))
                    have S339 := S329.join (l' := (.row 3 1 v343 n344 cs345 :: .row 3 1 v114 n115 cs204 :: .box b0 148 [Value.int .i64 s210.2.2.1, Value.int .i64 s210.2.2.2.1, v0_2, v0_3, Value.int .i64 s210.2.2.2.2] :: .row 99 1 v0_2 n0_2 cs211 :: .row 99 1 v0_3 n0_3 cs298 :: .row 3 1 v85 n86 cs87 :: .row 3 1 v299 n300 cs301 :: L)) r340 rfl
                    refine ⟨(SP.on ((S339.box_now (i := 2) rfl).sub (j := 2) (n := 1) (c := [v0_2]) rfl) (SP.on ((S339.box_now (i := 2) rfl).sub (j := 0) (n := 2) (c := [Value.int .i64 s210.2.2.1, Value.int .i64 s210.2.2.2.1]) rfl) (SP.on ((S339.box_now (i := 2) rfl).sub (j := 0) (n := 1) (c := [Value.int .i64 s210.2.2.1]) rfl) (SP.nil (Sl.of_inc r340.run.inc S339.sl))))), ?_⟩
                    obtain ⟨p347, cs348, pt349, l350, at351, rel352, hall355⟩ := S339.row_atA (i := 3) rfl els212 (by decide) hx354
                    obtain ⟨v356, rfl, h357⟩ := eL_open rel352
                    refine FB.t (i := 19) (bs 21 1048575) rfl (SP.on ((S339.box_now (i := 2) rfl).sub (j := 2) (n := 1) (c := [v0_2]) rfl) (SP.on ((S339.box_now (i := 2) rfl).sub (j := 0) (n := 2) (c := [Value.int .i64 s210.2.2.1, Value.int .i64 s210.2.2.2.1]) rfl) (SP.on ((S339.box_now (i := 2) rfl).sub (j := 0) (n := 1) (c := [Value.int .i64 s210.2.2.1]) rfl) (SP.nil (Sl.of_inc r340.run.inc S339.sl))))) rfl (fun w' hw' => (E.indexAddr te103 rfl rfl pt349)) ?_
                    refine FB.all1 (i := 20) (by kernel_rfl) ?_
                    ·
                      obtain ⟨H358, S359, i360, h361, nv362⟩ := S339.sealRowU (i := 0) (l' := (.row 3 1 v114 n115 cs204 :: .box b0 148 [Value.int .i64 s210.2.2.1, Value.int .i64 s210.2.2.2.1, v0_2, v0_3, Value.int .i64 s210.2.2.2.2] :: .row 99 1 v0_2 n0_2 cs211 :: .row 99 1 v0_3 n0_3 cs298 :: .row 3 1 v85 n86 cs87 :: .row 3 1 v299 n300 cs301 :: L)) rfl els346 (by decide) rfl
                      obtain ⟨w363, cs369, run364, S365, els368, ce370⟩ := S359.putEls (P := Tryz.prog) (t := 99) (i := 2) rfl (els212.mono (up_mono ((i306.tr r340.run.inc).tr i360))) hput367 pt349 Tryz.sizeOf99 (u := v343) (c := [v343]) h361.cells rfl (ones_cons h361.one ones_nil) ⟨_, rfl, h361⟩
                      have S365 : St H0 w0 H358 w363 (.row 3 1 v114 n115 cs204 :: .box b0 148 [Value.int .i64 s210.2.2.1, Value.int .i64 s210.2.2.2.1, v0_2, v0_3, Value.int .i64 s210.2.2.2.2] :: .row 99 1 v0_2 n0_2 cs369 :: .row 99 1 v0_3 n0_3 cs298 :: .row 3 1 v85 n86 cs87 :: .row 3 1 v299 n300 cs301 :: L) := S365
                      have nd371 : (bl cs369).Nodup := by rw [ce370]; exact nd_put (Nat.le_add_right _ _) nd213 (by exact nd_one v343) (Els.dom (els212.mono (upI.tr (i306.tr r340.run.inc)))) (by exact nv362)
                      refine FC.act (l' := (bs 21 2097151)) rfl (by kernel_rfl) rfl rfl (E.store rfl rfl run364) ?_
                      refine ⟨(SP.o (SP.on ((S365.box_now (i := 1) rfl).sub (j := 0) (n := 2) (c := [Value.int .i64 s210.2.2.1, Value.int .i64 s210.2.2.2.1]) rfl) (SP.on ((S365.box_now (i := 1) rfl).sub (j := 0) (n := 1) (c := [Value.int .i64 s210.2.2.1]) rfl) (SP.nil (Sl.of_inc (r340.run.inc.tr i360) S365.sl))))), ?_⟩
                      exact FB.done (by kernel_rfl) ⟨_, _, S365, (r340.run.inc.tr i360), els368, nd371, k309, k310, k311, k312, k313, rfl, k315, k316, k317⟩
                ·
                  rintro f379 w378 ⟨H375, cs372, S376, i377, els373, nd374, k380, k381, k382, k383, k384, k385, k386, k387, k388⟩
                  refine FW.seq (FW.region ?_)
                  refine FL.v (E.move k383) ?_
                  refine FL.v (E.lenO te99 rfl S376 (i := 0) rfl els203 (by decide)) ?_
                  refine FL.v (E.move (v := Value.int .i64 0) rfl) ?_
                  refine FL.nil ?_
                  obtain ⟨m389, hchk390, hp⟩ := bnd hp
                  obtain ⟨q390, hq, hp⟩ := bndR hp
                  refine FW.block ?_
                  refine FW.mono (FW.forR (S := (List Int)) (X := Empty) (fun (i390 : Nat) (s390 : (List Int)) f w => ∃ H : GH, ∃ cs391 : List Value, St H0 w0 H w (.row 3 1 v114 n115 cs204 :: .box b0 148 [Value.int .i64 s210.2.2.1, Value.int .i64 s210.2.2.2.1, v0_2, v0_3, Value.int .i64 s210.2.2.2.2] :: .row 99 1 v0_2 n0_2 cs372 :: .row 99 1 v0_3 n0_3 cs298 :: .row 3 1 v85 n86 cs87 :: .row 3 1 v299 n300 cs391 :: L) ∧ Inc H375 H ∧ Els (up w0.heap.size H) eI 1 cs391 s390 ∧ f 160 = Value.int .i64 ((i390 : Nat) : Int) ∧ f 0 = Value.pointer (some (⟨b0, 0, none⟩ : Addr)) ∧ f 5 = v85 ∧ f 7 = Value.int .i64 r36 ∧ f 9 = v114 ∧ f 12 = Value.int .i64 ((i210 : Nat) : Int) ∧ f 14 = Value.int .i64 x324 ∧ f 97 = v0_2 ∧ f 98 = Value.int .i64 (len a0.rows) ∧ f 99 = Value.int .i64 ((i210 : Nat) : Int) ∧ f 158 = v114 ∧ f 159 = Value.int .i64 (len xs201)) (fun (q : Rs (List Int) Empty) e f w => match q with | .go s390 => e = Exit.exit 4 ∧ (∃ H : GH, ∃ cs391 : List Value, St H0 w0 H w (.row 3 1 v114 n115 cs204 :: .box b0 148 [Value.int .i64 s210.2.2.1, Value.int .i64 s210.2.2.2.1, v0_2, v0_3, Value.int .i64 s210.2.2.2.2] :: .row 99 1 v0_2 n0_2 cs372 :: .row 99 1 v0_3 n0_3 cs298 :: .row 3 1 v85 n86 cs87 :: .row 3 1 v299 n300 cs391 :: L) ∧ Inc H375 H ∧ Els (up w0.heap.size H) eI 1 cs391 s390 ∧ f 0 = Value.pointer (some (⟨b0, 0, none⟩ : Addr)) ∧ f 5 = v85 ∧ f 7 = Value.int .i64 r36 ∧ f 9 = v114 ∧ f 97 = v0_2 ∧ f 98 = Value.int .i64 (len a0.rows) ∧ f 99 = Value.int .i64 ((i210 : Nat) : Int)) | .rt x => x.elim) hq ⟨_, _, S376, (Inc.rfl _), (els302.mono (up_mono i377)), rfl, k380, k381, k382, k383, k384, k385, k386, k387, k388, rfl, rfl⟩ ?_ ?_) ?_
                  ·
                    clear hp hq
                    rintro i390 s390 f397 w396 ⟨H393, cs391, S394, i395, els392, k398, k399, k400, k401, k402, k403, k404, k405, k406, k407, k408, k409⟩ hi390 hj390 o476 hp
                    refine FW.seq (FW.region ?_)
                    refine FL.v (E.lssT k398 k409 (lss_chk hj390 hchk390)) ?_
                    refine FL.nil (FW.seq ?_)
                    refine FW.condT rfl rfl ?_
                    refine FW.skip (FW.seq (FW.block (FW.seq (FW.region ?_))))
                    refine FL.v (E.move k398) ?_
                    obtain ⟨x416, hx417, hp⟩ := bnd hp
                    obtain ⟨p410, cs411, pt412, l413, at414, rel415⟩ := S394.row_at (i := 0) rfl els203 (by decide) hx417
                    obtain rfl := eI_open rel415
                    refine FL.v (E.indexAddr te99 k408 k398 pt412) ?_
                    refine FL.v (E.load rfl (run_load0 Tryz.isAgg3 at414 rfl)) ?_
                    refine FL.v (E.assign (v := Value.int .i64 ((i390 : Nat) : Int)) rfl) ?_
                    refine FL.v (E.assign (v := Value.int .i64 x416) rfl) ?_
                    refine FL.nil ?_
                    obtain ⟨x435, hx436, hp⟩ := bnd hp
                    obtain ⟨u439, z438, hp⟩ := bnd hp
                    obtain ⟨x446, hx447, hp⟩ := bnd hp
                    obtain ⟨xs452, hput453, hp⟩ := bnd hp
                    refine FW.drawB (SX H0 w0 H393 (.box b0 148 [Value.int .i64 s210.2.2.1, Value.int .i64 s210.2.2.2.1, v0_2, v0_3, Value.int .i64 s210.2.2.2.2] :: .row 99 1 v0_3 n0_3 cs298 :: L)) (fun f w => ∃ H : GH, ∃ cs457 : List Value, St H0 w0 H w (.row 3 1 v114 n115 cs204 :: .box b0 148 [Value.int .i64 s210.2.2.1, Value.int .i64 s210.2.2.2.1, v0_2, v0_3, Value.int .i64 s210.2.2.2.2] :: .row 99 1 v0_2 n0_2 cs372 :: .row 99 1 v0_3 n0_3 cs298 :: .row 3 1 v85 n86 cs87 :: .row 3 1 v299 n300 cs457 :: L) ∧ Inc H393 H ∧ Els (up w0.heap.size H) eI 1 cs457 xs452 ∧ f 0 = Value.pointer (some (⟨b0, 0, none⟩ : Addr)) ∧ f 5 = v85 ∧ f 7 = Value.int .i64 r36 ∧ f 9 = v114 ∧ f 12 = Value.int .i64 ((i210 : Nat) : Int) ∧ f 14 = Value.int .i64 x324 ∧ f 97 = v0_2 ∧ f 98 = Value.int .i64 (len a0.rows) ∧ f 99 = Value.int .i64 ((i210 : Nat) : Int) ∧ f 158 = v114 ∧ f 159 = Value.int .i64 (len xs201) ∧ f 160 = Value.int .i64 ((i390 : Nat) : Int)) (by kernel_rfl) S394.sl ?_ ?_
                    ·
                      intro w418 r419
                      have S420 := S394.call r419
                      refine FB.t (i := 0) (bs 36 1) rfl (SP.nil ⟨_, (S420.selT (a := [.row 3 1 v114 n115 cs204, .box b0 148 [Value.int .i64 s210.2.2.1, Value.int .i64 s210.2.2.2.1, v0_2, v0_3, Value.int .i64 s210.2.2.2.2], .row 99 1 v0_2 n0_2 cs372, .row 99 1 v0_3 n0_3 cs298, .row 3 1 v85 n86 cs87, .row 3 1 v299 n300 cs391]) (l' := [.box b0 148 [Value.int .i64 s210.2.2.1, Value.int .i64 s210.2.2.2.1, v0_2, v0_3, Value.int .i64 s210.2.2.2.2], .row 99 1 v0_3 n0_3 cs298]) [1, 3] (by decide) rfl), (Inc.rfl _)⟩) rfl (fun w' hw' => (E.move k399)) ?_
                      refine FB.t (i := 1) (bs 36 3) rfl (SP.nil ⟨_, (S420.selT (a := [.row 3 1 v114 n115 cs204, .box b0 148 [Value.int .i64 s210.2.2.1, Value.int .i64 s210.2.2.2.1, v0_2, v0_3, Value.int .i64 s210.2.2.2.2], .row 99 1 v0_2 n0_2 cs372, .row 99 1 v0_3 n0_3 cs298, .row 3 1 v85 n86 cs87, .row 3 1 v299 n300 cs391]) (l' := [.box b0 148 [Value.int .i64 s210.2.2.1, Value.int .i64 s210.2.2.2.1, v0_2, v0_3, Value.int .i64 s210.2.2.2.2], .row 99 1 v0_3 n0_3 cs298]) [1, 3] (by decide) rfl), (Inc.rfl _)⟩) rfl (fun w' hw' => (E.nilCheck rfl)) ?_
                      refine FB.t (i := 2) (bs 36 7) rfl (SP.nil ⟨_, (S420.selT (a := [.row 3 1 v114 n115 cs204, .box b0 148 [Value.int .i64 s210.2.2.1, Value.int .i64 s210.2.2.2.1, v0_2, v0_3, Value.int .i64 s210.2.2.2.2], .row 99 1 v0_2 n0_2 cs372, .row 99 1 v0_3 n0_3 cs298, .row 3 1 v85 n86 cs87, .row 3 1 v299 n300 cs391]) (l' := [.box b0 148 [Value.int .i64 s210.2.2.1, Value.int .i64 s210.2.2.2.1, v0_2, v0_3, Value.int .i64 s210.2.2.2.2], .row 99 1 v0_3 n0_3 cs298]) [1, 3] (by decide) rfl), (Inc.rfl _)⟩) rfl (fun w' hw' => (E.fieldAddr tf148_2 rfl)) ?_
                      refine FB.t (i := 3) (bs 36 15) rfl (SP.nil ⟨_, (S420.selT (a := [.row 3 1 v114 n115 cs204, .box b0 148 [Value.int .i64 s210.2.2.1, Value.int .i64 s210.2.2.2.1, v0_2, v0_3, Value.int .i64 s210.2.2.2.2], .row 99 1 v0_2 n0_2 cs372, .row 99 1 v0_3 n0_3 cs298, .row 3 1 v85 n86 cs87, .row 3 1 v299 n300 cs391]) (l' := [.box b0 148 [Value.int .i64 s210.2.2.1, Value.int .i64 s210.2.2.2.1, v0_2, v0_3, Value.int .i64 s210.2.2.2.2], .row 99 1 v0_3 n0_3 cs298]) [1, 3] (by decide) rfl), (Inc.rfl _)⟩) rfl (fun w' hw' => (E.load rfl (run_load1 Tryz.isAgg103 (SX.box_now hw' (i := 0) rfl) rfl))) ?_
                      refine FB.t (i := 4) (bs 36 31) rfl (SP.nil ⟨_, (S420.selT (a := [.row 3 1 v114 n115 cs204, .box b0 148 [Value.int .i64 s210.2.2.1, Value.int .i64 s210.2.2.2.1, v0_2, v0_3, Value.int .i64 s210.2.2.2.2], .row 99 1 v0_2 n0_2 cs372, .row 99 1 v0_3 n0_3 cs298, .row 3 1 v85 n86 cs87, .row 3 1 v299 n300 cs391]) (l' := [.box b0 148 [Value.int .i64 s210.2.2.1, Value.int .i64 s210.2.2.2.1, v0_2, v0_3, Value.int .i64 s210.2.2.2.2], .row 99 1 v0_3 n0_3 cs298]) [1, 3] (by decide) rfl), (Inc.rfl _)⟩) rfl (fun w' hw' => (E.move k403)) ?_
                      obtain ⟨p421, pt422, at423, hall424⟩ := S420.pend_atA (i := 3) rfl pd303
                      refine FB.t (i := 5) (bs 36 63) rfl (SP.nil ⟨_, (S420.selT (a := [.row 3 1 v114 n115 cs204, .box b0 148 [Value.int .i64 s210.2.2.1, Value.int .i64 s210.2.2.2.1, v0_2, v0_3, Value.int .i64 s210.2.2.2.2], .row 99 1 v0_2 n0_2 cs372, .row 99 1 v0_3 n0_3 cs298, .row 3 1 v85 n86 cs87, .row 3 1 v299 n300 cs391]) (l' := [.box b0 148 [Value.int .i64 s210.2.2.1, Value.int .i64 s210.2.2.2.1, v0_2, v0_3, Value.int .i64 s210.2.2.2.2], .row 99 1 v0_3 n0_3 cs298]) [1, 3] (by decide) rfl), (Inc.rfl _)⟩) rfl (fun w' hw' => (E.indexAddr te103 rfl rfl pt422)) ?_
                      refine FB.t (i := 6) (bs 36 127) rfl (SP.nil ⟨_, (S420.selT (a := [.row 3 1 v114 n115 cs204, .box b0 148 [Value.int .i64 s210.2.2.1, Value.int .i64 s210.2.2.2.1, v0_2, v0_3, Value.int .i64 s210.2.2.2.2], .row 99 1 v0_2 n0_2 cs372, .row 99 1 v0_3 n0_3 cs298, .row 3 1 v85 n86 cs87, .row 3 1 v299 n300 cs391]) (l' := [.box b0 148 [Value.int .i64 s210.2.2.1, Value.int .i64 s210.2.2.2.1, v0_2, v0_3, Value.int .i64 s210.2.2.2.2], .row 99 1 v0_3 n0_3 cs298]) [1, 3] (by decide) rfl), (Inc.rfl _)⟩) rfl (fun w' hw' => (E.load rfl (run_load0 Tryz.isAgg99 (hw'.use fun _ st => hall424 _ _ _ 1 st rfl) rfl))) ?_
                      refine FB.t (i := 7) (bs 36 255) rfl (SP.nil ⟨_, (S420.selT (a := [.row 3 1 v114 n115 cs204, .box b0 148 [Value.int .i64 s210.2.2.1, Value.int .i64 s210.2.2.2.1, v0_2, v0_3, Value.int .i64 s210.2.2.2.2], .row 99 1 v0_2 n0_2 cs372, .row 99 1 v0_3 n0_3 cs298, .row 3 1 v85 n86 cs87, .row 3 1 v299 n300 cs391]) (l' := [.box b0 148 [Value.int .i64 s210.2.2.1, Value.int .i64 s210.2.2.2.1, v0_2, v0_3, Value.int .i64 s210.2.2.2.2], .row 99 1 v0_3 n0_3 cs298]) [1, 3] (by decide) rfl), (Inc.rfl _)⟩) rfl (fun w' hw' => (E.move (v := Value.int .i64 ((i390 : Nat) : Int)) rfl)) ?_
                      refine FB.t (i := 8) (bs 36 511) rfl (SP.nil ⟨_, (S420.selT (a := [.row 3 1 v114 n115 cs204, .box b0 148 [Value.int .i64 s210.2.2.1, Value.int .i64 s210.2.2.2.1, v0_2, v0_3, Value.int .i64 s210.2.2.2.2], .row 99 1 v0_2 n0_2 cs372, .row 99 1 v0_3 n0_3 cs298, .row 3 1 v85 n86 cs87, .row 3 1 v299 n300 cs391]) (l' := [.box b0 148 [Value.int .i64 s210.2.2.1, Value.int .i64 s210.2.2.2.1, v0_2, v0_3, Value.int .i64 s210.2.2.2.2], .row 99 1 v0_3 n0_3 cs298]) [1, 3] (by decide) rfl), (Inc.rfl _)⟩) rfl (fun w' hw' => (E.move k399)) ?_
                      refine FB.t (i := 9) (bs 36 1023) rfl (SP.nil ⟨_, (S420.selT (a := [.row 3 1 v114 n115 cs204, .box b0 148 [Value.int .i64 s210.2.2.1, Value.int .i64 s210.2.2.2.1, v0_2, v0_3, Value.int .i64 s210.2.2.2.2], .row 99 1 v0_2 n0_2 cs372, .row 99 1 v0_3 n0_3 cs298, .row 3 1 v85 n86 cs87, .row 3 1 v299 n300 cs391]) (l' := [.box b0 148 [Value.int .i64 s210.2.2.1, Value.int .i64 s210.2.2.2.1, v0_2, v0_3, Value.int .i64 s210.2.2.2.2], .row 99 1 v0_3 n0_3 cs298]) [1, 3] (by decide) rfl), (Inc.rfl _)⟩) rfl (fun w' hw' => (E.nilCheck rfl)) ?_
                      refine FB.t (i := 10) (bs 36 2047) rfl (SP.nil ⟨_, (S420.selT (a := [.row 3 1 v114 n115 cs204, .box b0 148 [Value.int .i64 s210.2.2.1, Value.int .i64 s210.2.2.2.1, v0_2, v0_3, Value.int .i64 s210.2.2.2.2], .row 99 1 v0_2 n0_2 cs372, .row 99 1 v0_3 n0_3 cs298, .row 3 1 v85 n86 cs87, .row 3 1 v299 n300 cs391]) (l' := [.box b0 148 [Value.int .i64 s210.2.2.1, Value.int .i64 s210.2.2.2.1, v0_2, v0_3, Value.int .i64 s210.2.2.2.2], .row 99 1 v0_3 n0_3 cs298]) [1, 3] (by decide) rfl), (Inc.rfl _)⟩) rfl (fun w' hw' => (E.fieldAddr tf148_2 rfl)) ?_
                      refine FB.t (i := 11) (bs 36 4095) rfl (SP.nil ⟨_, (S420.selT (a := [.row 3 1 v114 n115 cs204, .box b0 148 [Value.int .i64 s210.2.2.1, Value.int .i64 s210.2.2.2.1, v0_2, v0_3, Value.int .i64 s210.2.2.2.2], .row 99 1 v0_2 n0_2 cs372, .row 99 1 v0_3 n0_3 cs298, .row 3 1 v85 n86 cs87, .row 3 1 v299 n300 cs391]) (l' := [.box b0 148 [Value.int .i64 s210.2.2.1, Value.int .i64 s210.2.2.2.1, v0_2, v0_3, Value.int .i64 s210.2.2.2.2], .row 99 1 v0_3 n0_3 cs298]) [1, 3] (by decide) rfl), (Inc.rfl _)⟩) rfl (fun w' hw' => (E.load rfl (run_load1 Tryz.isAgg103 (SX.box_now hw' (i := 0) rfl) rfl))) ?_
                      refine FB.t (i := 12) (bs 36 8191) rfl (SP.nil ⟨_, (S420.selT (a := [.row 3 1 v114 n115 cs204, .box b0 148 [Value.int .i64 s210.2.2.1, Value.int .i64 s210.2.2.2.1, v0_2, v0_3, Value.int .i64 s210.2.2.2.2], .row 99 1 v0_2 n0_2 cs372, .row 99 1 v0_3 n0_3 cs298, .row 3 1 v85 n86 cs87, .row 3 1 v299 n300 cs391]) (l' := [.box b0 148 [Value.int .i64 s210.2.2.1, Value.int .i64 s210.2.2.2.1, v0_2, v0_3, Value.int .i64 s210.2.2.2.2], .row 99 1 v0_3 n0_3 cs298]) [1, 3] (by decide) rfl), (Inc.rfl _)⟩) rfl (fun w' hw' => (E.move k403)) ?_
                      obtain ⟨p425, pt426, at427, hall428⟩ := S420.pend_atA (i := 3) rfl pd303
                      refine FB.t (i := 13) (bs 36 16383) rfl (SP.nil ⟨_, (S420.selT (a := [.row 3 1 v114 n115 cs204, .box b0 148 [Value.int .i64 s210.2.2.1, Value.int .i64 s210.2.2.2.1, v0_2, v0_3, Value.int .i64 s210.2.2.2.2], .row 99 1 v0_2 n0_2 cs372, .row 99 1 v0_3 n0_3 cs298, .row 3 1 v85 n86 cs87, .row 3 1 v299 n300 cs391]) (l' := [.box b0 148 [Value.int .i64 s210.2.2.1, Value.int .i64 s210.2.2.2.1, v0_2, v0_3, Value.int .i64 s210.2.2.2.2], .row 99 1 v0_3 n0_3 cs298]) [1, 3] (by decide) rfl), (Inc.rfl _)⟩) rfl (fun w' hw' => (E.indexAddr te103 rfl rfl pt426)) ?_
                      refine FB.t (i := 14) (bs 36 32767) rfl (SP.nil ⟨_, (S420.selT (a := [.row 3 1 v114 n115 cs204, .box b0 148 [Value.int .i64 s210.2.2.1, Value.int .i64 s210.2.2.2.1, v0_2, v0_3, Value.int .i64 s210.2.2.2.2], .row 99 1 v0_2 n0_2 cs372, .row 99 1 v0_3 n0_3 cs298, .row 3 1 v85 n86 cs87, .row 3 1 v299 n300 cs391]) (l' := [.box b0 148 [Value.int .i64 s210.2.2.1, Value.int .i64 s210.2.2.2.1, v0_2, v0_3, Value.int .i64 s210.2.2.2.2], .row 99 1 v0_3 n0_3 cs298]) [1, 3] (by decide) rfl), (Inc.rfl _)⟩) rfl (fun w' hw' => (E.load rfl (run_load0 Tryz.isAgg99 (hw'.use fun _ st => hall428 _ _ _ 1 st rfl) rfl))) ?_
                      refine FB.t (i := 15) (bs 36 65535) rfl (SP.nil ⟨_, (S420.selT (a := [.row 3 1 v114 n115 cs204, .box b0 148 [Value.int .i64 s210.2.2.1, Value.int .i64 s210.2.2.2.1, v0_2, v0_3, Value.int .i64 s210.2.2.2.2], .row 99 1 v0_2 n0_2 cs372, .row 99 1 v0_3 n0_3 cs298, .row 3 1 v85 n86 cs87, .row 3 1 v299 n300 cs391]) (l' := [.box b0 148 [Value.int .i64 s210.2.2.1, Value.int .i64 s210.2.2.2.1, v0_2, v0_3, Value.int .i64 s210.2.2.2.2], .row 99 1 v0_3 n0_3 cs298]) [1, 3] (by decide) rfl), (Inc.rfl _)⟩) rfl (fun w' hw' => (E.move (v := Value.int .i64 ((i390 : Nat) : Int)) rfl)) ?_
                      obtain ⟨p429, cs430, pt431, l432, at433, rel434, hall437⟩ := S420.row_atA (i := 5) rfl els392 (by decide) hx436
                      obtain rfl := eI_open rel434
                      refine FB.t (i := 16) (bs 36 131071) rfl (SP.nil ⟨_, (S420.selT (a := [.row 3 1 v114 n115 cs204, .box b0 148 [Value.int .i64 s210.2.2.1, Value.int .i64 s210.2.2.2.1, v0_2, v0_3, Value.int .i64 s210.2.2.2.2], .row 99 1 v0_2 n0_2 cs372, .row 99 1 v0_3 n0_3 cs298, .row 3 1 v85 n86 cs87, .row 3 1 v299 n300 cs391]) (l' := [.box b0 148 [Value.int .i64 s210.2.2.1, Value.int .i64 s210.2.2.2.1, v0_2, v0_3, Value.int .i64 s210.2.2.2.2], .row 99 1 v0_3 n0_3 cs298]) [1, 3] (by decide) rfl), (Inc.rfl _)⟩) rfl (fun w' hw' => (E.indexAddr te99 rfl rfl pt431)) ?_
                      refine FB.phase [35] (fun w' => WAt w' p429 [Value.int .i64 x435]) ?_
                      refine FB.p (i := 17) (bs 36 262143) 0 [27, 33, 34, 35] rfl (SP.on (hall437 _ _ _ 5 S420 rfl) (SP.nil ⟨_, (S420.selT (a := [.row 3 1 v114 n115 cs204, .box b0 148 [Value.int .i64 s210.2.2.1, Value.int .i64 s210.2.2.2.1, v0_2, v0_3, Value.int .i64 s210.2.2.2.2], .row 99 1 v0_2 n0_2 cs372, .row 99 1 v0_3 n0_3 cs298, .row 3 1 v85 n86 cs87, .row 3 1 v299 n300 cs391]) (l' := [.box b0 148 [Value.int .i64 s210.2.2.1, Value.int .i64 s210.2.2.2.1, v0_2, v0_3, Value.int .i64 s210.2.2.2.2], .row 99 1 v0_3 n0_3 cs298]) [1, 3] (by decide) rfl), (Inc.rfl _)⟩)) rfl rfl (fun w' hw' => (E.load rfl (run_load0 Tryz.isAgg3 hw' rfl))) ?_
                      refine FB.t (i := 18) (bs 36 524287) rfl (SP.on (hall437 _ _ _ 5 S420 rfl) (SP.nil ⟨_, (S420.selT (a := [.row 3 1 v114 n115 cs204, .box b0 148 [Value.int .i64 s210.2.2.1, Value.int .i64 s210.2.2.2.1, v0_2, v0_3, Value.int .i64 s210.2.2.2.2], .row 99 1 v0_2 n0_2 cs372, .row 99 1 v0_3 n0_3 cs298, .row 3 1 v85 n86 cs87, .row 3 1 v299 n300 cs391]) (l' := [.box b0 148 [Value.int .i64 s210.2.2.1, Value.int .i64 s210.2.2.2.1, v0_2, v0_3, Value.int .i64 s210.2.2.2.2], .row 99 1 v0_3 n0_3 cs298]) [1, 3] (by decide) rfl), (Inc.rfl _)⟩)) rfl (fun w' hw' => (E.move k399)) ?_
                      refine FB.t (i := 19) (bs 36 1048575) rfl (SP.on (hall437 _ _ _ 5 S420 rfl) (SP.nil ⟨_, (S420.selT (a := [.row 3 1 v114 n115 cs204, .box b0 148 [Value.int .i64 s210.2.2.1, Value.int .i64 s210.2.2.2.1, v0_2, v0_3, Value.int .i64 s210.2.2.2.2], .row 99 1 v0_2 n0_2 cs372, .row 99 1 v0_3 n0_3 cs298, .row 3 1 v85 n86 cs87, .row 3 1 v299 n300 cs391]) (l' := [.box b0 148 [Value.int .i64 s210.2.2.1, Value.int .i64 s210.2.2.2.1, v0_2, v0_3, Value.int .i64 s210.2.2.2.2], .row 99 1 v0_3 n0_3 cs298]) [1, 3] (by decide) rfl), (Inc.rfl _)⟩)) rfl (fun w' hw' => (E.nilCheck rfl)) ?_
                      refine FB.t (i := 20) (bs 36 2097151) rfl (SP.on (hall437 _ _ _ 5 S420 rfl) (SP.nil ⟨_, (S420.selT (a := [.row 3 1 v114 n115 cs204, .box b0 148 [Value.int .i64 s210.2.2.1, Value.int .i64 s210.2.2.2.1, v0_2, v0_3, Value.int .i64 s210.2.2.2.2], .row 99 1 v0_2 n0_2 cs372, .row 99 1 v0_3 n0_3 cs298, .row 3 1 v85 n86 cs87, .row 3 1 v299 n300 cs391]) (l' := [.box b0 148 [Value.int .i64 s210.2.2.1, Value.int .i64 s210.2.2.2.1, v0_2, v0_3, Value.int .i64 s210.2.2.2.2], .row 99 1 v0_3 n0_3 cs298]) [1, 3] (by decide) rfl), (Inc.rfl _)⟩)) rfl (fun w' hw' => (E.fieldAddr tf148_0 rfl)) ?_
                      refine FB.t (i := 21) (bs 36 4194303) rfl (SP.on (hall437 _ _ _ 5 S420 rfl) (SP.nil ⟨_, (S420.selT (a := [.row 3 1 v114 n115 cs204, .box b0 148 [Value.int .i64 s210.2.2.1, Value.int .i64 s210.2.2.2.1, v0_2, v0_3, Value.int .i64 s210.2.2.2.2], .row 99 1 v0_2 n0_2 cs372, .row 99 1 v0_3 n0_3 cs298, .row 3 1 v85 n86 cs87, .row 3 1 v299 n300 cs391]) (l' := [.box b0 148 [Value.int .i64 s210.2.2.1, Value.int .i64 s210.2.2.2.1, v0_2, v0_3, Value.int .i64 s210.2.2.2.2], .row 99 1 v0_3 n0_3 cs298]) [1, 3] (by decide) rfl), (Inc.rfl _)⟩)) rfl (fun w' hw' => (E.fieldAddrN tf102_0 rfl rfl)) ?_
                      refine FB.t (i := 22) (bs 36 8388607) rfl (SP.on (hall437 _ _ _ 5 S420 rfl) (SP.nil ⟨_, (S420.selT (a := [.row 3 1 v114 n115 cs204, .box b0 148 [Value.int .i64 s210.2.2.1, Value.int .i64 s210.2.2.2.1, v0_2, v0_3, Value.int .i64 s210.2.2.2.2], .row 99 1 v0_2 n0_2 cs372, .row 99 1 v0_3 n0_3 cs298, .row 3 1 v85 n86 cs87, .row 3 1 v299 n300 cs391]) (l' := [.box b0 148 [Value.int .i64 s210.2.2.1, Value.int .i64 s210.2.2.2.1, v0_2, v0_3, Value.int .i64 s210.2.2.2.2], .row 99 1 v0_3 n0_3 cs298]) [1, 3] (by decide) rfl), (Inc.rfl _)⟩)) rfl (fun w' hw' => (E.load rfl (run_load1 Tryz.isAgg3 (SX.box_now hw' (i := 0) rfl) rfl))) ?_
                      refine FB.t (i := 23) (bs 36 16777215) rfl (SP.on (hall437 _ _ _ 5 S420 rfl) (SP.nil ⟨_, (S420.selT (a := [.row 3 1 v114 n115 cs204, .box b0 148 [Value.int .i64 s210.2.2.1, Value.int .i64 s210.2.2.2.1, v0_2, v0_3, Value.int .i64 s210.2.2.2.2], .row 99 1 v0_2 n0_2 cs372, .row 99 1 v0_3 n0_3 cs298, .row 3 1 v85 n86 cs87, .row 3 1 v299 n300 cs391]) (l' := [.box b0 148 [Value.int .i64 s210.2.2.1, Value.int .i64 s210.2.2.2.1, v0_2, v0_3, Value.int .i64 s210.2.2.2.2], .row 99 1 v0_3 n0_3 cs298]) [1, 3] (by decide) rfl), (Inc.rfl _)⟩)) rfl (fun w' hw' => (E.move k404)) ?_
                      refine FB.t (i := 24) (bs 36 33554431) rfl (SP.on (hall437 _ _ _ 5 S420 rfl) (SP.nil ⟨_, (S420.selT (a := [.row 3 1 v114 n115 cs204, .box b0 148 [Value.int .i64 s210.2.2.1, Value.int .i64 s210.2.2.2.1, v0_2, v0_3, Value.int .i64 s210.2.2.2.2], .row 99 1 v0_2 n0_2 cs372, .row 99 1 v0_3 n0_3 cs298, .row 3 1 v85 n86 cs87, .row 3 1 v299 n300 cs391]) (l' := [.box b0 148 [Value.int .i64 s210.2.2.1, Value.int .i64 s210.2.2.2.1, v0_2, v0_3, Value.int .i64 s210.2.2.2.2], .row 99 1 v0_3 n0_3 cs298]) [1, 3] (by decide) rfl), (Inc.rfl _)⟩)) rfl (fun w' hw' => (E.sub rfl rfl)) ?_
                      refine FB.t (i := 25) (bs 36 67108863) rfl (SP.on (hall437 _ _ _ 5 S420 rfl) (SP.nil ⟨_, (S420.selT (a := [.row 3 1 v114 n115 cs204, .box b0 148 [Value.int .i64 s210.2.2.1, Value.int .i64 s210.2.2.2.1, v0_2, v0_3, Value.int .i64 s210.2.2.2.2], .row 99 1 v0_2 n0_2 cs372, .row 99 1 v0_3 n0_3 cs298, .row 3 1 v85 n86 cs87, .row 3 1 v299 n300 cs391]) (l' := [.box b0 148 [Value.int .i64 s210.2.2.1, Value.int .i64 s210.2.2.2.1, v0_2, v0_3, Value.int .i64 s210.2.2.2.2], .row 99 1 v0_3 n0_3 cs298]) [1, 3] (by decide) rfl), (Inc.rfl _)⟩)) rfl (fun w' hw' => (E.move (v := Value.int .i64 x416) rfl)) ?_
                      refine FB.t (i := 26) (bs 36 134217727) rfl (SP.on (hall437 _ _ _ 5 S420 rfl) (SP.nil ⟨_, (S420.selT (a := [.row 3 1 v114 n115 cs204, .box b0 148 [Value.int .i64 s210.2.2.1, Value.int .i64 s210.2.2.2.1, v0_2, v0_3, Value.int .i64 s210.2.2.2.2], .row 99 1 v0_2 n0_2 cs372, .row 99 1 v0_3 n0_3 cs298, .row 3 1 v85 n86 cs87, .row 3 1 v299 n300 cs391]) (l' := [.box b0 148 [Value.int .i64 s210.2.2.1, Value.int .i64 s210.2.2.2.1, v0_2, v0_3, Value.int .i64 s210.2.2.2.2], .row 99 1 v0_3 n0_3 cs298]) [1, 3] (by decide) rfl), (Inc.rfl _)⟩)) rfl (fun w' hw' => (E.mul rfl rfl)) ?_
                      refine FB.t (i := 27) (bs 36 268435455) rfl (SP.on (hall437 _ _ _ 5 S420 rfl) (SP.nil ⟨_, (S420.selT (a := [.row 3 1 v114 n115 cs204, .box b0 148 [Value.int .i64 s210.2.2.1, Value.int .i64 s210.2.2.2.1, v0_2, v0_3, Value.int .i64 s210.2.2.2.2], .row 99 1 v0_2 n0_2 cs372, .row 99 1 v0_3 n0_3 cs298, .row 3 1 v85 n86 cs87, .row 3 1 v299 n300 cs391]) (l' := [.box b0 148 [Value.int .i64 s210.2.2.1, Value.int .i64 s210.2.2.2.1, v0_2, v0_3, Value.int .i64 s210.2.2.2.2], .row 99 1 v0_3 n0_3 cs298]) [1, 3] (by decide) rfl), (Inc.rfl _)⟩)) rfl (fun w' hw' => (E.add rfl rfl)) ?_
                      refine FB.t (i := 28) (bs 36 536870911) rfl (SP.on (hall437 _ _ _ 5 S420 rfl) (SP.nil ⟨_, (S420.selT (a := [.row 3 1 v114 n115 cs204, .box b0 148 [Value.int .i64 s210.2.2.1, Value.int .i64 s210.2.2.2.1, v0_2, v0_3, Value.int .i64 s210.2.2.2.2], .row 99 1 v0_2 n0_2 cs372, .row 99 1 v0_3 n0_3 cs298, .row 3 1 v85 n86 cs87, .row 3 1 v299 n300 cs391]) (l' := [.box b0 148 [Value.int .i64 s210.2.2.1, Value.int .i64 s210.2.2.2.1, v0_2, v0_3, Value.int .i64 s210.2.2.2.2], .row 99 1 v0_3 n0_3 cs298]) [1, 3] (by decide) rfl), (Inc.rfl _)⟩)) rfl (fun w' hw' => (E.move k399)) ?_
                      refine FB.t (i := 29) (bs 36 1073741823) rfl (SP.on (hall437 _ _ _ 5 S420 rfl) (SP.nil ⟨_, (S420.selT (a := [.row 3 1 v114 n115 cs204, .box b0 148 [Value.int .i64 s210.2.2.1, Value.int .i64 s210.2.2.2.1, v0_2, v0_3, Value.int .i64 s210.2.2.2.2], .row 99 1 v0_2 n0_2 cs372, .row 99 1 v0_3 n0_3 cs298, .row 3 1 v85 n86 cs87, .row 3 1 v299 n300 cs391]) (l' := [.box b0 148 [Value.int .i64 s210.2.2.1, Value.int .i64 s210.2.2.2.1, v0_2, v0_3, Value.int .i64 s210.2.2.2.2], .row 99 1 v0_3 n0_3 cs298]) [1, 3] (by decide) rfl), (Inc.rfl _)⟩)) rfl (fun w' hw' => (E.nilCheck rfl)) ?_
                      refine FB.t (i := 30) (bs 36 2147483647) rfl (SP.on (hall437 _ _ _ 5 S420 rfl) (SP.nil ⟨_, (S420.selT (a := [.row 3 1 v114 n115 cs204, .box b0 148 [Value.int .i64 s210.2.2.1, Value.int .i64 s210.2.2.2.1, v0_2, v0_3, Value.int .i64 s210.2.2.2.2], .row 99 1 v0_2 n0_2 cs372, .row 99 1 v0_3 n0_3 cs298, .row 3 1 v85 n86 cs87, .row 3 1 v299 n300 cs391]) (l' := [.box b0 148 [Value.int .i64 s210.2.2.1, Value.int .i64 s210.2.2.2.1, v0_2, v0_3, Value.int .i64 s210.2.2.2.2], .row 99 1 v0_3 n0_3 cs298]) [1, 3] (by decide) rfl), (Inc.rfl _)⟩)) rfl (fun w' hw' => (E.fieldAddr tf148_0 rfl)) ?_
                      refine FB.t (i := 31) (bs 36 4294967295) rfl (SP.on (hall437 _ _ _ 5 S420 rfl) (SP.nil ⟨_, (S420.selT (a := [.row 3 1 v114 n115 cs204, .box b0 148 [Value.int .i64 s210.2.2.1, Value.int .i64 s210.2.2.2.1, v0_2, v0_3, Value.int .i64 s210.2.2.2.2], .row 99 1 v0_2 n0_2 cs372, .row 99 1 v0_3 n0_3 cs298, .row 3 1 v85 n86 cs87, .row 3 1 v299 n300 cs391]) (l' := [.box b0 148 [Value.int .i64 s210.2.2.1, Value.int .i64 s210.2.2.2.1, v0_2, v0_3, Value.int .i64 s210.2.2.2.2], .row 99 1 v0_3 n0_3 cs298]) [1, 3] (by decide) rfl), (Inc.rfl _)⟩)) rfl (fun w' hw' => (E.fieldAddrN tf102_0 rfl rfl)) ?_
                      refine FB.t (i := 32) (bs 36 8589934591) rfl (SP.on (hall437 _ _ _ 5 S420 rfl) (SP.nil ⟨_, (S420.selT (a := [.row 3 1 v114 n115 cs204, .box b0 148 [Value.int .i64 s210.2.2.1, Value.int .i64 s210.2.2.2.1, v0_2, v0_3, Value.int .i64 s210.2.2.2.2], .row 99 1 v0_2 n0_2 cs372, .row 99 1 v0_3 n0_3 cs298, .row 3 1 v85 n86 cs87, .row 3 1 v299 n300 cs391]) (l' := [.box b0 148 [Value.int .i64 s210.2.2.1, Value.int .i64 s210.2.2.2.1, v0_2, v0_3, Value.int .i64 s210.2.2.2.2], .row 99 1 v0_3 n0_3 cs298]) [1, 3] (by decide) rfl), (Inc.rfl _)⟩)) rfl (fun w' hw' => (E.load rfl (run_load1 Tryz.isAgg3 (SX.box_now hw' (i := 0) rfl) rfl))) ?_
                      refine FB.t (i := 33) (bs 36 17179869183) rfl (SP.on (hall437 _ _ _ 5 S420 rfl) (SP.nil ⟨_, (S420.selT (a := [.row 3 1 v114 n115 cs204, .box b0 148 [Value.int .i64 s210.2.2.1, Value.int .i64 s210.2.2.2.1, v0_2, v0_3, Value.int .i64 s210.2.2.2.2], .row 99 1 v0_2 n0_2 cs372, .row 99 1 v0_3 n0_3 cs298, .row 3 1 v85 n86 cs87, .row 3 1 v299 n300 cs391]) (l' := [.box b0 148 [Value.int .i64 s210.2.2.1, Value.int .i64 s210.2.2.2.1, v0_2, v0_3, Value.int .i64 s210.2.2.2.2], .row 99 1 v0_3 n0_3 cs298]) [1, 3] (by decide) rfl), (Inc.rfl _)⟩)) rfl (fun w' hw' => (E.rem rfl rfl (nz_ne z438))) ?_
                      obtain ⟨p440, cs441, pt442, l443, at444, rel445, hall448⟩ := S420.row_atA (i := 5) rfl els392 (by decide) hx447
                      obtain rfl := eI_open rel445
                      refine FB.t (i := 34) (bs 36 34359738367) rfl (SP.on (hall437 _ _ _ 5 S420 rfl) (SP.nil ⟨_, (S420.selT (a := [.row 3 1 v114 n115 cs204, .box b0 148 [Value.int .i64 s210.2.2.1, Value.int .i64 s210.2.2.2.1, v0_2, v0_3, Value.int .i64 s210.2.2.2.2], .row 99 1 v0_2 n0_2 cs372, .row 99 1 v0_3 n0_3 cs298, .row 3 1 v85 n86 cs87, .row 3 1 v299 n300 cs391]) (l' := [.box b0 148 [Value.int .i64 s210.2.2.1, Value.int .i64 s210.2.2.2.1, v0_2, v0_3, Value.int .i64 s210.2.2.2.2], .row 99 1 v0_3 n0_3 cs298]) [1, 3] (by decide) rfl), (Inc.rfl _)⟩)) rfl (fun w' hw' => (E.indexAddr te99 rfl rfl pt442)) ?_
                      refine FB.all1 (i := 35) (by kernel_rfl) ?_
                      ·
                        obtain ⟨w449, cs455, run450, S451, els454, ce456⟩ := S420.putEls (P := Tryz.prog) (t := 3) (i := 5) rfl els392 hput453 pt442 Tryz.sizeOf3 (u := Value.int .i64 ((wr (x435 + (wr ((wr (s210.2.2.1 - x324)) * x416)))).tmod s210.2.2.1)) (c := [Value.int .i64 ((wr (x435 + (wr ((wr (s210.2.2.1 - x324)) * x416)))).tmod s210.2.2.1)]) rfl rfl (ones_cons rfl ones_nil) rfl
                        have S451 : St H0 w0 H393 w449 (.row 3 1 v114 n115 cs204 :: .box b0 148 [Value.int .i64 s210.2.2.1, Value.int .i64 s210.2.2.2.1, v0_2, v0_3, Value.int .i64 s210.2.2.2.2] :: .row 99 1 v0_2 n0_2 cs372 :: .row 99 1 v0_3 n0_3 cs298 :: .row 3 1 v85 n86 cs87 :: .row 3 1 v299 n300 cs455 :: L) := S451
                        refine FC.act (l' := (bs 36 68719476735)) rfl (by kernel_rfl) rfl rfl (E.store rfl rfl run450) ?_
                        refine ⟨(SP.o (SP.nil ⟨_, (S451.selT (a := [.row 3 1 v114 n115 cs204, .box b0 148 [Value.int .i64 s210.2.2.1, Value.int .i64 s210.2.2.2.1, v0_2, v0_3, Value.int .i64 s210.2.2.2.2], .row 99 1 v0_2 n0_2 cs372, .row 99 1 v0_3 n0_3 cs298, .row 3 1 v85 n86 cs87, .row 3 1 v299 n300 cs455]) (l' := [.box b0 148 [Value.int .i64 s210.2.2.1, Value.int .i64 s210.2.2.2.1, v0_2, v0_3, Value.int .i64 s210.2.2.2.2], .row 99 1 v0_3 n0_3 cs298]) [1, 3] (by decide) rfl), (Inc.rfl _)⟩)), ?_⟩
                        exact FB.done (by kernel_rfl) ⟨_, _, S451, (Inc.rfl _), els454, k399, k400, k401, k402, k403, k404, k405, k406, k407, k408, k409, k398⟩
                    ·
                      rintro f463 w462 ⟨H459, cs457, S460, i461, els458, k464, k465, k466, k467, k468, k469, k470, k471, k472, k473, k474, k475⟩
                      refine FW.region ?_
                      refine FL.v (E.add k475 rfl) ?_
                      refine FL.v (E.move (v := Value.int .i64 (wr (((i390 : Nat) : Int) + 1))) rfl) ?_
                      refine FL.nil ?_
                      obtain rfl := Option.some.inj hp
                      exact ⟨rfl, ⟨_, _, S460, (i395.tr i461), els458, (nat_succ rfl hj390 (chk_le hchk390)), k464, k465, k466, k467, k468, k469, k470, k471, k472, k473, k474⟩⟩
                  ·
                    clear hp hq
                    rintro s390 f501 w500 ⟨H497, cs391, S498, i499, els392, k502, k503, k504, k505, k506, k507, k508, k509, k510, k511, k512, k513⟩
                    refine FW.seq (FW.region ?_)
                    refine FL.v (E.lss k502 k513) ?_
                    refine FL.nil (FW.seq ?_)
                    refine FW.condF rfl (dlt_maxchk hchk390) ?_
                    refine FW.exit ?_
                    exact ⟨nofun, rfl, ⟨_, _, S498, i499, els392, k503, k504, k505, k506, k509, k510, k511⟩⟩
                  ·
                    clear hq
                    intro e f481 w480 hD
                    rcases q390 with s390 | x390
                    ·
                      obtain ⟨rfl, hD⟩ := hD
                      obtain ⟨H477, cs391, S478, i479, els392, k482, k483, k484, k485, k486, k487, k488⟩ := hD
                      replace hp := el_go hp
                      refine FW.region ?_
                      refine FL.v (E.add k488 rfl) ?_
                      refine FL.v (E.move (v := Value.int .i64 (wr (((i210 : Nat) : Int) + 1))) rfl) ?_
                      refine FL.nil ?_
                      obtain ⟨H489, S490, i491, h492, nv493⟩ := S478.sealRowU (i := 5) (l' := (.row 3 1 v114 n115 cs204 :: .box b0 148 [Value.int .i64 s210.2.2.1, Value.int .i64 s210.2.2.2.1, v0_2, v0_3, Value.int .i64 s210.2.2.2.2] :: .row 99 1 v0_2 n0_2 cs372 :: .row 99 1 v0_3 n0_3 cs298 :: .row 3 1 v85 n86 cs87 :: L)) rfl els392 (by decide) rfl
                      obtain ⟨xs494, hput495, hp⟩ := bnd hp
                      have els496 : Els (up w0.heap.size H489) (eL eI 1) 1 cs298 xs494 := (pd303.mono (up_mono ((i377.tr i479).tr i491))).close ⟨_, rfl, h492⟩ hput495
                      obtain rfl := Option.some.inj hp
                      exact ⟨rfl, ⟨_, _, _, S490, ((((i218.tr i306).tr i377).tr i479).tr i491), (els373.mono (up_mono (i479.tr i491))), els496, nd374, (nat_succ rfl hj210 (chk_le hchk210)), k482, k483, k484, k485, k486, k487⟩⟩
                    · exact x390.elim
              ·
                refine FW.condF rfl c326 ?_
                refine FW.skip (FW.region ?_)
                refine FL.v (E.add k317 rfl) ?_
                refine FL.v (E.move (v := Value.int .i64 (wr (((i210 : Nat) : Int) + 1))) rfl) ?_
                refine FL.nil ?_
                obtain ⟨H514, S515, i516, h517, nv518⟩ := S305.sealRowU (i := 5) (l' := (.row 3 1 v114 n115 cs204 :: .box b0 148 [Value.int .i64 s210.2.2.1, Value.int .i64 s210.2.2.2.1, v0_2, v0_3, Value.int .i64 s210.2.2.2.2] :: .row 99 1 v0_2 n0_2 cs211 :: .row 99 1 v0_3 n0_3 cs298 :: .row 3 1 v85 n86 cs87 :: L)) rfl els302 (by decide) rfl
                obtain ⟨xs519, hput520, hp⟩ := bnd hp
                have els521 : Els (up w0.heap.size H514) (eL eI 1) 1 cs298 xs519 := (pd303.mono (up_mono i516)).close ⟨_, rfl, h517⟩ hput520
                obtain rfl := Option.some.inj hp
                exact ⟨rfl, ⟨_, _, _, S515, ((i218.tr i306).tr i516), (els212.mono (up_mono (i306.tr i516))), els521, nd213, (nat_succ rfl hj210 (chk_le hchk210)), k309, k310, k311, k312, k315, k316⟩⟩
          ·
            clear hp hq
            rintro s210 f586 w585 ⟨H582, cs211, cs214, S583, i584, els212, els215, nd213, k587, k588, k589, k590, k591, k592, k593⟩
            refine FW.seq (FW.region ?_)
            refine FL.v (E.lss k587 k593) ?_
            refine FL.nil (FW.seq ?_)
            refine FW.condF rfl (dlt_maxchk hchk210) ?_
            refine FW.exit ?_
            exact ⟨nofun, rfl, ⟨_, _, _, S583, i584, els212, els215, nd213, k588, k589, k591⟩⟩
          ·
            clear hq
            intro e f527 w526 hD
            rcases q210 with s210 | x210
            ·
              obtain ⟨rfl, hD⟩ := hD
              obtain ⟨H523, cs211, cs214, S524, i525, els212, els215, nd213, k528, k529, k530⟩ := hD
              replace hp := el_go hp
              refine FW.seq (FW.region ?_)
              refine FL.v (E.move k528) ?_
              refine FL.v (E.move k528) ?_
              refine FL.v (E.nilCheck rfl) ?_
              refine FL.v (E.fieldAddr tf148_1 rfl) ?_
              refine FL.v (E.load rfl (run_load1 Tryz.isAgg103 (S524.box_now (i := 1) rfl) rfl)) ?_
              refine FL.v (E.move k529) ?_
              obtain ⟨H531, S532, i533, h534, nv535⟩ := S524.sealRowU (i := 4) (l' := (.row 3 1 v114 n115 cs204 :: .box b0 148 [Value.int .i64 s210.2.2.1, Value.int .i64 s210.2.2.2.1, v0_2, v0_3, Value.int .i64 s210.2.2.2.2] :: .row 99 1 v0_2 n0_2 cs211 :: .row 99 1 v0_3 n0_3 cs214 :: L)) rfl (els88.mono (up_mono (i182.tr i525))) (by decide) rfl
              obtain ⟨v536, w537, run538, S539⟩ := S532.buildSlice (P := Tryz.prog) te103 [v85] (parts := #[(0, v85)]) (cells := [v85]) rfl (szs_cons (cells_size h534.cells) szs_nil) (fc_cons h534.cells fc_nil) (ones_cons h534.one ones_nil) (Nat.le_of_ble_eq_true rfl)
              have els540 : Els (up w0.heap.size H531) (eL eI 1) 1 [v85] [r73] := (Els.snoc (H := (up w0.heap.size H531)) (E := (eL eI 1)) (k := 1) (c := [v85]) (x := r73) Els.nil rfl ⟨_, rfl, h534⟩)
              have nd541 : (bl [v85]).Nodup := by exact nd_one v85
              refine FL.v (E.buildSlice (B1 rfl) run538) ?_
              obtain ⟨xs542, hz543, hp⟩ := bnd hp
              obtain ⟨v544, w547, n545, cs546, run548, S549, els550, ce551⟩ := S539.appendO (P := Tryz.prog) te103 (i := 3) (j := 0) rfl (els212.mono (up_mono i533)) rfl els540 hz543
              have S549 : St H0 w0 H531 w547 (.row 99 1 v536 1 [v85] :: .row 3 1 v114 n115 cs204 :: .box b0 148 [Value.int .i64 s210.2.2.1, Value.int .i64 s210.2.2.2.1, v0_2, v0_3, Value.int .i64 s210.2.2.2.2] :: .row 99 1 v544 n545 cs546 :: .row 99 1 v0_3 n0_3 cs214 :: L) := S549
              have nd552 : (bl cs546).Nodup := by rw [ce551]; exact nd_app nd213 nd541 (Els.dom (els212.mono (upI.tr (Inc.rfl _)))) (by exact nv535)
              have S553 : St H0 w0 H531 w547 (.row 3 1 v114 n115 cs204 :: .box b0 148 [Value.int .i64 s210.2.2.1, Value.int .i64 s210.2.2.2.1, v0_2, v0_3, Value.int .i64 s210.2.2.2.2] :: .row 99 1 v544 n545 cs546 :: .row 99 1 v0_3 n0_3 cs214 :: L) := S549.drop 0
              refine FL.v (E.append rfl rfl run548) ?_
              refine FL.v (E.nilCheck rfl) ?_
              refine FL.v (E.fieldAddr tf148_1 rfl) ?_
              obtain ⟨w554, run555, S556⟩ := S553.store (P := Tryz.prog) (t := 103) (i := 1) (j := 2) (cs' := [Value.int .i64 s210.2.2.1, Value.int .i64 s210.2.2.2.1, v544, v0_3, Value.int .i64 s210.2.2.2.2]) (l' := (.row 3 1 v114 n115 cs204 :: .box b0 148 [Value.int .i64 s210.2.2.1, Value.int .i64 s210.2.2.2.1, v544, v0_3, Value.int .i64 s210.2.2.2.2] :: .row 99 1 v544 n545 cs546 :: .row 99 1 v0_3 n0_3 cs214 :: L)) (v := v544) (c := [v544]) rfl Tryz.sizeOf103 (Ln.cells (S553.row_ln (i := 2) rfl)) rfl (ones_cons (Ln.one (S553.row_ln (i := 2) rfl)) ones_nil) (Nat.le_of_ble_eq_true rfl) rfl rfl
              refine FL.act rfl rfl (E.store rfl rfl run555) ?_
              refine FL.nil (FW.seq (FW.region ?_))
              refine FL.v (E.move k528) ?_
              refine FL.v (E.move k528) ?_
              refine FL.v (E.nilCheck rfl) ?_
              refine FL.v (E.fieldAddr tf148_2 rfl) ?_
              refine FL.v (E.load rfl (run_load1 Tryz.isAgg103 (S556.box_now (i := 1) rfl) rfl)) ?_
              refine FL.v (E.move k530) ?_
              obtain ⟨H557, S558, i559, h560, nv561⟩ := S556.sealRowU (i := 0) (l' := (.box b0 148 [Value.int .i64 s210.2.2.1, Value.int .i64 s210.2.2.2.1, v544, v0_3, Value.int .i64 s210.2.2.2.2] :: .row 99 1 v544 n545 cs546 :: .row 99 1 v0_3 n0_3 cs214 :: L)) rfl (els203.mono (up_mono (i525.tr i533))) (by decide) rfl
              obtain ⟨v562, w563, run564, S565⟩ := S558.buildSlice (P := Tryz.prog) te103 [v114] (parts := #[(0, v114)]) (cells := [v114]) rfl (szs_cons (cells_size h560.cells) szs_nil) (fc_cons h560.cells fc_nil) (ones_cons h560.one ones_nil) (Nat.le_of_ble_eq_true rfl)
              have els566 : Els (up w0.heap.size H557) (eL eI 1) 1 [v114] [xs201] := (Els.snoc (H := (up w0.heap.size H557)) (E := (eL eI 1)) (k := 1) (c := [v114]) (x := xs201) Els.nil rfl ⟨_, rfl, h560⟩)
              have nd567 : (bl [v114]).Nodup := by exact nd_one v114
              refine FL.v (E.buildSlice (B1 rfl) run564) ?_
              obtain ⟨xs568, hz569, hp⟩ := bnd hp
              obtain ⟨v570, w573, n571, cs572, run574, S575, els576, ce577⟩ := S565.appendO (P := Tryz.prog) te103 (i := 3) (j := 0) rfl (els215.mono (up_mono (i533.tr i559))) rfl els566 hz569
              have S575 : St H0 w0 H557 w573 (.row 99 1 v562 1 [v114] :: .box b0 148 [Value.int .i64 s210.2.2.1, Value.int .i64 s210.2.2.2.1, v544, v0_3, Value.int .i64 s210.2.2.2.2] :: .row 99 1 v544 n545 cs546 :: .row 99 1 v570 n571 cs572 :: L) := S575
              have S578 : St H0 w0 H557 w573 (.box b0 148 [Value.int .i64 s210.2.2.1, Value.int .i64 s210.2.2.2.1, v544, v0_3, Value.int .i64 s210.2.2.2.2] :: .row 99 1 v544 n545 cs546 :: .row 99 1 v570 n571 cs572 :: L) := S575.drop 0
              refine FL.v (E.append rfl rfl run574) ?_
              refine FL.v (E.nilCheck rfl) ?_
              refine FL.v (E.fieldAddr tf148_2 rfl) ?_
              obtain ⟨w579, run580, S581⟩ := S578.store (P := Tryz.prog) (t := 103) (i := 0) (j := 3) (cs' := [Value.int .i64 s210.2.2.1, Value.int .i64 s210.2.2.2.1, v544, v570, Value.int .i64 s210.2.2.2.2]) (l' := (.box b0 148 [Value.int .i64 s210.2.2.1, Value.int .i64 s210.2.2.2.1, v544, v570, Value.int .i64 s210.2.2.2.2] :: .row 99 1 v544 n545 cs546 :: .row 99 1 v570 n571 cs572 :: L)) (v := v570) (c := [v570]) rfl Tryz.sizeOf103 (Ln.cells (S578.row_ln (i := 2) rfl)) rfl (ones_cons (Ln.one (S578.row_ln (i := 2) rfl)) ones_nil) (Nat.le_of_ble_eq_true rfl) rfl rfl
              refine FL.act rfl rfl (E.store rfl rfl run580) ?_
              refine FL.nil (FW.seq (FW.region ?_))
              refine FL.v (E.assign (v := Value.bool true) rfl) ?_
              refine FL.nil ?_
              refine FW.ret ?_
              obtain rfl := Option.some.inj hp
              exact ⟨.inr rfl, res1 rfl rfl ⟨_, _, _, _, _, _, _, rfl, ⟨S581, (((((i29.tr i91).tr i182).tr i525).tr i533).tr i559)⟩, (els550.mono (up_mono i559)), nd552, els576⟩⟩
            · exact x210.elim
        · exact x113.elim

theorem w_impl_dense_degree {Ha : GH} {wa : World} (hs : Sl Ha wa) (v0 : Value) (a0 : List Int) (p0 : RSl Ha eI 1 v0 a0) {r : Int} (hp : (PF.impl_dense_degree a0) = some r) :
    Calls Tryz.prog 130 #[v0] wa (Sc Ha wa (Value.int .i64 r)) := by
  unfold PF.impl_dense_degree at hp
  have S0 := St.init hs
  refine calls_go (N := 21) (args := [v0]) Tryz.func130 rfl rfl rfl ?_
  refine FW.seq (FW.region ?_)
  refine FL.v (E.assign (v := Value.int .i64 0) rfl) ?_
  refine FL.nil (FW.seq (FW.region ?_))
  refine FL.v (E.assign (v := Value.int .i64 (-1)) rfl) ?_
  refine FL.nil (FW.seq (FW.seq (FW.region ?_)))
  refine FL.v (E.move (v := v0) rfl) ?_
  refine FL.v (E.lenP te99 rfl p0) ?_
  refine FL.v (E.move (v := Value.int .i64 0) rfl) ?_
  refine FL.nil ?_
  obtain ⟨q22, hq, hp⟩ := bndR hp
  refine FW.block ?_
  refine FW.mono (FW.forL (S := Int) (X := Empty) (fun (i22 : Nat) (s22 : Int) f w => ∃ H : GH, St Ha wa H w [] ∧ Inc Ha H ∧ f 8 = Value.int .i64 ((i22 : Nat) : Int) ∧ f 3 = Value.int .i64 s22 ∧ f 6 = v0 ∧ f 7 = Value.int .i64 (len a0)) (fun (q : Rs Int Empty) e f w => match q with | .go s22 => e = Exit.exit 0 ∧ (∃ H : GH, St Ha wa H w [] ∧ Inc Ha H ∧ f 3 = Value.int .i64 s22) | .rt x => x.elim) hq ⟨_, S0, (Inc.rfl _), rfl, rfl, rfl, rfl⟩ ?_ ?_) ?_
  ·
    clear hp hq
    rintro i22 y21 s22 f46 w45 ⟨H42, S43, i44, k47, k48, k49, k50⟩ hx22 o61 hp
    refine FW.seq (FW.region ?_)
    refine FL.v (E.lssT k47 k50 (lss_len hx22)) ?_
    refine FL.nil (FW.seq ?_)
    refine FW.condT rfl rfl ?_
    refine FW.skip (FW.seq (FW.block (FW.seq (FW.region ?_))))
    refine FL.v (E.move k47) ?_
    obtain ⟨p51, cs52, pt53, l54, at55, rel56⟩ := p0.at (ix_nat hx22)
    obtain rfl := eI_open rel56
    refine FL.v (E.indexAddr te99 k49 k47 pt53) ?_
    refine FL.v (E.load rfl (run_load0 Tryz.isAgg3 ((at55.mono i44).now S43.sl) rfl)) ?_
    refine FL.v (E.assign (v := Value.int .i64 ((i22 : Nat) : Int)) rfl) ?_
    refine FL.v (E.assign (v := Value.int .i64 y21) rfl) ?_
    refine FL.nil (FW.seq (FW.region ?_))
    refine FL.v (E.move (v := Value.int .i64 y21) rfl) ?_
    refine FL.v (E.neq rfl rfl) ?_
    refine FL.nil ?_
    rcases ifB hp with ⟨c57, hp⟩ | ⟨c57, hp⟩
    ·
      refine FW.condT rfl c57 ?_
      refine FW.region ?_
      refine FL.v (E.move k48) ?_
      refine FL.v (E.move (v := Value.int .i64 ((i22 : Nat) : Int)) rfl) ?_
      refine FL.call rfl rfl rfl (E.call Tryz.call188 (A1 rfl)) (w_impl_degreeOf S43.sl ((i22 : Nat) : Int)) ?_
      rintro e w58 ⟨rfl, r59⟩
      refine ⟨_, rfl, ?_⟩
      have S60 := S43.call r59
      refine FL.v (E.max2 rfl rfl) ?_
      refine FL.v (E.assign (v := Value.int .i64 (mx s22 (PF.impl_degreeOf ((i22 : Nat) : Int)))) rfl) ?_
      refine FL.nil (FW.region ?_)
      refine FL.v (E.add k47 rfl) ?_
      refine FL.v (E.move (v := Value.int .i64 (wr (((i22 : Nat) : Int) + 1))) rfl) ?_
      refine FL.nil ?_
      obtain rfl := Option.some.inj hp
      exact ⟨rfl, ⟨_, S60, i44, (nat_succ rfl (lt_of_get hx22) (p0.mono i44).le), rfl, k49, k50⟩⟩
    ·
      refine FW.condF rfl c57 ?_
      refine FW.skip (FW.region ?_)
      refine FL.v (E.add k47 rfl) ?_
      refine FL.v (E.move (v := Value.int .i64 (wr (((i22 : Nat) : Int) + 1))) rfl) ?_
      refine FL.nil ?_
      obtain rfl := Option.some.inj hp
      exact ⟨rfl, ⟨_, S43, i44, (nat_succ rfl (lt_of_get hx22) (p0.mono i44).le), k48, k49, k50⟩⟩
  ·
    clear hp hq
    rintro s22 f72 w71 ⟨H68, S69, i70, k73, k74, k75, k76⟩
    refine FW.seq (FW.region ?_)
    refine FL.v (E.lss k73 k76) ?_
    refine FL.nil (FW.seq ?_)
    refine FW.condF rfl dlt_len ?_
    refine FW.exit ?_
    exact ⟨nofun, rfl, ⟨_, S69, i70, k74⟩⟩
  ·
    clear hq
    intro e f66 w65 hD
    rcases q22 with s22 | x22
    ·
      obtain ⟨rfl, hD⟩ := hD
      obtain ⟨H62, S63, i64, k67⟩ := hD
      replace hp := el_go hp
      refine FW.seq (FW.region ?_)
      refine FL.v (E.move k67) ?_
      refine FL.v (E.assign (v := Value.int .i64 s22) rfl) ?_
      refine FL.nil ?_
      refine FW.ret ?_
      obtain rfl := Option.some.inj hp
      exact ⟨.inr rfl, res1 rfl rfl ⟨rfl, S63.back⟩⟩
    · exact x22.elim

@[reducible] def p_slices_SortFunc_impl_dense_impl_dense (H0 : GH) (w0 : World) (Ha : GH) (L : List MO) (v0 : Value) (n0 : Nat) (r : (List (List Int))) : Ending → World → Prop :=
 fun e w' => ∃ H' : GH, ∃ c0k : List Value, e = .returned (Value.tuple #[]) ∧ (St H0 w0 H' w' (.row 99 1 v0 n0 c0k :: L) ∧ Inc Ha H') ∧ Els H' (eL eI 1) 1 c0k r
theorem w_slices_SortFunc_impl_dense_impl_dense {H0 Ha : GH} {w0 wa : World} {L : List MO} {v0 : Value} {n0 : Nat} {k0 : List Value} (S0 : St H0 w0 Ha wa (.row 99 1 v0 n0 k0 :: L)) (a0 : List (List Int)) (p0 : Els Ha (eL eI 1) 1 k0 a0) (v1 : Value) (a1 : (List Int) → (List Int) → Option Int) (p1 : Fn_List_Int_List_Int_to_I Tryz.prog Ha v1 a1) {r : (List (List Int))} (hp : (PF.slices_SortFunc_impl_dense_impl_dense a0 a1) = some r) :
  Calls Tryz.prog 210 #[v0, v1] wa (p_slices_SortFunc_impl_dense_impl_dense H0 w0 Ha L v0 n0 r) := by
 refine (St.sortF (l := .row 99 1 v0 n0 k0 :: L) (i := 0) (Inc.rfl _) S0 rfl p0 (fun H2 w2 hi hs2 c x hc d y hd r hr => by obtain ⟨y0, e0, z0⟩ := eL_open hc; cases e0; obtain ⟨y1, e1, z1⟩ := eL_open hd; cases e1; exact p1 H2 w2 hi hs2 x c z0 y d z1 r hr) (fun p cap fv w => AnyF.slices_SortFunc_none (P := Tryz.prog) (ρ := Tryz.sort210_ren) { Tryz.sort210 with } p cap fv w) (fun α _ enc h1 cf hO g cb blk off cap d w eg hc hH hb hs => Any.slices_SortFunc Tryz.sort210 enc h1 cf hO g cb blk off cap d w eg hc hH hb hs) hp).mono ?_
 rintro e w' ⟨rfl, c', h1, h2⟩
 exact ⟨_, _, rfl, ⟨h1, Inc.rfl _⟩, h2⟩

theorem w_impl_algebra_span_2 {Ha : GH} {wa : World} (hs : Sl Ha wa) (v0 : Value) (a0 : List Int) (p0 : RSl Ha eI 1 v0 a0) (v1 : Value) (a1 : List Int) (p1 : RSl Ha eI 1 v1 a1) {r : Int} (hp : (PF.impl_algebra_span_2 a0 a1) = some r) :
  Calls Tryz.prog 211 #[v0, v1] wa (Sc Ha wa (Value.int .i64 r)) := by
 unfold PF.impl_algebra_span_2 at hp
 have S0 := St.init hs
 refine calls_go (N := 10) (args := [v0, v1]) Tryz.func211 rfl rfl rfl ?_
 refine FW.seq (FW.region ?_)
 refine FL.v (E.assign (v := Value.int .i64 0) rfl) ?_
 refine FL.nil (FW.seq (FW.region ?_))
 refine FL.v (E.move (v := v0) rfl) ?_
 obtain ⟨r21, hr22, hp⟩ := bnd hp
 refine FL.call rfl rfl rfl (E.call Tryz.call163 (A1 rfl)) (w_impl_leading S0.sl v0 a0 p0 hr22) ?_
 rintro e w23 ⟨rfl, r24⟩
 refine ⟨_, rfl, ?_⟩
 have S25 := S0.call r24
 refine FL.v (E.move (v := v1) rfl) ?_
 obtain ⟨r26, hr27, hp⟩ := bnd hp
 refine FL.call rfl rfl rfl (E.call Tryz.call163 (A1 rfl)) (w_impl_leading S25.sl v1 a1 p1 hr27) ?_
 rintro e w28 ⟨rfl, r29⟩
 refine ⟨_, rfl, ?_⟩
 have S30 := S25.call r29
 obtain ⟨r31, hr32, hp⟩ := bnd hp
 refine FL.call rfl rfl rfl (E.call Tryz.call212 (A2 rfl rfl)) (w_impl_compareMonos S30.sl r21 r26 hr32) ?_
 rintro e w33 ⟨rfl, r34⟩
 refine ⟨_, rfl, ?_⟩
 have S35 := S30.call r34
 refine FL.v (E.assign (v := Value.int .i64 r31) rfl) ?_
 refine FL.nil ?_
 refine FW.ret ?_
 obtain rfl := Option.some.inj hp
 exact ⟨.inr rfl, res1 rfl rfl ⟨rfl, S35.back⟩⟩

end Go.Proofs
