/- Part of the walks and plain laws behind the claim: it proves helpers, under no condition beyond their own. -/
import Derived.Test.YtdkfkiifbagnnaaGreatFcWk2
set_option linter.unusedVariables false
set_option maxRecDepth 100000
namespace Go.Proofs
open Go.Mr Go.Pu Go.PF Go.RowKit

@[reducible] def p_impl_gateValues (Ha : GH) (wa : World) (r : (List Bool)) : Ending → World → Prop :=
 fun e w' => ∃ H' : GH, ∃ v0 : Value, ∃ n0 : Nat, ∃ c0 : List Value, e = .returned (v0) ∧ St Ha wa H' w' [.row 4 1 v0 n0 c0] ∧ Els (up wa.heap.size H') eB 1 c0 r
set_option maxHeartbeats 4000000 in
theorem w_impl_gateValues {Ha : GH} {wa : World} (hs : Sl Ha wa) (v0 : Value) (a0 : List Gate) (p0 : RSl Ha eGate 3 v0 a0) (a1 : Int) {r : (List Bool)} (hp : (PF.impl_gateValues a0 a1) = some r) :
  Calls Tryz.prog 141 #[v0, Value.int .i64 a1] wa (p_impl_gateValues Ha wa r) := by
 unfold PF.impl_gateValues at hp
 have S0 := St.init hs
 refine calls_go (N := 84) (args := [v0, Value.int .i64 a1]) Tryz.func141 rfl rfl rfl ?_
 refine FW.seq (FW.region ?_)
 refine FL.v (E.assign (v := Value.slice none 0 0) rfl) ?_
 refine FL.nil (FW.seq (FW.region ?_))
 refine FL.v (E.move (v := v0) rfl) ?_
 refine FL.v (E.lenP te50 rfl p0) ?_
 obtain ⟨xs21, hm22, hp⟩ := bnd hp
 obtain ⟨v23, w24, n28, cs29, run25, S26, els27, hbl30⟩ := S0.makeEls (P := Tryz.prog) te81 (G := (up wa.heap.size Ha)) (En := eB) (x0 := (false : Bool)) hm22 rfl (ones_cons rfl ones_nil) .i64 .i64
 refine FL.v (E.makeSlice rfl rfl run25) ?_
 refine FL.v (E.assign (v := v23) rfl) ?_
 refine FL.nil (FW.seq (FW.seq (FW.region ?_)))
 refine FL.v (E.move (v := v0) rfl) ?_
 refine FL.v (E.lenP te50 rfl p0) ?_
 refine FL.v (E.move (v := Value.int .i64 0) rfl) ?_
 refine FL.nil ?_
 obtain ⟨q32, hq, hp⟩ := bndR hp
 refine FW.block ?_
 refine FW.mono (FW.forL (S := (List Bool)) (X := Empty) (fun (i32 : Nat) (s32 : (List Bool)) f w => ∃ H : GH, ∃ v233 : Value, ∃ n234 : Nat, ∃ cs235 : List Value, St Ha wa H w [.row 4 1 v233 n234 cs235] ∧ Inc Ha H ∧ Els (up wa.heap.size H) eB 1 cs235 s32 ∧ f 13 = Value.int .i64 ((i32 : Nat) : Int) ∧ f 1 = Value.int .i64 a1 ∧ f 5 = v233 ∧ f 11 = v0 ∧ f 12 = Value.int .i64 (len a0)) (fun (q : Rs (List Bool) Empty) e f w => match q with | .go s32 => e = Exit.exit 0 ∧ (∃ H : GH, ∃ v233 : Value, ∃ n234 : Nat, ∃ cs235 : List Value, St Ha wa H w [.row 4 1 v233 n234 cs235] ∧ Inc Ha H ∧ Els (up wa.heap.size H) eB 1 cs235 s32 ∧ f 5 = v233) | .rt x => x.elim) hq ⟨_, _, _, _, S26, (Inc.rfl _), els27, rfl, rfl, rfl, rfl, rfl⟩ ?_ ?_) ?_
 ·
  clear hp hq
  rintro i32 y31 s32 f441 w440 ⟨H437, v233, n234, cs235, S438, i439, els236, k442, k443, k444, k445, k446⟩ hx32 o637 hp
  refine FW.seq (FW.region ?_)
  refine FL.v (E.lssT k442 k446 (lss_len hx32)) ?_
  refine FL.nil (FW.seq ?_)
  refine FW.condT rfl rfl ?_
  refine FW.skip (FW.seq (FW.block (FW.seq (FW.region ?_))))
  refine FL.v (E.move k442) ?_
  obtain ⟨p447, cs448, pt449, l450, at451, rel452⟩ := p0.at (ix_nat hx32)
  obtain rfl := eGate_open rel452
  refine FL.v (E.indexAddr te50 k445 k442 pt449) ?_
  refine FL.v (E.load rfl (run_loadA Tryz.isAgg118 Tryz.sizeOf118 ((at451.mono i439).now S438.sl) rfl)) ?_
  obtain ⟨b453, w454, run455, S456⟩ := S438.alloc (P := Tryz.prog) 118 [Value.int .i64 0, Value.int .i64 0, Value.int .i64 0] Tryz.zeroValue118 rfl (ones_cons rfl (ones_cons rfl (ones_cons rfl ones_nil)))
  refine FL.v (E.alloc run455) ?_
  refine FL.v (E.assign (v := Value.int .i64 ((i32 : Nat) : Int)) rfl) ?_
  obtain ⟨w457, run458, S459⟩ := S456.store0 (P := Tryz.prog) (t := 118) (i := 0) (cs' := [Value.int .i64 y31.kind, Value.int .i64 y31.a, Value.int .i64 y31.b]) (l' := [.box b453 118 [Value.int .i64 y31.kind, Value.int .i64 y31.a, Value.int .i64 y31.b], .row 4 1 v233 n234 cs235]) (v := Value.agg #[Value.int .i64 y31.kind, Value.int .i64 y31.a, Value.int .i64 y31.b]) (c := [Value.int .i64 y31.kind, Value.int .i64 y31.a, Value.int .i64 y31.b]) rfl Tryz.sizeOf118 rfl rfl (ones_cons rfl (ones_cons rfl (ones_cons rfl ones_nil))) (Nat.le_of_ble_eq_true rfl) rfl rfl
  refine FL.act rfl rfl (E.store rfl rfl run458) ?_
  obtain ⟨H460, S461, i462, at463⟩ := S459.sealBox (i := 0) (l' := [.row 4 1 v233 n234 cs235]) rfl rfl
  refine FL.nil (FW.seq (FW.region ?_))
  refine FL.v (E.fieldAddr tf118_0 rfl) ?_
  refine FL.v (E.load rfl (run_load1 Tryz.isAgg3 (at463.now S461.sl) rfl)) ?_
  refine FL.nil (FW.block (FW.seq (FW.region ?_)))
  refine FL.v (E.eql rfl rfl) ?_
  refine FL.v (E.assign (v := Value.bool (y31.kind == 1)) rfl) ?_
  refine FL.nil ?_
  rcases ifB hp with ⟨c464, hp⟩ | ⟨c464, hp⟩
  ·
   refine FW.condT rfl c464 ?_
   refine FW.region ?_
   refine FL.v (E.move k444) ?_
   refine FL.v (E.move (v := Value.int .i64 ((i32 : Nat) : Int)) rfl) ?_
   refine FL.v (E.move k443) ?_
   refine FL.v (E.fieldAddr tf118_1 rfl) ?_
   refine FL.v (E.load rfl (run_load1 Tryz.isAgg3 (at463.now S461.sl) rfl)) ?_
   refine FL.v (E.sub rfl rfl) ?_
   obtain ⟨u466, z465, hp⟩ := bnd hp
   refine FL.v (E.shr rfl rfl (nn_ge z465)) ?_
   refine FL.v (E.and rfl rfl) ?_
   refine FL.v (E.eql rfl rfl) ?_
   obtain ⟨x473, hx474, hp⟩ := bnd hp
   obtain ⟨p467, cs468, pt469, l470, at471, rel472⟩ := S461.row_at (i := 0) rfl els236 (by decide) hx474
   obtain rfl := eB_open rel472
   refine FL.v (E.indexAddr te81 rfl rfl pt469) ?_
   obtain ⟨xs478, hput479, hp⟩ := bnd hp
   obtain ⟨w475, cs481, run476, S477, els480, ce482⟩ := S461.putEls (P := Tryz.prog) (t := 4) (i := 0) rfl (els236.mono (up_mono i462)) hput479 pt469 Tryz.sizeOf4 (u := Value.bool ((andK true 64 (shrK 64 a1 (wr (y31.a - 1))) 1) == 1)) (c := [Value.bool ((andK true 64 (shrK 64 a1 (wr (y31.a - 1))) 1) == 1)]) rfl rfl (ones_cons rfl ones_nil) rfl
   have S477 : St Ha wa H460 w475 [.row 4 1 v233 n234 cs481] := S477
   refine FL.act rfl rfl (E.store rfl rfl run476) ?_
   refine FL.nil (FW.region ?_)
   refine FL.v (E.add k442 rfl) ?_
   refine FL.v (E.move (v := Value.int .i64 (wr (((i32 : Nat) : Int) + 1))) rfl) ?_
   refine FL.nil ?_
   obtain rfl := Option.some.inj hp
   exact ⟨rfl, ⟨_, _, _, _, S477, (i439.tr i462), els480, (nat_succ rfl (lt_of_get hx32) (p0.mono (i439.tr i462)).le), k443, k444, k445, k446⟩⟩
  ·
   refine FW.condF rfl c464 ?_
   refine FW.seq (FW.region ?_)
   refine FL.v (E.eql rfl rfl) ?_
   refine FL.v (E.assign (v := Value.bool (y31.kind == 2)) rfl) ?_
   refine FL.nil ?_
   rcases ifB hp with ⟨c483, hp⟩ | ⟨c483, hp⟩
   ·
    refine FW.condT rfl c483 ?_
    refine FW.region ?_
    refine FL.v (E.move k444) ?_
    refine FL.v (E.move (v := Value.int .i64 ((i32 : Nat) : Int)) rfl) ?_
    obtain ⟨x490, hx491, hp⟩ := bnd hp
    obtain ⟨p484, cs485, pt486, l487, at488, rel489⟩ := S461.row_at (i := 0) rfl els236 (by decide) hx491
    obtain rfl := eB_open rel489
    refine FL.v (E.indexAddr te81 rfl rfl pt486) ?_
    obtain ⟨xs495, hput496, hp⟩ := bnd hp
    obtain ⟨w492, cs498, run493, S494, els497, ce499⟩ := S461.putEls (P := Tryz.prog) (t := 4) (i := 0) rfl (els236.mono (up_mono i462)) hput496 pt486 Tryz.sizeOf4 (u := Value.bool true) (c := [Value.bool true]) rfl rfl (ones_cons rfl ones_nil) rfl
    have S494 : St Ha wa H460 w492 [.row 4 1 v233 n234 cs498] := S494
    refine FL.act rfl rfl (E.store rfl rfl run493) ?_
    refine FL.nil (FW.region ?_)
    refine FL.v (E.add k442 rfl) ?_
    refine FL.v (E.move (v := Value.int .i64 (wr (((i32 : Nat) : Int) + 1))) rfl) ?_
    refine FL.nil ?_
    obtain rfl := Option.some.inj hp
    exact ⟨rfl, ⟨_, _, _, _, S494, (i439.tr i462), els497, (nat_succ rfl (lt_of_get hx32) (p0.mono (i439.tr i462)).le), k443, k444, k445, k446⟩⟩
   ·
    refine FW.condF rfl c483 ?_
    refine FW.seq (FW.region ?_)
    refine FL.v (E.eql rfl rfl) ?_
    refine FL.v (E.assign (v := Value.bool (y31.kind == 4)) rfl) ?_
    refine FL.nil ?_
    rcases ifB hp with ⟨c500, hp⟩ | ⟨c500, hp⟩
    ·
     refine FW.condT rfl c500 ?_
     refine FW.region ?_
     refine FL.v (E.move k444) ?_
     refine FL.v (E.move (v := Value.int .i64 ((i32 : Nat) : Int)) rfl) ?_
     refine FL.v (E.move k444) ?_
     refine FL.v (E.fieldAddr tf118_1 rfl) ?_
     refine FL.v (E.load rfl (run_load1 Tryz.isAgg3 (at463.now S461.sl) rfl)) ?_
     obtain ⟨x507, hx508, hp⟩ := bnd hp
     obtain ⟨p501, cs502, pt503, l504, at505, rel506⟩ := S461.row_at (i := 0) rfl els236 (by decide) hx508
     obtain rfl := eB_open rel506
     refine FL.v (E.indexAddr te81 rfl rfl pt503) ?_
     refine FL.v (E.load rfl (run_load0 Tryz.isAgg4 at505 rfl)) ?_
     refine FL.v (E.not rfl) ?_
     obtain ⟨x515, hx516, hp⟩ := bnd hp
     obtain ⟨p509, cs510, pt511, l512, at513, rel514⟩ := S461.row_at (i := 0) rfl els236 (by decide) hx516
     obtain rfl := eB_open rel514
     refine FL.v (E.indexAddr te81 rfl rfl pt511) ?_
     obtain ⟨xs520, hput521, hp⟩ := bnd hp
     obtain ⟨w517, cs523, run518, S519, els522, ce524⟩ := S461.putEls (P := Tryz.prog) (t := 4) (i := 0) rfl (els236.mono (up_mono i462)) hput521 pt511 Tryz.sizeOf4 (u := Value.bool (!x507)) (c := [Value.bool (!x507)]) rfl rfl (ones_cons rfl ones_nil) rfl
     have S519 : St Ha wa H460 w517 [.row 4 1 v233 n234 cs523] := S519
     refine FL.act rfl rfl (E.store rfl rfl run518) ?_
     refine FL.nil (FW.region ?_)
     refine FL.v (E.add k442 rfl) ?_
     refine FL.v (E.move (v := Value.int .i64 (wr (((i32 : Nat) : Int) + 1))) rfl) ?_
     refine FL.nil ?_
     obtain rfl := Option.some.inj hp
     exact ⟨rfl, ⟨_, _, _, _, S519, (i439.tr i462), els522, (nat_succ rfl (lt_of_get hx32) (p0.mono (i439.tr i462)).le), k443, k444, k445, k446⟩⟩
    ·
     refine FW.condF rfl c500 ?_
     refine FW.seq (FW.region ?_)
     refine FL.v (E.eql rfl rfl) ?_
     refine FL.v (E.assign (v := Value.bool (y31.kind == 5)) rfl) ?_
     refine FL.nil ?_
     rcases ifB hp with ⟨c525, hp⟩ | ⟨c525, hp⟩
     ·
      refine FW.condT rfl c525 ?_
      refine FW.region ?_
      refine FL.v (E.move k444) ?_
      refine FL.v (E.move (v := Value.int .i64 ((i32 : Nat) : Int)) rfl) ?_
      refine FL.v (E.move k444) ?_
      refine FL.v (E.fieldAddr tf118_1 rfl) ?_
      refine FL.v (E.load rfl (run_load1 Tryz.isAgg3 (at463.now S461.sl) rfl)) ?_
      obtain ⟨x532, hx533, hp⟩ := bnd hp
      obtain ⟨p526, cs527, pt528, l529, at530, rel531⟩ := S461.row_at (i := 0) rfl els236 (by decide) hx533
      obtain rfl := eB_open rel531
      refine FL.v (E.indexAddr te81 rfl rfl pt528) ?_
      refine FL.v (E.load rfl (run_load0 Tryz.isAgg4 at530 rfl)) ?_
      refine FL.v (E.move (v := Value.bool x532) rfl) ?_
      obtain ⟨t542, hqt542, hp⟩ := bnd hp
      refine FL.cut 6 (fun f w => ∃ H : GH, St Ha wa H w [.row 4 1 v233 n234 cs235] ∧ Inc H460 H ∧ f 1 = Value.int .i64 a1 ∧ f 5 = v233 ∧ f 11 = v0 ∧ f 12 = Value.int .i64 (len a0) ∧ f 13 = Value.int .i64 ((i32 : Nat) : Int) ∧ f 50 = v233 ∧ f 51 = Value.int .i64 ((i32 : Nat) : Int) ∧ f 63 = Value.bool t542) ?_ ?_
      ·
       clear hp; have hp := hqt542; clear hqt542
       rcases ifB hp with ⟨c548, hp⟩ | ⟨c548, hp⟩
       ·
        refine FL.val (wF_yes rfl rfl rfl c548) rfl rfl (E.move k444) ?_
        refine FL.val (wF_yes rfl rfl rfl c548) rfl rfl (E.fieldAddr tf118_2 rfl) ?_
        refine FL.val (wF_yes rfl rfl rfl c548) rfl rfl (E.load rfl (run_load1 Tryz.isAgg3 (at463.now S461.sl) rfl)) ?_
        obtain ⟨x555, hx556, hp⟩ := bnd hp
        obtain ⟨p549, cs550, pt551, l552, at553, rel554⟩ := S461.row_at (i := 0) rfl els236 (by decide) hx556
        obtain rfl := eB_open rel554
        refine FL.val (wF_yes rfl rfl rfl c548) rfl rfl (E.indexAddr te81 rfl rfl pt551) ?_
        refine FL.val (wF_yes rfl rfl rfl c548) rfl rfl (E.load rfl (run_load0 Tryz.isAgg4 at553 rfl)) ?_
        obtain rfl := Option.some.inj hp
        refine FL.v (E.pickT rfl c548 rfl) ?_
        exact FL.nil ⟨rfl, _, S461, (Inc.rfl _), k443, k444, k445, k446, k442, rfl, rfl, rfl⟩
       ·
        refine FL.skip (wF_no rfl rfl rfl c548) rfl ?_
        refine FL.skip (wF_no rfl rfl rfl c548) rfl ?_
        refine FL.skip (wF_no rfl rfl rfl c548) rfl ?_
        refine FL.skip (wF_no rfl rfl rfl c548) rfl ?_
        refine FL.skip (wF_no rfl rfl rfl c548) rfl ?_
        obtain rfl := Option.some.inj hp
        refine FL.v (E.pickF rfl c548 rfl) ?_
        exact FL.nil ⟨rfl, _, S461, (Inc.rfl _), k443, k444, k445, k446, k442, rfl, rfl, rfl⟩
      rintro f547 w546 ⟨H543, S544, i545, k557, k558, k559, k560, k561, k562, k563, k564⟩
      obtain ⟨x571, hx572, hp⟩ := bnd hp
      obtain ⟨p565, cs566, pt567, l568, at569, rel570⟩ := S544.row_at (i := 0) rfl els236 (by decide) hx572
      obtain rfl := eB_open rel570
      refine FL.v (E.indexAddr te81 k562 k563 pt567) ?_
      obtain ⟨xs576, hput577, hp⟩ := bnd hp
      obtain ⟨w573, cs579, run574, S575, els578, ce580⟩ := S544.putEls (P := Tryz.prog) (t := 4) (i := 0) rfl (els236.mono (up_mono (i462.tr i545))) hput577 pt567 Tryz.sizeOf4 (u := Value.bool t542) (c := [Value.bool t542]) rfl rfl (ones_cons rfl ones_nil) rfl
      have S575 : St Ha wa H543 w573 [.row 4 1 v233 n234 cs579] := S575
      refine FL.act rfl rfl (E.store rfl k564 run574) ?_
      refine FL.nil (FW.region ?_)
      refine FL.v (E.add k561 rfl) ?_
      refine FL.v (E.move (v := Value.int .i64 (wr (((i32 : Nat) : Int) + 1))) rfl) ?_
      refine FL.nil ?_
      obtain rfl := Option.some.inj hp
      exact ⟨rfl, ⟨_, _, _, _, S575, ((i439.tr i462).tr i545), els578, (nat_succ rfl (lt_of_get hx32) (p0.mono ((i439.tr i462).tr i545)).le), k557, k558, k559, k560⟩⟩
     ·
      refine FW.condF rfl c525 ?_
      refine FW.seq (FW.region ?_)
      refine FL.v (E.eql rfl rfl) ?_
      refine FL.v (E.assign (v := Value.bool (y31.kind == 6)) rfl) ?_
      refine FL.nil ?_
      rcases ifB hp with ⟨c581, hp⟩ | ⟨c581, hp⟩
      ·
       refine FW.condT rfl c581 ?_
       refine FW.region ?_
       refine FL.v (E.move k444) ?_
       refine FL.v (E.move (v := Value.int .i64 ((i32 : Nat) : Int)) rfl) ?_
       refine FL.v (E.move k444) ?_
       refine FL.v (E.fieldAddr tf118_1 rfl) ?_
       refine FL.v (E.load rfl (run_load1 Tryz.isAgg3 (at463.now S461.sl) rfl)) ?_
       obtain ⟨x588, hx589, hp⟩ := bnd hp
       obtain ⟨p582, cs583, pt584, l585, at586, rel587⟩ := S461.row_at (i := 0) rfl els236 (by decide) hx589
       obtain rfl := eB_open rel587
       refine FL.v (E.indexAddr te81 rfl rfl pt584) ?_
       refine FL.v (E.load rfl (run_load0 Tryz.isAgg4 at586 rfl)) ?_
       refine FL.v (E.move (v := Value.bool x588) rfl) ?_
       obtain ⟨t598, hqt598, hp⟩ := bnd hp
       refine FL.cut 6 (fun f w => ∃ H : GH, St Ha wa H w [.row 4 1 v233 n234 cs235] ∧ Inc H460 H ∧ f 1 = Value.int .i64 a1 ∧ f 5 = v233 ∧ f 11 = v0 ∧ f 12 = Value.int .i64 (len a0) ∧ f 13 = Value.int .i64 ((i32 : Nat) : Int) ∧ f 67 = v233 ∧ f 68 = Value.int .i64 ((i32 : Nat) : Int) ∧ f 80 = Value.bool t598) ?_ ?_
       ·
        clear hp; have hp := hqt598; clear hqt598
        rcases ifB hp with ⟨c604, hp⟩ | ⟨c604, hp⟩
        ·
         refine FL.skip (wF_no rfl rfl rfl c604) rfl ?_
         refine FL.skip (wF_no rfl rfl rfl c604) rfl ?_
         refine FL.skip (wF_no rfl rfl rfl c604) rfl ?_
         refine FL.skip (wF_no rfl rfl rfl c604) rfl ?_
         refine FL.skip (wF_no rfl rfl rfl c604) rfl ?_
         obtain rfl := Option.some.inj hp
         refine FL.v (E.pickT rfl c604 rfl) ?_
         exact FL.nil ⟨rfl, _, S461, (Inc.rfl _), k443, k444, k445, k446, k442, rfl, rfl, rfl⟩
        ·
         refine FL.val (wF_yes rfl rfl rfl c604) rfl rfl (E.move k444) ?_
         refine FL.val (wF_yes rfl rfl rfl c604) rfl rfl (E.fieldAddr tf118_2 rfl) ?_
         refine FL.val (wF_yes rfl rfl rfl c604) rfl rfl (E.load rfl (run_load1 Tryz.isAgg3 (at463.now S461.sl) rfl)) ?_
         obtain ⟨x611, hx612, hp⟩ := bnd hp
         obtain ⟨p605, cs606, pt607, l608, at609, rel610⟩ := S461.row_at (i := 0) rfl els236 (by decide) hx612
         obtain rfl := eB_open rel610
         refine FL.val (wF_yes rfl rfl rfl c604) rfl rfl (E.indexAddr te81 rfl rfl pt607) ?_
         refine FL.val (wF_yes rfl rfl rfl c604) rfl rfl (E.load rfl (run_load0 Tryz.isAgg4 at609 rfl)) ?_
         obtain rfl := Option.some.inj hp
         refine FL.v (E.pickF rfl c604 rfl) ?_
         exact FL.nil ⟨rfl, _, S461, (Inc.rfl _), k443, k444, k445, k446, k442, rfl, rfl, rfl⟩
       rintro f603 w602 ⟨H599, S600, i601, k613, k614, k615, k616, k617, k618, k619, k620⟩
       obtain ⟨x627, hx628, hp⟩ := bnd hp
       obtain ⟨p621, cs622, pt623, l624, at625, rel626⟩ := S600.row_at (i := 0) rfl els236 (by decide) hx628
       obtain rfl := eB_open rel626
       refine FL.v (E.indexAddr te81 k618 k619 pt623) ?_
       obtain ⟨xs632, hput633, hp⟩ := bnd hp
       obtain ⟨w629, cs635, run630, S631, els634, ce636⟩ := S600.putEls (P := Tryz.prog) (t := 4) (i := 0) rfl (els236.mono (up_mono (i462.tr i601))) hput633 pt623 Tryz.sizeOf4 (u := Value.bool t598) (c := [Value.bool t598]) rfl rfl (ones_cons rfl ones_nil) rfl
       have S631 : St Ha wa H599 w629 [.row 4 1 v233 n234 cs635] := S631
       refine FL.act rfl rfl (E.store rfl k620 run630) ?_
       refine FL.nil (FW.region ?_)
       refine FL.v (E.add k617 rfl) ?_
       refine FL.v (E.move (v := Value.int .i64 (wr (((i32 : Nat) : Int) + 1))) rfl) ?_
       refine FL.nil ?_
       obtain rfl := Option.some.inj hp
       exact ⟨rfl, ⟨_, _, _, _, S631, ((i439.tr i462).tr i601), els634, (nat_succ rfl (lt_of_get hx32) (p0.mono ((i439.tr i462).tr i601)).le), k613, k614, k615, k616⟩⟩
      ·
       refine FW.condF rfl c581 ?_
       refine FW.skip (FW.region ?_)
       refine FL.v (E.add k442 rfl) ?_
       refine FL.v (E.move (v := Value.int .i64 (wr (((i32 : Nat) : Int) + 1))) rfl) ?_
       refine FL.nil ?_
       obtain rfl := Option.some.inj hp
       exact ⟨rfl, ⟨_, _, _, _, S461, (i439.tr i462), (els236.mono (up_mono i462)), (nat_succ rfl (lt_of_get hx32) (p0.mono (i439.tr i462)).le), k443, k444, k445, k446⟩⟩
 ·
  clear hp hq
  rintro s32 f648 w647 ⟨H644, v233, n234, cs235, S645, i646, els236, k649, k650, k651, k652, k653⟩
  refine FW.seq (FW.region ?_)
  refine FL.v (E.lss k649 k653) ?_
  refine FL.nil (FW.seq ?_)
  refine FW.condF rfl dlt_len ?_
  refine FW.exit ?_
  exact ⟨nofun, rfl, ⟨_, _, _, _, S645, i646, els236, k651⟩⟩
 ·
  clear hq
  intro e f642 w641 hD
  rcases q32 with s32 | x32
  ·
   obtain ⟨rfl, hD⟩ := hD
   obtain ⟨H638, v233, n234, cs235, S639, i640, els236, k643⟩ := hD
   replace hp := el_go hp
   refine FW.seq (FW.region ?_)
   refine FL.v (E.move k643) ?_
   refine FL.v (E.assign (v := v233) rfl) ?_
   refine FL.nil ?_
   refine FW.ret ?_
   obtain rfl := Option.some.inj hp
   exact ⟨.inr rfl, res1 rfl rfl ⟨_, _, _, _, rfl, S639, els236⟩⟩
  ·
   exact x32.elim

theorem w_impl_circuitValue {Ha : GH} {wa : World} (hs : Sl Ha wa) (v0 : Value) (a0 : List Gate) (p0 : RSl Ha eGate 3 v0 a0) (a1 : Int) {r : Bool} (hp : (PF.impl_circuitValue a0 a1) = some r) :
  Calls Tryz.prog 90 #[v0, Value.int .i64 a1] wa (Sc Ha wa (Value.bool r)) := by
 unfold PF.impl_circuitValue at hp
 have S0 := St.init hs
 refine calls_go (N := 13) (args := [v0, Value.int .i64 a1]) Tryz.func90 rfl rfl rfl ?_
 refine FW.seq (FW.region ?_)
 refine FL.v (E.assign (v := Value.bool false) rfl) ?_
 refine FL.nil (FW.seq (FW.region ?_))
 refine FL.v (E.move (v := v0) rfl) ?_
 refine FL.v (E.move (v := Value.int .i64 a1) rfl) ?_
 obtain ⟨r21, hr22, hp⟩ := bnd hp
 refine FL.call rfl rfl rfl (E.call Tryz.call141 (A2 rfl rfl)) (w_impl_gateValues S0.sl v0 a0 p0 a1 hr22) ?_
 rintro e w24 ⟨H23, v27, n28, cs29, rfl, r26, els30⟩
 refine ⟨_, rfl, ?_⟩
 have els30 := els30.mono (up_le S0.size)
 have S25 := S0.join (l' := [.row 4 1 v27 n28 cs29]) r26 rfl
 refine FL.v (E.move (v := v0) rfl) ?_
 refine FL.v (E.lenP te50 rfl p0) ?_
 refine FL.v (E.sub rfl rfl) ?_
 obtain ⟨x37, hx38, hp⟩ := bnd hp
 obtain ⟨p31, cs32, pt33, l34, at35, rel36⟩ := S25.row_at (i := 0) rfl els30 (by decide) hx38
 obtain rfl := eB_open rel36
 refine FL.v (E.indexAddr te81 rfl rfl pt33) ?_
 refine FL.v (E.load rfl (run_load0 Tryz.isAgg4 at35 rfl)) ?_
 refine FL.v (E.assign (v := Value.bool x37) rfl) ?_
 refine FL.nil ?_
 refine FW.ret ?_
 obtain rfl := Option.some.inj hp
 exact ⟨.inr rfl, res1 rfl rfl ⟨rfl, S25.back⟩⟩

set_option maxHeartbeats 4000000 in
theorem w_impl_CountTrue {Ha : GH} {wa : World} (hs : Sl Ha wa) (a0 : Int) (v1 : Value) (a1 : List Gate) (p1 : RSl Ha eGate 3 v1 a1) {r : (Int × Bool)} (hp : (PF.impl_CountTrue a0 a1) = some r) :
  Calls Tryz.prog 38 #[Value.int .i64 a0, v1] wa (Sc Ha wa (Value.tuple #[Value.int .i64 r.1, Value.bool r.2])) := by
 unfold PF.impl_CountTrue at hp
 have S0 := St.init hs
 refine calls_go (N := 24) (args := [Value.int .i64 a0, v1]) Tryz.func38 rfl rfl rfl ?_
 refine FW.seq (FW.region ?_)
 refine FL.v (E.assign (v := Value.int .i64 0) rfl) ?_
 refine FL.v (E.assign (v := Value.bool false) rfl) ?_
 refine FL.nil (FW.seq (FW.seq (FW.region ?_)))
 refine FL.v (E.move (v := Value.int .i64 a0) rfl) ?_
 refine FL.v (E.move (v := v1) rfl) ?_
 obtain ⟨r21, hr22, hp⟩ := bnd hp
 refine FL.call rfl rfl rfl (E.call Tryz.call89 (A2 rfl rfl)) (w_impl_IsCircuit S0.sl a0 v1 a1 p1 hr22) ?_
 rintro e w23 ⟨rfl, r24⟩
 refine ⟨_, rfl, ?_⟩
 have S25 := S0.call r24
 refine FL.v (E.not rfl) ?_
 refine FL.nil ?_
 rcases ifB hp with ⟨c26, hp⟩ | ⟨c26, hp⟩
 ·
  refine FW.condT rfl c26 ?_
  refine FW.seq (FW.region ?_)
  refine FL.v (E.assign (v := Value.int .i64 0) rfl) ?_
  refine FL.v (E.assign (v := Value.bool false) rfl) ?_
  refine FL.nil ?_
  refine FW.ret ?_
  obtain rfl := Option.some.inj hp
  exact ⟨.inr rfl, res2 rfl rfl rfl ⟨rfl, S25.back⟩⟩
 ·
  refine FW.condF rfl c26 ?_
  refine FW.skip (FW.seq (FW.region ?_))
  refine FL.v (E.assign (v := Value.int .i64 0) rfl) ?_
  refine FL.nil (FW.seq (FW.seq (FW.region ?_)))
  refine FL.v (E.move (v := Value.int .i64 a0) rfl) ?_
  obtain ⟨u28, z27, hp⟩ := bnd hp
  refine FL.v (E.shl rfl rfl (nn_ge z27)) ?_
  refine FL.v (E.move (v := Value.int .i64 0) rfl) ?_
  refine FL.nil ?_
  obtain ⟨m29, hchk30, hp⟩ := bnd hp
  obtain ⟨q30, hq, hp⟩ := bndR hp
  refine FW.block ?_
  refine FW.mono (FW.forR (S := Int) (X := Empty) (fun (i30 : Nat) (s30 : Int) f w => ∃ H : GH, St Ha wa H w [] ∧ Inc Ha H ∧ f 14 = Value.int .i64 ((i30 : Nat) : Int) ∧ f 1 = v1 ∧ f 6 = Value.int .i64 s30 ∧ f 13 = Value.int .i64 (shlK true 64 1 a0)) (fun (q : Rs Int Empty) e f w => match q with | .go s30 => e = Exit.exit 0 ∧ (∃ H : GH, St Ha wa H w [] ∧ Inc Ha H ∧ f 6 = Value.int .i64 s30) | .rt x => x.elim) hq ⟨_, S25, (Inc.rfl _), rfl, rfl, rfl, rfl⟩ ?_ ?_) ?_
  ·
   clear hp hq
   rintro i30 s30 f50 w49 ⟨H46, S47, i48, k51, k52, k53, k54⟩ hi30 hj30 o61 hp
   refine FW.seq (FW.region ?_)
   refine FL.v (E.lssT k51 k54 (lss_chk hj30 hchk30)) ?_
   refine FL.nil (FW.seq ?_)
   refine FW.condT rfl rfl ?_
   refine FW.skip (FW.seq (FW.block (FW.seq (FW.region ?_))))
   refine FL.v (E.move k51) ?_
   refine FL.v (E.assign (v := Value.int .i64 ((i30 : Nat) : Int)) rfl) ?_
   refine FL.nil (FW.seq (FW.region ?_))
   refine FL.v (E.move k52) ?_
   refine FL.v (E.move (v := Value.int .i64 ((i30 : Nat) : Int)) rfl) ?_
   obtain ⟨r55, hr56, hp⟩ := bnd hp
   refine FL.call rfl rfl rfl (E.call Tryz.call90 (A2 rfl rfl)) (w_impl_circuitValue S47.sl v1 a1 (p1.mono i48) ((i30 : Nat) : Int) hr56) ?_
   rintro e w57 ⟨rfl, r58⟩
   refine ⟨_, rfl, ?_⟩
   have S59 := S47.call r58
   refine FL.nil ?_
   rcases ifB hp with ⟨c60, hp⟩ | ⟨c60, hp⟩
   ·
    refine FW.condT rfl c60 ?_
    refine FW.region ?_
    refine FL.v (E.move k53) ?_
    refine FL.v (E.add rfl rfl) ?_
    refine FL.v (E.assign (v := Value.int .i64 (wr (s30 + 1))) rfl) ?_
    refine FL.nil (FW.region ?_)
    refine FL.v (E.add k51 rfl) ?_
    refine FL.v (E.move (v := Value.int .i64 (wr (((i30 : Nat) : Int) + 1))) rfl) ?_
    refine FL.nil ?_
    obtain rfl := Option.some.inj hp
    exact ⟨rfl, ⟨_, S59, i48, (nat_succ rfl hj30 (chk_le hchk30)), k52, rfl, k54⟩⟩
   ·
    refine FW.condF rfl c60 ?_
    refine FW.skip (FW.region ?_)
    refine FL.v (E.add k51 rfl) ?_
    refine FL.v (E.move (v := Value.int .i64 (wr (((i30 : Nat) : Int) + 1))) rfl) ?_
    refine FL.nil ?_
    obtain rfl := Option.some.inj hp
    exact ⟨rfl, ⟨_, S59, i48, (nat_succ rfl hj30 (chk_le hchk30)), k52, k53, k54⟩⟩
  ·
   clear hp hq
   rintro s30 f72 w71 ⟨H68, S69, i70, k73, k74, k75, k76⟩
   refine FW.seq (FW.region ?_)
   refine FL.v (E.lss k73 k76) ?_
   refine FL.nil (FW.seq ?_)
   refine FW.condF rfl (dlt_maxchk hchk30) ?_
   refine FW.exit ?_
   exact ⟨nofun, rfl, ⟨_, S69, i70, k75⟩⟩
  ·
   clear hq
   intro e f66 w65 hD
   rcases q30 with s30 | x30
   ·
    obtain ⟨rfl, hD⟩ := hD
    obtain ⟨H62, S63, i64, k67⟩ := hD
    replace hp := el_go hp
    refine FW.seq (FW.region ?_)
    refine FL.v (E.move k67) ?_
    refine FL.v (E.assign (v := Value.int .i64 s30) rfl) ?_
    refine FL.v (E.assign (v := Value.bool true) rfl) ?_
    refine FL.nil ?_
    refine FW.ret ?_
    obtain rfl := Option.some.inj hp
    exact ⟨.inr rfl, res2 rfl rfl rfl ⟨rfl, S63.back⟩⟩
   ·
    exact x30.elim

theorem w_impl_FormulaValue {Ha : GH} {wa : World} (hs : Sl Ha wa) (a0 : ByteArray) (a1 : Int) {r : (Bool × Bool)} (hp : (PF.impl_FormulaValue a0 a1) = some r) :
  Calls Tryz.prog 39 #[Value.string a0, Value.int .i64 a1] wa (Sc Ha wa (Value.tuple #[Value.bool r.1, Value.bool r.2])) := by
 unfold PF.impl_FormulaValue at hp
 have S0 := St.init hs
 refine calls_go (N := 23) (args := [Value.string a0, Value.int .i64 a1]) Tryz.func39 rfl rfl rfl ?_
 refine FW.seq (FW.region ?_)
 refine FL.v (E.assign (v := Value.bool false) rfl) ?_
 refine FL.v (E.assign (v := Value.bool false) rfl) ?_
 refine FL.nil (FW.seq (FW.region ?_))
 refine FL.v (E.move (v := Value.string a0) rfl) ?_
 obtain ⟨r21, hr22, hp⟩ := bnd hp
 refine FL.call rfl rfl rfl (E.call Tryz.call78 (A1 rfl)) (w_impl_parse S0.sl a0 hr22) ?_
 rintro e w24 ⟨H23, v27, rfl, r26, h28⟩
 refine ⟨_, rfl, ?_⟩
 have S25 := S0.call r26
 refine FL.v (E.move (v := Value.tuple #[v27, Value.bool r21.2]) rfl) ?_
 refine FL.v (E.extract (i := 0) rfl rfl) ?_
 refine FL.v (E.extract (i := 1) rfl rfl) ?_
 refine FL.v (E.assign (v := v27) rfl) ?_
 refine FL.v (E.assign (v := Value.bool r21.2) rfl) ?_
 refine FL.nil (FW.seq (FW.seq (FW.region ?_)))
 refine FL.v (E.move (v := Value.bool r21.2) rfl) ?_
 refine FL.v (E.not rfl) ?_
 refine FL.v (E.move (v := Value.bool (!r21.2)) rfl) ?_
 refine FL.cut 4 (fun f w => ∃ H : GH, St Ha wa H w [] ∧ Inc H23 H ∧ f 1 = Value.int .i64 a1 ∧ f 6 = v27 ∧ f 19 = Value.bool (bif (!r21.2) then true else (!(PF.impl_within a1 0 63)))) ?_ ?_
 ·
  rcases bcase (!r21.2) with c38 | c38
  ·
   refine FL.skip (wF_no rfl rfl rfl c38) rfl ?_
   refine FL.skip (wF_no rfl rfl rfl c38) rfl ?_
   refine FL.skip (wF_no rfl rfl rfl c38) rfl ?_
   refine FL.v (E.pickT rfl c38 rfl) ?_
   exact FL.nil ⟨rfl, _, S25, (Inc.rfl _), rfl, rfl, (congrArg Value.bool (bifT c38).symm)⟩
  ·
   refine FL.val (wF_yes rfl rfl rfl c38) rfl rfl (E.move (v := Value.int .i64 a1) rfl) ?_
   refine FL.call (wF_yes rfl rfl rfl c38) rfl rfl (E.call Tryz.call91 (A3 rfl rfl rfl)) (w_impl_within S25.sl a1 0 63) ?_
   rintro e w39 ⟨rfl, r40⟩
   refine ⟨_, rfl, ?_⟩
   have S41 := S25.call r40
   refine FL.val (wF_yes rfl rfl rfl c38) rfl rfl (E.not rfl) ?_
   refine FL.v (E.pickF rfl c38 rfl) ?_
   exact FL.nil ⟨rfl, _, S41, (Inc.rfl _), rfl, rfl, (congrArg Value.bool (bifF c38).symm)⟩
 rintro f37 w36 ⟨H33, S34, i35, k42, k43, k44⟩
 refine FL.nil ?_
 rcases ifB hp with ⟨c45, hp⟩ | ⟨c45, hp⟩
 ·
  refine FW.condT k44 c45 ?_
  refine FW.seq (FW.region ?_)
  refine FL.v (E.assign (v := Value.bool false) rfl) ?_
  refine FL.v (E.assign (v := Value.bool false) rfl) ?_
  refine FL.nil ?_
  refine FW.ret ?_
  obtain rfl := Option.some.inj hp
  exact ⟨.inr rfl, res2 rfl rfl rfl ⟨rfl, S34.back⟩⟩
 ·
  refine FW.condF k44 c45 ?_
  refine FW.skip (FW.seq (FW.region ?_))
  refine FL.v (E.move k43) ?_
  refine FL.v (E.move k42) ?_
  obtain ⟨r46, hr47, hp⟩ := bnd hp
  refine FL.call rfl rfl rfl (E.call Tryz.call88 (A2 rfl rfl)) (w_impl_formula_value S34.sl v27 r21.1 (h28.mono i35) a1 hr47) ?_
  rintro e w48 ⟨rfl, r49⟩
  refine ⟨_, rfl, ?_⟩
  have S50 := S34.call r49
  refine FL.v (E.assign (v := Value.bool r46) rfl) ?_
  refine FL.v (E.assign (v := Value.bool true) rfl) ?_
  refine FL.nil ?_
  refine FW.ret ?_
  obtain rfl := Option.some.inj hp
  exact ⟨.inr rfl, res2 rfl rfl rfl ⟨rfl, S50.back⟩⟩

theorem w_impl_bitsOk {Ha : GH} {wa : World} (hs : Sl Ha wa) (a0 : Int) (a1 : Int) {r : Bool} (hp : (PF.impl_bitsOk a0 a1) = some r) :
  Calls Tryz.prog 92 #[Value.int .i64 a0, Value.int .i64 a1] wa (Sc Ha wa (Value.bool r)) := by
 unfold PF.impl_bitsOk at hp
 have S0 := St.init hs
 refine calls_go (N := 10) (args := [Value.int .i64 a0, Value.int .i64 a1]) Tryz.func92 rfl rfl rfl ?_
 refine FW.seq (FW.region ?_)
 refine FL.v (E.assign (v := Value.bool false) rfl) ?_
 refine FL.nil (FW.seq (FW.region ?_))
 refine FL.v (E.move (v := Value.int .i64 a1) rfl) ?_
 refine FL.v (E.move (v := Value.int .i64 a0) rfl) ?_
 obtain ⟨u22, z21, hp⟩ := bnd hp
 refine FL.v (E.shl rfl rfl (nn_ge z21)) ?_
 refine FL.v (E.sub rfl rfl) ?_
 refine FL.call rfl rfl rfl (E.call Tryz.call91 (A3 rfl rfl rfl)) (w_impl_within S0.sl a1 0 (wr ((shlK true 64 1 a0) - 1))) ?_
 rintro e w23 ⟨rfl, r24⟩
 refine ⟨_, rfl, ?_⟩
 have S25 := S0.call r24
 refine FL.v (E.assign (v := Value.bool (PF.impl_within a1 0 (wr ((shlK true 64 1 a0) - 1)))) rfl) ?_
 refine FL.nil ?_
 refine FW.ret ?_
 obtain rfl := Option.some.inj hp
 exact ⟨.inr rfl, res1 rfl rfl ⟨rfl, S25.back⟩⟩

theorem w_impl_CircuitValue {Ha : GH} {wa : World} (hs : Sl Ha wa) (a0 : Int) (v1 : Value) (a1 : List Gate) (p1 : RSl Ha eGate 3 v1 a1) (a2 : Int) {r : (Bool × Bool)} (hp : (PF.impl_CircuitValue a0 a1 a2) = some r) :
  Calls Tryz.prog 40 #[Value.int .i64 a0, v1, Value.int .i64 a2] wa (Sc Ha wa (Value.tuple #[Value.bool r.1, Value.bool r.2])) := by
 unfold PF.impl_CircuitValue at hp
 have S0 := St.init hs
 refine calls_go (N := 21) (args := [Value.int .i64 a0, v1, Value.int .i64 a2]) Tryz.func40 rfl rfl rfl ?_
 refine FW.seq (FW.region ?_)
 refine FL.v (E.assign (v := Value.bool false) rfl) ?_
 refine FL.v (E.assign (v := Value.bool false) rfl) ?_
 refine FL.nil (FW.seq (FW.seq (FW.region ?_)))
 refine FL.v (E.move (v := Value.int .i64 a0) rfl) ?_
 refine FL.v (E.move (v := v1) rfl) ?_
 obtain ⟨r21, hr22, hp⟩ := bnd hp
 refine FL.call rfl rfl rfl (E.call Tryz.call89 (A2 rfl rfl)) (w_impl_IsCircuit S0.sl a0 v1 a1 p1 hr22) ?_
 rintro e w23 ⟨rfl, r24⟩
 refine ⟨_, rfl, ?_⟩
 have S25 := S0.call r24
 refine FL.v (E.not rfl) ?_
 refine FL.v (E.move (v := Value.bool (!r21)) rfl) ?_
 obtain ⟨t31, hqt31, hp⟩ := bnd hp
 refine FL.cut 5 (fun f w => ∃ H : GH, St Ha wa H w [] ∧ Inc Ha H ∧ f 1 = v1 ∧ f 2 = Value.int .i64 a2 ∧ f 17 = Value.bool t31) ?_ ?_
 ·
  clear hp; have hp := hqt31; clear hqt31
  rcases ifB hp with ⟨c37, hp⟩ | ⟨c37, hp⟩
  ·
   refine FL.skip (wF_no rfl rfl rfl c37) rfl ?_
   refine FL.skip (wF_no rfl rfl rfl c37) rfl ?_
   refine FL.skip (wF_no rfl rfl rfl c37) rfl ?_
   refine FL.skip (wF_no rfl rfl rfl c37) rfl ?_
   obtain rfl := Option.some.inj hp
   refine FL.v (E.pickT rfl c37 rfl) ?_
   exact FL.nil ⟨rfl, _, S25, (Inc.rfl _), rfl, rfl, rfl⟩
  ·
   refine FL.val (wF_yes rfl rfl rfl c37) rfl rfl (E.move (v := Value.int .i64 a0) rfl) ?_
   refine FL.val (wF_yes rfl rfl rfl c37) rfl rfl (E.move (v := Value.int .i64 a2) rfl) ?_
   obtain ⟨r38, hr39, hp⟩ := bnd hp
   refine FL.call (wF_yes rfl rfl rfl c37) rfl rfl (E.call Tryz.call92 (A2 rfl rfl)) (w_impl_bitsOk S25.sl a0 a2 hr39) ?_
   rintro e w40 ⟨rfl, r41⟩
   refine ⟨_, rfl, ?_⟩
   have S42 := S25.call r41
   refine FL.val (wF_yes rfl rfl rfl c37) rfl rfl (E.not rfl) ?_
   obtain rfl := Option.some.inj hp
   refine FL.v (E.pickF rfl c37 rfl) ?_
   exact FL.nil ⟨rfl, _, S42, (Inc.rfl _), rfl, rfl, rfl⟩
 rintro f36 w35 ⟨H32, S33, i34, k43, k44, k45⟩
 refine FL.nil ?_
 rcases ifB hp with ⟨c46, hp⟩ | ⟨c46, hp⟩
 ·
  refine FW.condT k45 c46 ?_
  refine FW.seq (FW.region ?_)
  refine FL.v (E.assign (v := Value.bool false) rfl) ?_
  refine FL.v (E.assign (v := Value.bool false) rfl) ?_
  refine FL.nil ?_
  refine FW.ret ?_
  obtain rfl := Option.some.inj hp
  exact ⟨.inr rfl, res2 rfl rfl rfl ⟨rfl, S33.back⟩⟩
 ·
  refine FW.condF k45 c46 ?_
  refine FW.skip (FW.seq (FW.region ?_))
  refine FL.v (E.move k43) ?_
  refine FL.v (E.move k44) ?_
  obtain ⟨r47, hr48, hp⟩ := bnd hp
  refine FL.call rfl rfl rfl (E.call Tryz.call90 (A2 rfl rfl)) (w_impl_circuitValue S33.sl v1 a1 (p1.mono i34) a2 hr48) ?_
  rintro e w49 ⟨rfl, r50⟩
  refine ⟨_, rfl, ?_⟩
  have S51 := S33.call r50
  refine FL.v (E.assign (v := Value.bool r47) rfl) ?_
  refine FL.v (E.assign (v := Value.bool true) rfl) ?_
  refine FL.nil ?_
  refine FW.ret ?_
  obtain rfl := Option.some.inj hp
  exact ⟨.inr rfl, res2 rfl rfl rfl ⟨rfl, S51.back⟩⟩

theorem w_impl_isLiteral {Ha : GH} {wa : World} (hs : Sl Ha wa) (a0 : Int) (a1 : Int) :
  Calls Tryz.prog 183 #[Value.int .i64 a0, Value.int .i64 a1] wa (Sc Ha wa (Value.bool (PF.impl_isLiteral a0 a1))) := by
 obtain ⟨r, hp⟩ : ∃ r, (PF.impl_isLiteral a0 a1) = r := ⟨_, rfl⟩
 rw [hp]
 unfold PF.impl_isLiteral at hp
 have S0 := St.init hs
 refine calls_go (N := 14) (args := [Value.int .i64 a0, Value.int .i64 a1]) Tryz.func183 rfl rfl rfl ?_
 refine FW.seq (FW.region ?_)
 refine FL.v (E.assign (v := Value.bool false) rfl) ?_
 refine FL.nil (FW.seq (FW.region ?_))
 refine FL.v (E.move (v := Value.int .i64 a1) rfl) ?_
 refine FL.v (E.neq rfl rfl) ?_
 refine FL.v (E.move (v := Value.bool (!(a1 == 0))) rfl) ?_
 refine FL.cut 6 (fun f w => ∃ H : GH, St Ha wa H w [] ∧ Inc Ha H ∧ f 13 = Value.bool (bif (!(a1 == 0)) then (PF.impl_within a1 (wr (-a0)) a0) else false)) ?_ ?_
 ·
  rcases bcase (!(a1 == 0)) with c30 | c30
  ·
   refine FL.val (wF_yes rfl rfl rfl c30) rfl rfl (E.move (v := Value.int .i64 a1) rfl) ?_
   refine FL.val (wF_yes rfl rfl rfl c30) rfl rfl (E.move (v := Value.int .i64 a0) rfl) ?_
   refine FL.val (wF_yes rfl rfl rfl c30) rfl rfl (E.neg rfl) ?_
   refine FL.val (wF_yes rfl rfl rfl c30) rfl rfl (E.move (v := Value.int .i64 a0) rfl) ?_
   refine FL.call (wF_yes rfl rfl rfl c30) rfl rfl (E.call Tryz.call91 (A3 rfl rfl rfl)) (w_impl_within S0.sl a1 (wr (-a0)) a0) ?_
   rintro e w31 ⟨rfl, r32⟩
   refine ⟨_, rfl, ?_⟩
   have S33 := S0.call r32
   refine FL.v (E.pickT rfl c30 rfl) ?_
   exact FL.nil ⟨rfl, _, S33, (Inc.rfl _), (congrArg Value.bool (bifT c30).symm)⟩
  ·
   refine FL.skip (wF_no rfl rfl rfl c30) rfl ?_
   refine FL.skip (wF_no rfl rfl rfl c30) rfl ?_
   refine FL.skip (wF_no rfl rfl rfl c30) rfl ?_
   refine FL.skip (wF_no rfl rfl rfl c30) rfl ?_
   refine FL.skip (wF_no rfl rfl rfl c30) rfl ?_
   refine FL.v (E.pickF rfl c30 rfl) ?_
   exact FL.nil ⟨rfl, _, S0, (Inc.rfl _), (congrArg Value.bool (bifF c30).symm)⟩
 rintro f29 w28 ⟨H25, S26, i27, k34⟩
 refine FL.v (E.assign k34) ?_
 refine FL.nil ?_
 refine FW.ret ?_
 obtain rfl := hp
 exact ⟨.inr rfl, res1 rfl rfl ⟨rfl, S26.back⟩⟩

set_option maxHeartbeats 4000000 in
theorem w_impl_IsClause {Ha : GH} {wa : World} (hs : Sl Ha wa) (a0 : Int) (v1 : Value) (a1 : List Int) (p1 : RSl Ha eI 1 v1 a1) {r : Bool} (hp : (PF.impl_IsClause a0 a1) = some r) :
  Calls Tryz.prog 142 #[Value.int .i64 a0, v1] wa (Sc Ha wa (Value.bool r)) := by
 unfold PF.impl_IsClause at hp
 have S0 := St.init hs
 refine calls_go (N := 36) (args := [Value.int .i64 a0, v1]) Tryz.func142 rfl rfl rfl ?_
 refine FW.seq (FW.region ?_)
 refine FL.v (E.assign (v := Value.bool false) rfl) ?_
 refine FL.nil (FW.seq (FW.seq (FW.region ?_)))
 refine FL.v (E.move (v := v1) rfl) ?_
 refine FL.v (E.lenP te82 rfl p1) ?_
 refine FL.v (E.move (v := Value.int .i64 0) rfl) ?_
 refine FL.nil ?_
 obtain ⟨q22, hq, hp⟩ := bndR hp
 refine FW.block ?_
 refine FW.mono (FW.forL (S := Unit) (X := Bool) (fun (i22 : Nat) (s22 : Unit) f w => ∃ H : GH, St Ha wa H w [] ∧ Inc Ha H ∧ f 9 = Value.int .i64 ((i22 : Nat) : Int) ∧ f 0 = Value.int .i64 a0 ∧ f 1 = v1 ∧ f 7 = v1 ∧ f 8 = Value.int .i64 (len a1)) (fun q e f w => match q with | .go s22 => e = Exit.exit 0 ∧ (∃ H : GH, St Ha wa H w [] ∧ Inc Ha H ∧ f 0 = Value.int .i64 a0) | .rt x => ((e = Exit.ret) ∧ (fun e f w => (e = Exit.normal ∨ e = Exit.ret) ∧ ∀ a, Fr (δ := []) 36 a f → ∃ v, (results Tryz.f142 a.tmps).run Tryz.prog w = .ok v w ∧ (Sc Ha wa (Value.bool x)) (.returned v) w) e f w)) hq ⟨_, S0, (Inc.rfl _), rfl, rfl, rfl, rfl, rfl⟩ ?_ ?_) ?_
 ·
  clear hp hq
  rintro i22 y21 s22 f121 w120 ⟨H117, S118, i119, k122, k123, k124, k125, k126⟩ hx22 o211 hp
  refine FW.seq (FW.region ?_)
  refine FL.v (E.lssT k122 k126 (lss_len hx22)) ?_
  refine FL.nil (FW.seq ?_)
  refine FW.condT rfl rfl ?_
  refine FW.skip (FW.seq (FW.block (FW.seq (FW.region ?_))))
  refine FL.v (E.move k122) ?_
  obtain ⟨p127, cs128, pt129, l130, at131, rel132⟩ := p1.at (ix_nat hx22)
  obtain rfl := eI_open rel132
  refine FL.v (E.indexAddr te82 k125 k122 pt129) ?_
  refine FL.v (E.load rfl (run_load0 Tryz.isAgg3 ((at131.mono i119).now S118.sl) rfl)) ?_
  refine FL.v (E.assign (v := Value.int .i64 ((i22 : Nat) : Int)) rfl) ?_
  refine FL.v (E.assign (v := Value.int .i64 y21) rfl) ?_
  refine FL.nil (FW.seq ?_)
  refine FW.draw (fun w' => Run w120.heap.size H117 w120 H117 w') (by kernel_rfl) (by kernel_rfl) (run_drew S118.sl) ?_
  refine FD.val rfl rfl rfl (fun w' hw' => (E.move k123)) ?_
  refine FD.val rfl rfl rfl (fun w' hw' => (E.move (v := Value.int .i64 y21) rfl)) ?_
  refine FD.call rfl rfl rfl (fun w' hw' => (E.call Tryz.call183 (A2 rfl rfl))) (fun w' hw' => Calls.cls hw' (w_impl_isLiteral (S118.call hw').sl a0 y21)) ?_
  refine FD.val rfl rfl rfl (fun w' hw' => (E.not rfl)) ?_
  refine FD.val rfl rfl rfl (fun w' hw' => (E.move (v := Value.bool (!(PF.impl_isLiteral a0 y21))) rfl)) ?_
  obtain ⟨t164, hqt164, hp⟩ := bnd hp
  refine FD.cut 14 (fun f => f 0 = Value.int .i64 a0 ∧ f 1 = v1 ∧ f 7 = v1 ∧ f 8 = Value.int .i64 (len a1) ∧ f 9 = Value.int .i64 ((i22 : Nat) : Int) ∧ f 32 = Value.bool t164) ?_ ?_
  ·
   clear hp; have hp := hqt164; clear hqt164
   rcases ifB hp with ⟨c170, hp⟩ | ⟨c170, hp⟩
   ·
    refine FD.skip (wF_no rfl rfl rfl c170) rfl ?_
    refine FD.skip (wF_no rfl rfl rfl c170) rfl ?_
    refine FD.skip (wF_no rfl rfl rfl c170) rfl ?_
    refine FD.skip (wF_undef rfl rfl rfl) rfl ?_
    refine FD.skip (wF_undef rfl rfl rfl) rfl ?_
    refine FD.skip (wF_undef rfl rfl rfl) rfl ?_
    refine FD.skip (wF_undef rfl rfl rfl) rfl ?_
    refine FD.skip (wF_undef rfl rfl rfl) rfl ?_
    refine FD.skip (wF_undef rfl rfl rfl) rfl ?_
    refine FD.skip (wF_undef rfl rfl rfl) rfl ?_
    refine FD.skip (wF_undef rfl rfl rfl) rfl ?_
    refine FD.skip (wF_undef rfl rfl rfl) rfl ?_
    refine FD.skip (wF_no rfl rfl rfl c170) rfl ?_
    obtain rfl := Option.some.inj hp
    refine FD.val rfl rfl rfl (fun w' hw' => (E.pickT rfl c170 rfl)) ?_
    exact FD.nil ⟨k123, k124, k125, k126, k122, rfl⟩
   ·
    refine FD.val (wF_yes rfl rfl rfl c170) rfl rfl (fun w' hw' => (E.move (v := Value.int .i64 ((i22 : Nat) : Int)) rfl)) ?_
    refine FD.val (wF_yes rfl rfl rfl c170) rfl rfl (fun w' hw' => (E.gtr rfl rfl)) ?_
    refine FD.val (wF_yes rfl rfl rfl c170) rfl rfl (fun w' hw' => (E.move (v := Value.bool (decide (0 < ((i22 : Nat) : Int)))) rfl)) ?_
    obtain ⟨t179, hqt179, hp⟩ := bnd hp
    refine FD.cut 10 (fun f => f 0 = Value.int .i64 a0 ∧ f 1 = v1 ∧ f 7 = v1 ∧ f 8 = Value.int .i64 (len a1) ∧ f 9 = Value.int .i64 ((i22 : Nat) : Int) ∧ f 18 = Value.bool (!(PF.impl_isLiteral a0 y21)) ∧ f 31 = Value.bool t179) ?_ ?_
    ·
     clear hp; have hp := hqt179; clear hqt179
     rcases ifB hp with ⟨c185, hp⟩ | ⟨c185, hp⟩
     ·
      refine FD.val (wF_yes rfl rfl rfl c185) rfl rfl (fun w' hw' => (E.move (v := Value.int .i64 y21) rfl)) ?_
      refine FD.call (wF_yes rfl rfl rfl c185) rfl rfl (fun w' hw' => (E.call Tryz.call180 (A1 rfl))) (fun w' hw' => Calls.cls hw' (w_impl_abs (S118.call hw').sl y21)) ?_
      refine FD.val (wF_yes rfl rfl rfl c185) rfl rfl (fun w' hw' => (E.move k124)) ?_
      refine FD.val (wF_yes rfl rfl rfl c185) rfl rfl (fun w' hw' => (E.move (v := Value.int .i64 ((i22 : Nat) : Int)) rfl)) ?_
      refine FD.val (wF_yes rfl rfl rfl c185) rfl rfl (fun w' hw' => (E.sub rfl rfl)) ?_
      obtain ⟨x192, hx193, hp⟩ := bnd hp
      obtain ⟨p186, cs187, pt188, l189, at190, rel191⟩ := p1.at hx193
      obtain rfl := eI_open rel191
      refine FD.val (wF_yes rfl rfl rfl c185) rfl rfl (fun w' hw' => (E.indexAddr te82 rfl rfl pt188)) ?_
      refine FD.val (wF_yes rfl rfl rfl c185) rfl rfl (fun w' hw' => (E.load rfl (run_load0 Tryz.isAgg3 ((at190.mono i119).now (S118.call hw').sl) rfl))) ?_
      refine FD.call (wF_yes rfl rfl rfl c185) rfl rfl (fun w' hw' => (E.call Tryz.call180 (A1 rfl))) (fun w' hw' => Calls.cls hw' (w_impl_abs (S118.call hw').sl x192)) ?_
      refine FD.val (wF_yes rfl rfl rfl c185) rfl rfl (fun w' hw' => (E.leq rfl rfl)) ?_
      obtain rfl := Option.some.inj hp
      refine FD.val (wF_yes rfl rfl rfl c170) rfl rfl (fun w' hw' => (E.pickT rfl c185 rfl)) ?_
      exact FD.nil ⟨k123, k124, k125, k126, k122, rfl, rfl⟩
     ·
      refine FD.skip (wF_no rfl rfl rfl c185) rfl ?_
      refine FD.skip (wF_no rfl rfl rfl c185) rfl ?_
      refine FD.skip (wF_no rfl rfl rfl c185) rfl ?_
      refine FD.skip (wF_no rfl rfl rfl c185) rfl ?_
      refine FD.skip (wF_no rfl rfl rfl c185) rfl ?_
      refine FD.skip (wF_no rfl rfl rfl c185) rfl ?_
      refine FD.skip (wF_no rfl rfl rfl c185) rfl ?_
      refine FD.skip (wF_no rfl rfl rfl c185) rfl ?_
      refine FD.skip (wF_no rfl rfl rfl c185) rfl ?_
      obtain rfl := Option.some.inj hp
      refine FD.val (wF_yes rfl rfl rfl c170) rfl rfl (fun w' hw' => (E.pickF rfl c185 rfl)) ?_
      exact FD.nil ⟨k123, k124, k125, k126, k122, rfl, rfl⟩
    rintro f184 ⟨k194, k195, k196, k197, k198, k199, k200⟩
    obtain rfl := Option.some.inj hp
    refine FD.val rfl rfl rfl (fun w' hw' => (E.pickF k199 c170 k200)) ?_
    exact FD.nil ⟨k194, k195, k196, k197, k198, rfl⟩
  rintro f169 ⟨k201, k202, k203, k204, k205, k206⟩
  refine FD.nil ?_
  intro w207 r209
  have S208 := S118.call r209
  rcases ifB hp with ⟨c210, hp⟩ | ⟨c210, hp⟩
  ·
   refine FW.condT k206 c210 ?_
   refine FW.seq (FW.region ?_)
   refine FL.v (E.assign (v := Value.bool false) rfl) ?_
   refine FL.nil ?_
   refine FW.ret ?_
   obtain rfl := Option.some.inj hp
   exact ⟨nofun, rfl, ⟨.inr rfl, res1 rfl rfl ⟨rfl, S208.back⟩⟩⟩
  ·
   refine FW.condF k206 c210 ?_
   refine FW.skip (FW.region ?_)
   refine FL.v (E.add k205 rfl) ?_
   refine FL.v (E.move (v := Value.int .i64 (wr (((i22 : Nat) : Int) + 1))) rfl) ?_
   refine FL.nil ?_
   obtain rfl := Option.some.inj hp
   exact ⟨rfl, ⟨_, S208, i119, (nat_succ rfl (lt_of_get hx22) (p1.mono i119).le), k201, k202, k203, k204⟩⟩
 ·
  clear hp hq
  rintro s22 f225 w224 ⟨H221, S222, i223, k226, k227, k228, k229, k230⟩
  refine FW.seq (FW.region ?_)
  refine FL.v (E.lss k226 k230) ?_
  refine FL.nil (FW.seq ?_)
  refine FW.condF rfl dlt_len ?_
  refine FW.exit ?_
  exact ⟨nofun, rfl, ⟨_, S222, i223, k227⟩⟩
 ·
  clear hq
  intro e f216 w215 hD
  rcases q22 with s22 | x22
  ·
   obtain ⟨rfl, hD⟩ := hD
   obtain ⟨H212, S213, i214, k217⟩ := hD
   replace hp := el_go hp
   refine FW.seq (FW.region ?_)
   refine FL.v (E.move k217) ?_
   refine FL.call rfl rfl rfl (E.call Tryz.call140 (A1 rfl)) (w_impl_varsOk S213.sl a0) ?_
   rintro e w218 ⟨rfl, r219⟩
   refine ⟨_, rfl, ?_⟩
   have S220 := S213.call r219
   refine FL.v (E.assign (v := Value.bool (PF.impl_varsOk a0)) rfl) ?_
   refine FL.nil ?_
   refine FW.ret ?_
   obtain rfl := Option.some.inj hp
   exact ⟨.inr rfl, res1 rfl rfl ⟨rfl, S220.back⟩⟩
  ·
   obtain ⟨he, hL⟩ := hD
   replace hp := el_rt hp
   obtain rfl := Option.some.inj hp
   subst he
   exact hL

set_option maxHeartbeats 4000000 in
theorem w_impl_IsCnf {Ha : GH} {wa : World} (hs : Sl Ha wa) (a0 : Cnf) (v0_1 : Value) (p0_1 : RSl Ha (eL eI 1) 1 v0_1 a0.clauses) {r : Bool} (hp : (PF.impl_IsCnf a0) = some r) :
  Calls Tryz.prog 93 #[Value.agg #[Value.int .i64 a0.vars, v0_1]] wa (Sc Ha wa (Value.bool r)) := by
 unfold PF.impl_IsCnf at hp
 have S0 := St.init hs
 refine calls_go (N := 27) (args := [Value.agg #[Value.int .i64 a0.vars, v0_1]]) Tryz.func93 rfl rfl rfl ?_
 refine FW.seq (FW.region ?_)
 obtain ⟨b21, w22, run23, S24⟩ := S0.box (P := Tryz.prog) 46 [Value.int .i64 a0.vars, v0_1] (v := Value.agg #[Value.int .i64 a0.vars, v0_1]) rfl (ones_cons rfl (ones_cons p0_1.one ones_nil))
 refine FL.v (E.box rfl run23) ?_
 obtain ⟨H25, S26, i27, at28⟩ := S24.sealBox (i := 0) (l' := []) rfl rfl
 refine FL.v (E.assign (v := Value.bool false) rfl) ?_
 refine FL.nil (FW.seq (FW.seq (FW.region ?_)))
 refine FL.v (E.fieldAddr tf46_1 rfl) ?_
 refine FL.v (E.load rfl (run_load1 Tryz.isAgg44 (at28.now S26.sl) rfl)) ?_
 refine FL.v (E.lenP te44 rfl p0_1) ?_
 refine FL.v (E.move (v := Value.int .i64 0) rfl) ?_
 refine FL.nil ?_
 obtain ⟨q30, hq, hp⟩ := bndR hp
 refine FW.block ?_
 refine FW.mono (FW.forL (S := Unit) (X := Bool) (fun (i30 : Nat) (s30 : Unit) f w => ∃ H : GH, St Ha wa H w [] ∧ Inc H25 H ∧ f 8 = Value.int .i64 ((i30 : Nat) : Int) ∧ f 1 = Value.pointer (some ⟨b21, 0, none⟩) ∧ f 6 = v0_1 ∧ f 7 = Value.int .i64 (len a0.clauses)) (fun q e f w => match q with | .go s30 => e = Exit.exit 0 ∧ (∃ H : GH, St Ha wa H w [] ∧ Inc H25 H ∧ f 1 = Value.pointer (some ⟨b21, 0, none⟩)) | .rt x => ((e = Exit.ret) ∧ (fun e f w => (e = Exit.normal ∨ e = Exit.ret) ∧ ∀ a, Fr (δ := []) 27 a f → ∃ v, (results Tryz.f93 a.tmps).run Tryz.prog w = .ok v w ∧ (Sc Ha wa (Value.bool x)) (.returned v) w) e f w)) hq ⟨_, S26, (Inc.rfl _), rfl, rfl, rfl, rfl⟩ ?_ ?_) ?_
 ·
  clear hp hq
  rintro i30 y29 s30 f58 w57 ⟨H54, S55, i56, k59, k60, k61, k62⟩ hx30 o77 hp
  refine FW.seq (FW.region ?_)
  refine FL.v (E.lssT k59 k62 (lss_len hx30)) ?_
  refine FL.nil (FW.seq ?_)
  refine FW.condT rfl rfl ?_
  refine FW.skip (FW.seq (FW.block (FW.seq (FW.region ?_))))
  obtain ⟨p63, cs64, pt65, l66, at67, rel68⟩ := p0_1.at (ix_nat hx30)
  obtain ⟨v69, rfl, h70⟩ := eL_open rel68
  refine FL.v (E.indexAddr te44 k61 k59 pt65) ?_
  refine FL.v (E.load rfl (run_load0 Tryz.isAgg82 ((at67.mono (i27.tr i56)).now S55.sl) rfl)) ?_
  refine FL.v (E.assign (v := v69) rfl) ?_
  refine FL.nil (FW.seq (FW.region ?_))
  refine FL.v (E.fieldAddr tf46_0 k60) ?_
  refine FL.v (E.load rfl (run_load1 Tryz.isAgg3 ((at28.mono i56).now S55.sl) rfl)) ?_
  refine FL.v (E.move (v := v69) rfl) ?_
  obtain ⟨r71, hr72, hp⟩ := bnd hp
  refine FL.call rfl rfl rfl (E.call Tryz.call142 (A2 rfl rfl)) (w_impl_IsClause S55.sl a0.vars v69 y29 (h70.mono (i27.tr i56)) hr72) ?_
  rintro e w73 ⟨rfl, r74⟩
  refine ⟨_, rfl, ?_⟩
  have S75 := S55.call r74
  refine FL.v (E.not rfl) ?_
  refine FL.nil ?_
  rcases ifB hp with ⟨c76, hp⟩ | ⟨c76, hp⟩
  ·
   refine FW.condT rfl c76 ?_
   refine FW.seq (FW.region ?_)
   refine FL.v (E.assign (v := Value.bool false) rfl) ?_
   refine FL.nil ?_
   refine FW.ret ?_
   obtain rfl := Option.some.inj hp
   exact ⟨nofun, rfl, ⟨.inr rfl, res1 rfl rfl ⟨rfl, S75.back⟩⟩⟩
  ·
   refine FW.condF rfl c76 ?_
   refine FW.skip (FW.region ?_)
   refine FL.v (E.add k59 rfl) ?_
   refine FL.v (E.move (v := Value.int .i64 (wr (((i30 : Nat) : Int) + 1))) rfl) ?_
   refine FL.nil ?_
   obtain rfl := Option.some.inj hp
   exact ⟨rfl, ⟨_, S75, i56, (nat_succ rfl (lt_of_get hx30) (p0_1.mono (i27.tr i56)).le), k60, k61, k62⟩⟩
 ·
  clear hp hq
  rintro s30 f99 w98 ⟨H95, S96, i97, k100, k101, k102, k103⟩
  refine FW.seq (FW.region ?_)
  refine FL.v (E.lss k100 k103) ?_
  refine FL.nil (FW.seq ?_)
  refine FW.condF rfl dlt_len ?_
  refine FW.exit ?_
  exact ⟨nofun, rfl, ⟨_, S96, i97, k101⟩⟩
 ·
  clear hq
  intro e f82 w81 hD
  rcases q30 with s30 | x30
  ·
   obtain ⟨rfl, hD⟩ := hD
   obtain ⟨H78, S79, i80, k83⟩ := hD
   replace hp := el_go hp
   refine FW.seq (FW.region ?_)
   refine FL.v (E.fieldAddr tf46_0 k83) ?_
   refine FL.v (E.load rfl (run_load1 Tryz.isAgg3 ((at28.mono i80).now S79.sl) rfl)) ?_
   refine FL.call rfl rfl rfl (E.call Tryz.call140 (A1 rfl)) (w_impl_varsOk S79.sl a0.vars) ?_
   rintro e w84 ⟨rfl, r85⟩
   refine ⟨_, rfl, ?_⟩
   have S86 := S79.call r85
   refine FL.v (E.move (v := Value.bool (PF.impl_varsOk a0.vars)) rfl) ?_
   refine FL.cut 5 (fun f w => ∃ H : GH, St Ha wa H w [] ∧ Inc H78 H ∧ f 26 = Value.bool (bif (PF.impl_varsOk a0.vars) then (decide ((len a0.clauses) ≤ 60)) else false)) ?_ ?_
   ·
    rcases bcase (PF.impl_varsOk a0.vars) with c93 | c93
    ·
     refine FL.val (wF_yes rfl rfl rfl c93) rfl rfl (E.fieldAddr tf46_1 k83) ?_
     refine FL.val (wF_yes rfl rfl rfl c93) rfl rfl (E.load rfl (run_load1 Tryz.isAgg44 ((at28.mono i80).now S86.sl) rfl)) ?_
     refine FL.val (wF_yes rfl rfl rfl c93) rfl rfl (E.lenP te44 rfl p0_1) ?_
     refine FL.val (wF_yes rfl rfl rfl c93) rfl rfl (E.leq rfl rfl) ?_
     refine FL.v (E.pickT rfl c93 rfl) ?_
     exact FL.nil ⟨rfl, _, S86, (Inc.rfl _), (congrArg Value.bool (bifT c93).symm)⟩
    ·
     refine FL.skip (wF_no rfl rfl rfl c93) rfl ?_
     refine FL.skip (wF_no rfl rfl rfl c93) rfl ?_
     refine FL.skip (wF_no rfl rfl rfl c93) rfl ?_
     refine FL.skip (wF_no rfl rfl rfl c93) rfl ?_
     refine FL.v (E.pickF rfl c93 rfl) ?_
     exact FL.nil ⟨rfl, _, S86, (Inc.rfl _), (congrArg Value.bool (bifF c93).symm)⟩
   rintro f92 w91 ⟨H88, S89, i90, k94⟩
   refine FL.v (E.assign k94) ?_
   refine FL.nil ?_
   refine FW.ret ?_
   obtain rfl := Option.some.inj hp
   exact ⟨.inr rfl, res1 rfl rfl ⟨rfl, S89.back⟩⟩
  ·
   obtain ⟨he, hL⟩ := hD
   replace hp := el_rt hp
   obtain rfl := Option.some.inj hp
   subst he
   exact hL

theorem w_slices_IndexFunc_LLint_Lint {Ha : GH} {wa : World} (hs : Sl Ha wa) (v0 : Value) (a0 : List (List Int)) (p0 : RSl Ha (eL eI 1) 1 v0 a0) (v1 : Value) (a1 : (List Int) → Option Bool) (p1 : Fn_List_Int_to_B Tryz.prog Ha v1 a1) {r : Int} (hp : (PF.slices_IndexFunc_LLint_Lint a0 a1) = some r) :
  Calls Tryz.prog 236 #[v0, v1] wa (Sc Ha wa (Value.int .i64 r)) := by
 unfold PF.slices_IndexFunc_LLint_Lint at hp
 have S0 := St.init hs
 refine calls_go (N := 19) (args := [v0, v1]) Tryz.func236 rfl rfl rfl ?_
 refine FW.seq (FW.region ?_)
 refine FL.v (E.assign (v := Value.int .i64 0) rfl) ?_
 refine FL.nil (FW.seq (FW.seq (FW.region ?_)))
 refine FL.v (E.move (v := v0) rfl) ?_
 refine FL.v (E.lenP te44 rfl p0) ?_
 refine FL.v (E.move (v := Value.int .i64 0) rfl) ?_
 refine FL.nil ?_
 obtain ⟨q22, hq, hp⟩ := bndR hp
 refine FW.block ?_
 refine FW.mono (FW.forL (S := Unit) (X := Int) (fun (i22 : Nat) (s22 : Unit) f w => ∃ H : GH, St Ha wa H w [] ∧ Inc Ha H ∧ f 8 = Value.int .i64 ((i22 : Nat) : Int) ∧ f 0 = v0 ∧ f 1 = v1 ∧ f 7 = Value.int .i64 (len a0)) (fun q e f w => match q with | .go s22 => e = Exit.exit 0 ∧ (∃ H : GH, St Ha wa H w [] ∧ Inc Ha H) | .rt x => ((e = Exit.ret) ∧ (fun e f w => (e = Exit.normal ∨ e = Exit.ret) ∧ ∀ a, Fr (δ := []) 19 a f → ∃ v, (results Tryz.f236 a.tmps).run Tryz.prog w = .ok v w ∧ (Sc Ha wa (Value.int .i64 x)) (.returned v) w) e f w)) hq ⟨_, S0, (Inc.rfl _), rfl, rfl, rfl, rfl⟩ ?_ ?_) ?_
 ·
  clear hp hq
  rintro i22 y21 s22 f55 w54 ⟨H51, S52, i53, k56, k57, k58, k59⟩ hx22 o79 hp
  refine FW.seq (FW.region ?_)
  refine FL.v (E.lssT k56 k59 (lss_len hx22)) ?_
  refine FL.nil (FW.seq ?_)
  refine FW.condT rfl rfl ?_
  refine FW.skip (FW.seq (FW.block (FW.seq (FW.region ?_))))
  refine FL.v (E.move k56) ?_
  refine FL.v (E.assign (v := Value.int .i64 ((i22 : Nat) : Int)) rfl) ?_
  refine FL.nil (FW.seq (FW.region ?_))
  refine FL.v (E.move k58) ?_
  refine FL.v (E.move k57) ?_
  refine FL.v (E.move (v := Value.int .i64 ((i22 : Nat) : Int)) rfl) ?_
  obtain ⟨p60, cs61, pt62, l63, at64, rel65⟩ := p0.at (ix_nat hx22)
  obtain ⟨v66, rfl, h67⟩ := eL_open rel65
  refine FL.v (E.indexAddr te44 rfl rfl pt62) ?_
  refine FL.v (E.load rfl (run_load0 Tryz.isAgg82 ((at64.mono i53).now S52.sl) rfl)) ?_
  obtain ⟨r68, hr69, hp⟩ := bnd hp
  obtain ⟨fi73, cs74, hv75, he76, hc77⟩ := (p1.mono i53) H51 w54 (Inc.rfl _) S52.sl y21 v66 (h67.mono i53) r68 hr69
  refine FL.call rfl rfl rfl (E.callV he76 (Eq.trans rfl hv75) (appA (A1 rfl) cs74)) hc77 ?_
  rintro e w70 ⟨rfl, r71⟩
  refine ⟨_, rfl, ?_⟩
  have S72 := S52.call r71
  refine FL.nil ?_
  rcases ifB hp with ⟨c78, hp⟩ | ⟨c78, hp⟩
  ·
   refine FW.condT rfl c78 ?_
   refine FW.seq (FW.region ?_)
   refine FL.v (E.move (v := Value.int .i64 ((i22 : Nat) : Int)) rfl) ?_
   refine FL.v (E.assign (v := Value.int .i64 ((i22 : Nat) : Int)) rfl) ?_
   refine FL.nil ?_
   refine FW.ret ?_
   obtain rfl := Option.some.inj hp
   exact ⟨nofun, rfl, ⟨.inr rfl, res1 rfl rfl ⟨rfl, S72.back⟩⟩⟩
  ·
   refine FW.condF rfl c78 ?_
   refine FW.skip (FW.region ?_)
   refine FL.v (E.add k56 rfl) ?_
   refine FL.v (E.move (v := Value.int .i64 (wr (((i22 : Nat) : Int) + 1))) rfl) ?_
   refine FL.nil ?_
   obtain rfl := Option.some.inj hp
   exact ⟨rfl, ⟨_, S72, i53, (nat_succ rfl (lt_of_get hx22) (p0.mono i53).le), k57, k58, k59⟩⟩
 ·
  clear hp hq
  rintro s22 f89 w88 ⟨H85, S86, i87, k90, k91, k92, k93⟩
  refine FW.seq (FW.region ?_)
  refine FL.v (E.lss k90 k93) ?_
  refine FL.nil (FW.seq ?_)
  refine FW.condF rfl dlt_len ?_
  refine FW.exit ?_
  exact ⟨nofun, rfl, ⟨_, S86, i87⟩⟩
 ·
  clear hq
  intro e f84 w83 hD
  rcases q22 with s22 | x22
  ·
   obtain ⟨rfl, hD⟩ := hD
   obtain ⟨H80, S81, i82⟩ := hD
   replace hp := el_go hp
   refine FW.seq (FW.region ?_)
   refine FL.v (E.assign (v := Value.int .i64 (-1)) rfl) ?_
   refine FL.nil ?_
   refine FW.ret ?_
   obtain rfl := Option.some.inj hp
   exact ⟨.inr rfl, res1 rfl rfl ⟨rfl, S81.back⟩⟩
  ·
   obtain ⟨he, hL⟩ := hD
   replace hp := el_rt hp
   obtain rfl := Option.some.inj hp
   subst he
   exact hL

theorem w_slices_ContainsFunc_LLint_Lint {Ha : GH} {wa : World} (hs : Sl Ha wa) (v0 : Value) (a0 : List (List Int)) (p0 : RSl Ha (eL eI 1) 1 v0 a0) (v1 : Value) (a1 : (List Int) → Option Bool) (p1 : Fn_List_Int_to_B Tryz.prog Ha v1 a1) {r : Bool} (hp : (PF.slices_ContainsFunc_LLint_Lint a0 a1) = some r) :
  Calls Tryz.prog 184 #[v0, v1] wa (Sc Ha wa (Value.bool r)) := by
 unfold PF.slices_ContainsFunc_LLint_Lint at hp
 have S0 := St.init hs
 refine calls_go (N := 9) (args := [v0, v1]) Tryz.func184 rfl rfl rfl ?_
 refine FW.seq (FW.region ?_)
 refine FL.v (E.assign (v := Value.bool false) rfl) ?_
 refine FL.nil (FW.seq (FW.region ?_))
 refine FL.v (E.move (v := v0) rfl) ?_
 refine FL.v (E.move (v := v1) rfl) ?_
 obtain ⟨r21, hr22, hp⟩ := bnd hp
 refine FL.call rfl rfl rfl (E.call Tryz.call236 (A2 rfl rfl)) (w_slices_IndexFunc_LLint_Lint S0.sl v0 a0 p0 v1 a1 p1 hr22) ?_
 rintro e w23 ⟨rfl, r24⟩
 refine ⟨_, rfl, ?_⟩
 have S25 := S0.call r24
 refine FL.v (E.geq rfl rfl) ?_
 refine FL.v (E.assign (v := Value.bool (decide (0 ≤ r21))) rfl) ?_
 refine FL.nil ?_
 refine FW.ret ?_
 obtain rfl := Option.some.inj hp
 exact ⟨.inr rfl, res1 rfl rfl ⟨rfl, S25.back⟩⟩

theorem w_slices_IndexFunc_int_int {Ha : GH} {wa : World} (hs : Sl Ha wa) (v0 : Value) (a0 : List Int) (p0 : RSl Ha eI 1 v0 a0) (v1 : Value) (a1 : Int → Option Bool) (p1 : Fn_I_to_B Tryz.prog Ha v1 a1) {r : Int} (hp : (PF.slices_IndexFunc_int_int a0 a1) = some r) :
  Calls Tryz.prog 258 #[v0, v1] wa (Sc Ha wa (Value.int .i64 r)) := by
 unfold PF.slices_IndexFunc_int_int at hp
 have S0 := St.init hs
 refine calls_go (N := 19) (args := [v0, v1]) Tryz.func258 rfl rfl rfl ?_
 refine FW.seq (FW.region ?_)
 refine FL.v (E.assign (v := Value.int .i64 0) rfl) ?_
 refine FL.nil (FW.seq (FW.seq (FW.region ?_)))
 refine FL.v (E.move (v := v0) rfl) ?_
 refine FL.v (E.lenP te82 rfl p0) ?_
 refine FL.v (E.move (v := Value.int .i64 0) rfl) ?_
 refine FL.nil ?_
 obtain ⟨q22, hq, hp⟩ := bndR hp
 refine FW.block ?_
 refine FW.mono (FW.forL (S := Unit) (X := Int) (fun (i22 : Nat) (s22 : Unit) f w => ∃ H : GH, St Ha wa H w [] ∧ Inc Ha H ∧ f 8 = Value.int .i64 ((i22 : Nat) : Int) ∧ f 0 = v0 ∧ f 1 = v1 ∧ f 7 = Value.int .i64 (len a0)) (fun q e f w => match q with | .go s22 => e = Exit.exit 0 ∧ (∃ H : GH, St Ha wa H w [] ∧ Inc Ha H) | .rt x => ((e = Exit.ret) ∧ (fun e f w => (e = Exit.normal ∨ e = Exit.ret) ∧ ∀ a, Fr (δ := []) 19 a f → ∃ v, (results Tryz.f258 a.tmps).run Tryz.prog w = .ok v w ∧ (Sc Ha wa (Value.int .i64 x)) (.returned v) w) e f w)) hq ⟨_, S0, (Inc.rfl _), rfl, rfl, rfl, rfl⟩ ?_ ?_) ?_
 ·
  clear hp hq
  rintro i22 y21 s22 f53 w52 ⟨H49, S50, i51, k54, k55, k56, k57⟩ hx22 o75 hp
  refine FW.seq (FW.region ?_)
  refine FL.v (E.lssT k54 k57 (lss_len hx22)) ?_
  refine FL.nil (FW.seq ?_)
  refine FW.condT rfl rfl ?_
  refine FW.skip (FW.seq (FW.block (FW.seq (FW.region ?_))))
  refine FL.v (E.move k54) ?_
  refine FL.v (E.assign (v := Value.int .i64 ((i22 : Nat) : Int)) rfl) ?_
  refine FL.nil (FW.seq (FW.region ?_))
  refine FL.v (E.move k56) ?_
  refine FL.v (E.move k55) ?_
  refine FL.v (E.move (v := Value.int .i64 ((i22 : Nat) : Int)) rfl) ?_
  obtain ⟨p58, cs59, pt60, l61, at62, rel63⟩ := p0.at (ix_nat hx22)
  obtain rfl := eI_open rel63
  refine FL.v (E.indexAddr te82 rfl rfl pt60) ?_
  refine FL.v (E.load rfl (run_load0 Tryz.isAgg3 ((at62.mono i51).now S50.sl) rfl)) ?_
  obtain ⟨r64, hr65, hp⟩ := bnd hp
  obtain ⟨fi69, cs70, hv71, he72, hc73⟩ := (p1.mono i51) H49 w52 (Inc.rfl _) S50.sl y21 r64 hr65
  refine FL.call rfl rfl rfl (E.callV he72 (Eq.trans rfl hv71) (appA (A1 rfl) cs70)) hc73 ?_
  rintro e w66 ⟨rfl, r67⟩
  refine ⟨_, rfl, ?_⟩
  have S68 := S50.call r67
  refine FL.nil ?_
  rcases ifB hp with ⟨c74, hp⟩ | ⟨c74, hp⟩
  ·
   refine FW.condT rfl c74 ?_
   refine FW.seq (FW.region ?_)
   refine FL.v (E.move (v := Value.int .i64 ((i22 : Nat) : Int)) rfl) ?_
   refine FL.v (E.assign (v := Value.int .i64 ((i22 : Nat) : Int)) rfl) ?_
   refine FL.nil ?_
   refine FW.ret ?_
   obtain rfl := Option.some.inj hp
   exact ⟨nofun, rfl, ⟨.inr rfl, res1 rfl rfl ⟨rfl, S68.back⟩⟩⟩
  ·
   refine FW.condF rfl c74 ?_
   refine FW.skip (FW.region ?_)
   refine FL.v (E.add k54 rfl) ?_
   refine FL.v (E.move (v := Value.int .i64 (wr (((i22 : Nat) : Int) + 1))) rfl) ?_
   refine FL.nil ?_
   obtain rfl := Option.some.inj hp
   exact ⟨rfl, ⟨_, S68, i51, (nat_succ rfl (lt_of_get hx22) (p0.mono i51).le), k55, k56, k57⟩⟩
 ·
  clear hp hq
  rintro s22 f85 w84 ⟨H81, S82, i83, k86, k87, k88, k89⟩
  refine FW.seq (FW.region ?_)
  refine FL.v (E.lss k86 k89) ?_
  refine FL.nil (FW.seq ?_)
  refine FW.condF rfl dlt_len ?_
  refine FW.exit ?_
  exact ⟨nofun, rfl, ⟨_, S82, i83⟩⟩
 ·
  clear hq
  intro e f80 w79 hD
  rcases q22 with s22 | x22
  ·
   obtain ⟨rfl, hD⟩ := hD
   obtain ⟨H76, S77, i78⟩ := hD
   replace hp := el_go hp
   refine FW.seq (FW.region ?_)
   refine FL.v (E.assign (v := Value.int .i64 (-1)) rfl) ?_
   refine FL.nil ?_
   refine FW.ret ?_
   obtain rfl := Option.some.inj hp
   exact ⟨.inr rfl, res1 rfl rfl ⟨rfl, S77.back⟩⟩
  ·
   obtain ⟨he, hL⟩ := hD
   replace hp := el_rt hp
   obtain rfl := Option.some.inj hp
   subst he
   exact hL

theorem w_slices_ContainsFunc_int_int {Ha : GH} {wa : World} (hs : Sl Ha wa) (v0 : Value) (a0 : List Int) (p0 : RSl Ha eI 1 v0 a0) (v1 : Value) (a1 : Int → Option Bool) (p1 : Fn_I_to_B Tryz.prog Ha v1 a1) {r : Bool} (hp : (PF.slices_ContainsFunc_int_int a0 a1) = some r) :
  Calls Tryz.prog 237 #[v0, v1] wa (Sc Ha wa (Value.bool r)) := by
 unfold PF.slices_ContainsFunc_int_int at hp
 have S0 := St.init hs
 refine calls_go (N := 9) (args := [v0, v1]) Tryz.func237 rfl rfl rfl ?_
 refine FW.seq (FW.region ?_)
 refine FL.v (E.assign (v := Value.bool false) rfl) ?_
 refine FL.nil (FW.seq (FW.region ?_))
 refine FL.v (E.move (v := v0) rfl) ?_
 refine FL.v (E.move (v := v1) rfl) ?_
 obtain ⟨r21, hr22, hp⟩ := bnd hp
 refine FL.call rfl rfl rfl (E.call Tryz.call258 (A2 rfl rfl)) (w_slices_IndexFunc_int_int S0.sl v0 a0 p0 v1 a1 p1 hr22) ?_
 rintro e w23 ⟨rfl, r24⟩
 refine ⟨_, rfl, ?_⟩
 have S25 := S0.call r24
 refine FL.v (E.geq rfl rfl) ?_
 refine FL.v (E.assign (v := Value.bool (decide (0 ≤ r21))) rfl) ?_
 refine FL.nil ?_
 refine FW.ret ?_
 obtain rfl := Option.some.inj hp
 exact ⟨.inr rfl, res1 rfl rfl ⟨rfl, S25.back⟩⟩

theorem w_impl_holds_1 {Ha : GH} {wa : World} (hs : Sl Ha wa) (a0 : Int) (q0 : Addr) (b0 : Int) (c0 : CAt Ha q0 [Value.int .i64 b0]) {r : Bool} (hp : (PF.impl_holds_1 a0 b0) = some r) :
  Calls Tryz.prog 238 #[Value.int .i64 a0, Value.pointer (some q0)] wa (Sc Ha wa (Value.bool r)) := by
 unfold PF.impl_holds_1 at hp
 have S0 := St.init hs
 refine calls_go (N := 14) (args := [Value.int .i64 a0, Value.pointer (some q0)]) Tryz.func238 rfl rfl rfl ?_
 refine FW.seq (FW.region ?_)
 refine FL.v (E.assign (v := Value.bool false) rfl) ?_
 refine FL.nil (FW.seq ?_)
 refine FW.draw (fun w' => Run wa.heap.size Ha wa Ha w') (by kernel_rfl) (by kernel_rfl) (run_drew S0.sl) ?_
 refine FD.val rfl rfl rfl (fun w' hw' => (E.load rfl (run_load0 Tryz.isAgg3 (c0.now (S0.call hw').sl) rfl))) ?_
 refine FD.val rfl rfl rfl (fun w' hw' => (E.move (v := Value.int .i64 a0) rfl)) ?_
 refine FD.call rfl rfl rfl (fun w' hw' => (E.call Tryz.call180 (A1 rfl))) (fun w' hw' => Calls.cls hw' (w_impl_abs (S0.call hw').sl a0)) ?_
 refine FD.val rfl rfl rfl (fun w' hw' => (E.sub rfl rfl)) ?_
 obtain ⟨u23, z22, hp⟩ := bnd hp
 refine FD.val rfl rfl rfl (fun w' hw' => (E.shr rfl rfl (nn_ge z22))) ?_
 refine FD.val rfl rfl rfl (fun w' hw' => (E.and rfl rfl)) ?_
 refine FD.val rfl rfl rfl (fun w' hw' => (E.eql rfl rfl)) ?_
 refine FD.val rfl rfl rfl (fun w' hw' => (E.move (v := Value.int .i64 a0) rfl)) ?_
 refine FD.val rfl rfl rfl (fun w' hw' => (E.gtr rfl rfl)) ?_
 refine FD.val rfl rfl rfl (fun w' hw' => (E.eqlB Tryz.runUnderlying4 rfl rfl)) ?_
 refine FD.val rfl rfl rfl (fun w' hw' => (E.assign (v := Value.bool (((andK true 64 (shrK 64 b0 (wr ((PF.impl_abs a0) - 1))) 1) == 1) == (decide (0 < a0)))) rfl)) ?_
 refine FD.nil ?_
 intro w24 r26
 have S25 := S0.call r26
 refine FW.ret ?_
 obtain rfl := Option.some.inj hp
 exact ⟨.inr rfl, res1 rfl rfl ⟨rfl, S25.back⟩⟩

theorem w_impl_holds {Ha : GH} {wa : World} (hs : Sl Ha wa) (v0 : Value) (a0 : List Int) (p0 : RSl Ha eI 1 v0 a0) (a1 : Int) {r : Bool} (hp : (PF.impl_holds a0 a1) = some r) :
  Calls Tryz.prog 186 #[v0, Value.int .i64 a1] wa (Sc Ha wa (Value.bool r)) := by
 unfold PF.impl_holds at hp
 have S0 := St.init hs
 refine calls_go (N := 8) (args := [v0, Value.int .i64 a1]) Tryz.func186 rfl rfl rfl ?_
 refine FW.seq (FW.region ?_)
 obtain ⟨b21, w22, run23, S24⟩ := S0.box (P := Tryz.prog) 3 [Value.int .i64 a1] (v := Value.int .i64 a1) rfl (ones_cons rfl ones_nil)
 refine FL.v (E.box rfl run23) ?_
 obtain ⟨H25, S26, i27, at28⟩ := S24.sealBox (i := 0) (l' := []) rfl rfl
 refine FL.v (E.assign (v := Value.bool false) rfl) ?_
 refine FL.nil (FW.seq (FW.region ?_))
 refine FL.v (E.move (v := v0) rfl) ?_
 refine FL.v (E.makeFunc A0 (A1 rfl)) ?_
 obtain ⟨r29, hr30, hp⟩ := bnd hp
 refine FL.call rfl rfl rfl (E.call Tryz.call237 (A2 rfl rfl)) (w_slices_ContainsFunc_int_int S26.sl v0 a0 (p0.mono i27) (Value.func (.func 238) #[] #[Value.pointer (some ⟨b21, 0, none⟩)]) (fun x0 => PF.impl_holds_1 x0 a1) (fun H2 w2 hi2 hs2 x0 r hr => ⟨238, #[Value.pointer (some ⟨b21, 0, none⟩)], rfl, Tryz.call238, w_impl_holds_1 hs2 x0 ⟨b21, 0, none⟩ a1 (at28.mono hi2) hr⟩) hr30) ?_
 rintro e w31 ⟨rfl, r32⟩
 refine ⟨_, rfl, ?_⟩
 have S33 := S26.call r32
 refine FL.v (E.assign (v := Value.bool r29) rfl) ?_
 refine FL.nil ?_
 refine FW.ret ?_
 obtain rfl := Option.some.inj hp
 exact ⟨.inr rfl, res1 rfl rfl ⟨rfl, S33.back⟩⟩

theorem w_impl_isModel_1 {Ha : GH} {wa : World} (hs : Sl Ha wa) (v0 : Value) (a0 : List Int) (p0 : RSl Ha eI 1 v0 a0) (q0 : Addr) (b0 : Int) (c0 : CAt Ha q0 [Value.int .i64 b0]) {r : Bool} (hp : (PF.impl_isModel_1 a0 b0) = some r) :
  Calls Tryz.prog 185 #[v0, Value.pointer (some q0)] wa (Sc Ha wa (Value.bool r)) := by
 unfold PF.impl_isModel_1 at hp
 have S0 := St.init hs
 refine calls_go (N := 8) (args := [v0, Value.pointer (some q0)]) Tryz.func185 rfl rfl rfl ?_
 refine FW.seq (FW.region ?_)
 refine FL.v (E.assign (v := Value.bool false) rfl) ?_
 refine FL.nil (FW.seq (FW.region ?_))
 refine FL.v (E.move (v := v0) rfl) ?_
 refine FL.v (E.load rfl (run_load0 Tryz.isAgg3 (c0.now S0.sl) rfl)) ?_
 obtain ⟨r21, hr22, hp⟩ := bnd hp
 refine FL.call rfl rfl rfl (E.call Tryz.call186 (A2 rfl rfl)) (w_impl_holds S0.sl v0 a0 p0 b0 hr22) ?_
 rintro e w23 ⟨rfl, r24⟩
 refine ⟨_, rfl, ?_⟩
 have S25 := S0.call r24
 refine FL.v (E.not rfl) ?_
 refine FL.v (E.assign (v := Value.bool (!r21)) rfl) ?_
 refine FL.nil ?_
 refine FW.ret ?_
 obtain rfl := Option.some.inj hp
 exact ⟨.inr rfl, res1 rfl rfl ⟨rfl, S25.back⟩⟩

theorem w_impl_isModel {Ha : GH} {wa : World} (hs : Sl Ha wa) (v0 : Value) (a0 : List (List Int)) (p0 : RSl Ha (eL eI 1) 1 v0 a0) (a1 : Int) {r : Bool} (hp : (PF.impl_isModel a0 a1) = some r) :
  Calls Tryz.prog 143 #[v0, Value.int .i64 a1] wa (Sc Ha wa (Value.bool r)) := by
 unfold PF.impl_isModel at hp
 have S0 := St.init hs
 refine calls_go (N := 9) (args := [v0, Value.int .i64 a1]) Tryz.func143 rfl rfl rfl ?_
 refine FW.seq (FW.region ?_)
 obtain ⟨b21, w22, run23, S24⟩ := S0.box (P := Tryz.prog) 3 [Value.int .i64 a1] (v := Value.int .i64 a1) rfl (ones_cons rfl ones_nil)
 refine FL.v (E.box rfl run23) ?_
 obtain ⟨H25, S26, i27, at28⟩ := S24.sealBox (i := 0) (l' := []) rfl rfl
 refine FL.v (E.assign (v := Value.bool false) rfl) ?_
 refine FL.nil (FW.seq (FW.region ?_))
 refine FL.v (E.move (v := v0) rfl) ?_
 refine FL.v (E.makeFunc A0 (A1 rfl)) ?_
 obtain ⟨r29, hr30, hp⟩ := bnd hp
 refine FL.call rfl rfl rfl (E.call Tryz.call184 (A2 rfl rfl)) (w_slices_ContainsFunc_LLint_Lint S26.sl v0 a0 (p0.mono i27) (Value.func (.func 185) #[] #[Value.pointer (some ⟨b21, 0, none⟩)]) (fun x0 => PF.impl_isModel_1 x0 a1) (fun H2 w2 hi2 hs2 x0 y0 z0 r hr => ⟨185, #[Value.pointer (some ⟨b21, 0, none⟩)], rfl, Tryz.call185, w_impl_isModel_1 hs2 y0 x0 z0 ⟨b21, 0, none⟩ a1 (at28.mono hi2) hr⟩) hr30) ?_
 rintro e w31 ⟨rfl, r32⟩
 refine ⟨_, rfl, ?_⟩
 have S33 := S26.call r32
 refine FL.v (E.not rfl) ?_
 refine FL.v (E.assign (v := Value.bool (!r29)) rfl) ?_
 refine FL.nil ?_
 refine FW.ret ?_
 obtain rfl := Option.some.inj hp
 exact ⟨.inr rfl, res1 rfl rfl ⟨rfl, S33.back⟩⟩

set_option maxHeartbeats 4000000 in
theorem w_impl_CountCnfModels {Ha : GH} {wa : World} (hs : Sl Ha wa) (a0 : Cnf) (v0_1 : Value) (p0_1 : RSl Ha (eL eI 1) 1 v0_1 a0.clauses) {r : (Int × Bool)} (hp : (PF.impl_CountCnfModels a0) = some r) :
  Calls Tryz.prog 41 #[Value.agg #[Value.int .i64 a0.vars, v0_1]] wa (Sc Ha wa (Value.tuple #[Value.int .i64 r.1, Value.bool r.2])) := by
 unfold PF.impl_CountCnfModels at hp
 have S0 := St.init hs
 refine calls_go (N := 12) (args := [Value.agg #[Value.int .i64 a0.vars, v0_1]]) Tryz.func41 rfl rfl rfl ?_
 refine FW.seq (FW.region ?_)
 obtain ⟨b21, w22, run23, S24⟩ := S0.box (P := Tryz.prog) 46 [Value.int .i64 a0.vars, v0_1] (v := Value.agg #[Value.int .i64 a0.vars, v0_1]) rfl (ones_cons rfl (ones_cons p0_1.one ones_nil))
 refine FL.v (E.box rfl run23) ?_
 obtain ⟨H25, S26, i27, at28⟩ := S24.sealBox (i := 0) (l' := []) rfl rfl
 refine FL.v (E.assign (v := Value.int .i64 0) rfl) ?_
 refine FL.v (E.assign (v := Value.bool false) rfl) ?_
 refine FL.nil (FW.seq (FW.seq (FW.region ?_)))
 refine FL.v (E.load rfl (run_loadA Tryz.isAgg46 Tryz.sizeOf46 (at28.now S26.sl) rfl)) ?_
 obtain ⟨r29, hr30, hp⟩ := bnd hp
 refine FL.call rfl rfl rfl (E.call Tryz.call93 (A1 rfl)) (w_impl_IsCnf S26.sl a0 v0_1 (p0_1.mono i27) hr30) ?_
 rintro e w31 ⟨rfl, r32⟩
 refine ⟨_, rfl, ?_⟩
 have S33 := S26.call r32
 refine FL.v (E.not rfl) ?_
 refine FL.nil ?_
 rcases ifB hp with ⟨c34, hp⟩ | ⟨c34, hp⟩
 ·
  refine FW.condT rfl c34 ?_
  refine FW.seq (FW.region ?_)
  refine FL.v (E.assign (v := Value.int .i64 0) rfl) ?_
  refine FL.v (E.assign (v := Value.bool false) rfl) ?_
  refine FL.nil ?_
  refine FW.ret ?_
  obtain rfl := Option.some.inj hp
  exact ⟨.inr rfl, res2 rfl rfl rfl ⟨rfl, S33.back⟩⟩
 ·
  refine FW.condF rfl c34 ?_
  refine FW.skip (FW.seq (FW.region ?_))
  obtain ⟨b35, w36, run37, S38⟩ := S33.alloc (P := Tryz.prog) 3 [Value.int .i64 0] Tryz.zeroValue3 rfl (ones_cons rfl ones_nil)
  refine FL.v (E.alloc run37) ?_
  obtain ⟨w39, run40, S41⟩ := S38.store0 (P := Tryz.prog) (t := 3) (i := 0) (cs' := [Value.int .i64 0]) (l' := [.box b35 3 [Value.int .i64 0]]) (v := Value.int .i64 0) (c := [Value.int .i64 0]) rfl Tryz.sizeOf3 rfl rfl (ones_cons rfl ones_nil) (Nat.le_of_ble_eq_true rfl) rfl rfl
  refine FL.act rfl rfl (E.store rfl rfl run40) ?_
  refine FL.nil (FW.seq (FW.region ?_))
  refine FL.v (E.load rfl (run_loadA Tryz.isAgg46 Tryz.sizeOf46 (at28.now S41.sl) rfl)) ?_
  refine FL.v (E.makeFunc A0 (A1 rfl)) ?_
  obtain ⟨s158, hq158, hp⟩ := bnd hp
  obtain ⟨R158, hR158⟩ : ∃ R158 : Int → Ending → World → Prop, R158 = (fun s158 e w => ∃ H : GH, e = Ending.returned (Value.tuple #[]) ∧ St Ha wa H w [.box b35 3 [Value.int .i64 s158]] ∧ Inc H25 H) := ⟨_, rfl⟩
  have hc158 : Calls Tryz.prog 94 #[Value.agg #[Value.int .i64 a0.vars, v0_1], Value.func (.func 95) #[] #[Value.pointer (some (⟨b35, 0, none⟩ : Addr))]] w39 (R158 s158) := by
   clear hp; have hp := hq158; clear hq158
   refine calls_go (N := 22) (args := [Value.agg #[Value.int .i64 a0.vars, v0_1], Value.func (.func 95) #[] #[Value.pointer (some (⟨b35, 0, none⟩ : Addr))]]) Tryz.func94 rfl rfl rfl ?_
   refine FW.seq (FW.region ?_)
   obtain ⟨b159, w160, run161, S162⟩ := S41.box (P := Tryz.prog) 46 [Value.int .i64 a0.vars, v0_1] (v := Value.agg #[Value.int .i64 a0.vars, v0_1]) rfl (ones_cons rfl (ones_cons p0_1.one ones_nil))
   refine FL.v (E.box rfl run161) ?_
   obtain ⟨H163, S164, i165, at166⟩ := S162.sealBox (i := 0) (l' := [.box b35 3 [Value.int .i64 0]]) rfl rfl
   refine FL.nil (FW.seq (FW.region ?_))
   refine FL.v (E.fieldAddr tf46_0 rfl) ?_
   refine FL.v (E.load rfl (run_load1 Tryz.isAgg3 (at166.now S164.sl) rfl)) ?_
   obtain ⟨u168, z167, hp⟩ := bnd hp
   refine FL.v (E.shl rfl rfl (nn_ge z167)) ?_
   refine FL.v (E.move (v := Value.int .i64 0) rfl) ?_
   refine FL.nil ?_
   obtain ⟨m169, hchk170, hp⟩ := bnd hp
   obtain ⟨q170, hq, hp⟩ := bndR hp
   refine FW.block ?_
   refine FW.mono (FW.forR (S := Int) (X := Int) (fun (i170 : Nat) (s170 : Int) f w => ∃ H : GH, St Ha wa H w [.box b35 3 [Value.int .i64 s170]] ∧ Inc H163 H ∧ f 8 = Value.int .i64 ((i170 : Nat) : Int) ∧ f 1 = Value.func (.func 95) #[] #[Value.pointer (some (⟨b35, 0, none⟩ : Addr))] ∧ f 2 = Value.pointer (some ⟨b159, 0, none⟩) ∧ f 7 = Value.int .i64 (shlK true 64 1 a0.vars)) (fun q e f w => match q with | .go s170 => e = Exit.exit 0 ∧ (∃ H : GH, St Ha wa H w [.box b35 3 [Value.int .i64 s170]] ∧ Inc H163 H) | .rt x => ((e = Exit.ret) ∧ (fun e f w => (e = Exit.normal ∨ e = Exit.ret) ∧ ∀ a, Fr (δ := []) 22 a f → ∃ v, (results Tryz.f94 a.tmps).run Tryz.prog w = .ok v w ∧ R158 x (.returned v) w) e f w)) hq ⟨_, S164, (Inc.rfl _), rfl, rfl, rfl, rfl⟩ ?_ ?_) ?_
   ·
    clear hp hq
    rintro i170 s170 f265 w264 ⟨H261, S262, i263, k266, k267, k268, k269⟩ hi170 hj170 o312 hp
    refine FW.seq (FW.region ?_)
    refine FL.v (E.lssT k266 k269 (lss_chk hj170 hchk170)) ?_
    refine FL.nil (FW.seq ?_)
    refine FW.condT rfl rfl ?_
    refine FW.skip (FW.seq (FW.block (FW.seq (FW.region ?_))))
    refine FL.v (E.move k266) ?_
    refine FL.v (E.assign (v := Value.int .i64 ((i170 : Nat) : Int)) rfl) ?_
    refine FL.nil (FW.seq (FW.region ?_))
    refine FL.v (E.fieldAddr tf46_1 k268) ?_
    refine FL.v (E.load rfl (run_load1 Tryz.isAgg44 ((at166.mono i263).now S262.sl) rfl)) ?_
    refine FL.v (E.move (v := Value.int .i64 ((i170 : Nat) : Int)) rfl) ?_
    obtain ⟨r270, hr271, hp⟩ := bnd hp
    refine FL.call rfl rfl rfl (E.call Tryz.call143 (A2 rfl rfl)) (w_impl_isModel S262.sl v0_1 a0.clauses (p0_1.mono ((i27.tr i165).tr i263)) ((i170 : Nat) : Int) hr271) ?_
    rintro e w272 ⟨rfl, r273⟩
    refine ⟨_, rfl, ?_⟩
    have S274 := S262.call r273
    refine FL.v (E.move (v := Value.bool r270) rfl) ?_
    obtain ⟨t287, hqt287, hp⟩ := bnd hp
    refine FL.cut 5 (fun f w => ∃ H : GH, St Ha wa H w [.box b35 3 [Value.int .i64 t287.1]] ∧ Inc H261 H ∧ f 1 = Value.func (.func 95) #[] #[Value.pointer (some (⟨b35, 0, none⟩ : Addr))] ∧ f 2 = Value.pointer (some ⟨b159, 0, none⟩) ∧ f 7 = Value.int .i64 (shlK true 64 1 a0.vars) ∧ f 8 = Value.int .i64 ((i170 : Nat) : Int) ∧ f 20 = Value.bool t287.2) ?_ ?_
    ·
     clear hp; have hp := hqt287; clear hqt287
     rcases ifB hp with ⟨c288, hp⟩ | ⟨c288, hp⟩
     ·
      refine FL.val (wF_yes rfl rfl rfl c288) rfl rfl (E.move k267) ?_
      refine FL.val (wF_yes rfl rfl rfl c288) rfl rfl (E.move (v := Value.int .i64 ((i170 : Nat) : Int)) rfl) ?_
      obtain ⟨s292, hq292, hp⟩ := bnd hp
      obtain ⟨R292, hR292⟩ : ∃ R292 : (Int × Bool) → Ending → World → Prop, R292 = (fun s292 e w => ∃ H : GH, e = Ending.returned (Value.bool s292.2) ∧ St Ha wa H w [.box b35 3 [Value.int .i64 s292.1]] ∧ Inc H261 H) := ⟨_, rfl⟩
      have hc292 : Calls Tryz.prog 95 #[Value.int .i64 ((i170 : Nat) : Int), Value.pointer (some (⟨b35, 0, none⟩ : Addr))] w272 (R292 s292) := by
       clear hp; have hp := hq292; clear hq292
       refine calls_go (N := 6) (args := [Value.int .i64 ((i170 : Nat) : Int), Value.pointer (some (⟨b35, 0, none⟩ : Addr))]) Tryz.func95 rfl rfl rfl ?_
       refine FW.seq (FW.region ?_)
       refine FL.v (E.assign (v := Value.bool false) rfl) ?_
       refine FL.nil (FW.seq (FW.region ?_))
       refine FL.v (E.load rfl (run_load0 Tryz.isAgg3 (S274.box_now (i := 0) rfl) rfl)) ?_
       refine FL.v (E.add rfl rfl) ?_
       obtain ⟨w293, run294, S295⟩ := S274.store0 (P := Tryz.prog) (t := 3) (i := 0) (cs' := [Value.int .i64 (wr (s170 + 1))]) (l' := [.box b35 3 [Value.int .i64 (wr (s170 + 1))]]) (v := Value.int .i64 (wr (s170 + 1))) (c := [Value.int .i64 (wr (s170 + 1))]) rfl Tryz.sizeOf3 rfl rfl (ones_cons rfl ones_nil) (Nat.le_of_ble_eq_true rfl) rfl rfl
       refine FL.act rfl rfl (E.store rfl rfl run294) ?_
       refine FL.nil (FW.seq (FW.region ?_))
       refine FL.v (E.assign (v := Value.bool true) rfl) ?_
       refine FL.nil ?_
       refine FW.ret ?_
       obtain rfl := Option.some.inj hp
       exact ⟨.inr rfl, res1 rfl rfl (by rw [hR292]; exact ⟨_, rfl, S295, (Inc.rfl _)⟩)⟩
      clear hq292
      refine FL.call (wF_yes rfl rfl rfl c288) rfl rfl (E.callV Tryz.call95 rfl (appA (A1 rfl) #[Value.pointer (some (⟨b35, 0, none⟩ : Addr))])) hc292 ?_
      intro e w299 hQ292
      rw [hR292] at hQ292
      obtain ⟨H296, rfl, S297, i298⟩ := hQ292
      refine ⟨_, rfl, ?_⟩
      refine FL.val (wF_yes rfl rfl rfl c288) rfl rfl (E.not rfl) ?_
      refine FL.v (E.pickT rfl c288 rfl) ?_
      obtain rfl := Option.some.inj hp
      exact FL.nil ⟨rfl, ⟨_, S297, i298, k267, k268, k269, k266, rfl⟩⟩
     ·
      refine FL.skip (wF_no rfl rfl rfl c288) rfl ?_
      refine FL.skip (wF_no rfl rfl rfl c288) rfl ?_
      refine FL.skip (wF_no rfl rfl rfl c288) rfl ?_
      refine FL.skip (wF_no rfl rfl rfl c288) rfl ?_
      refine FL.v (E.pickF rfl c288 rfl) ?_
      obtain rfl := Option.some.inj hp
      exact FL.nil ⟨rfl, ⟨_, S274, (Inc.rfl _), k267, k268, k269, k266, rfl⟩⟩
    clear hqt287
    rintro f305 w304 ⟨H301, S302, i303, k306, k307, k308, k309, k310⟩
    refine FL.nil ?_
    rcases ifB hp with ⟨c311, hp⟩ | ⟨c311, hp⟩
    ·
     refine FW.condT k310 c311 ?_
     refine FW.ret ?_
     obtain rfl := Option.some.inj hp
     exact ⟨nofun, rfl, ⟨.inr rfl, res0 rfl (by rw [hR158]; exact ⟨_, rfl, S302, ((i165.tr i263).tr i303)⟩)⟩⟩
    ·
     refine FW.condF k310 c311 ?_
     refine FW.skip (FW.region ?_)
     refine FL.v (E.add k309 rfl) ?_
     refine FL.v (E.move (v := Value.int .i64 (wr (((i170 : Nat) : Int) + 1))) rfl) ?_
     refine FL.nil ?_
     obtain rfl := Option.some.inj hp
     exact ⟨rfl, ⟨_, S302, (i263.tr i303), (nat_succ rfl hj170 (chk_le hchk170)), k306, k307, k308⟩⟩
   ·
    clear hp hq
    rintro s170 f322 w321 ⟨H318, S319, i320, k323, k324, k325, k326⟩
    refine FW.seq (FW.region ?_)
    refine FL.v (E.lss k323 k326) ?_
    refine FL.nil (FW.seq ?_)
    refine FW.condF rfl (dlt_maxchk hchk170) ?_
    refine FW.exit ?_
    exact ⟨nofun, rfl, ⟨_, S319, i320⟩⟩
   ·
    clear hq
    intro e f317 w316 hD
    rcases q170 with s170 | x170
    ·
     obtain ⟨rfl, hD⟩ := hD
     obtain ⟨H313, S314, i315⟩ := hD
     replace hp := el_go hp
     obtain rfl := Option.some.inj hp
     exact ⟨.inl rfl, res0 rfl (by rw [hR158]; exact ⟨_, rfl, S314, (i165.tr i315)⟩)⟩
    ·
     obtain ⟨he, hL⟩ := hD
     replace hp := el_rt hp
     obtain rfl := Option.some.inj hp
     subst he
     exact hL
  clear hq158
  refine FL.call rfl rfl rfl (E.call Tryz.call94 (A2 rfl rfl)) hc158 ?_
  intro e w330 hQ158
  rw [hR158] at hQ158
  obtain ⟨H327, rfl, S328, i329⟩ := hQ158
  refine ⟨_, rfl, ?_⟩
  refine FL.nil (FW.seq (FW.region ?_))
  refine FL.v (E.load rfl (run_load0 Tryz.isAgg3 (S328.box_now (i := 0) rfl) rfl)) ?_
  refine FL.v (E.assign (v := Value.int .i64 s158) rfl) ?_
  refine FL.v (E.assign (v := Value.bool true) rfl) ?_
  refine FL.nil ?_
  refine FW.ret ?_
  obtain rfl := Option.some.inj hp
  exact ⟨.inr rfl, res2 rfl rfl rfl ⟨rfl, S328.back⟩⟩

set_option maxHeartbeats 4000000 in
theorem w_impl_satisfiable {Ha : GH} {wa : World} (hs : Sl Ha wa) (a0 : Int) (v1 : Value) (a1 : List (List Int)) (p1 : RSl Ha (eL eI 1) 1 v1 a1) {r : Bool} (hp : (PF.impl_satisfiable a0 a1) = some r) :
  Calls Tryz.prog 96 #[Value.int .i64 a0, v1] wa (Sc Ha wa (Value.bool r)) := by
 unfold PF.impl_satisfiable at hp
 have S0 := St.init hs
 refine calls_go (N := 12) (args := [Value.int .i64 a0, v1]) Tryz.func96 rfl rfl rfl ?_
 refine FW.seq (FW.region ?_)
 refine FL.v (E.assign (v := Value.bool false) rfl) ?_
 refine FL.nil (FW.seq (FW.region ?_))
 obtain ⟨b21, w22, run23, S24⟩ := S0.alloc (P := Tryz.prog) 4 [Value.bool false] Tryz.zeroValue4 rfl (ones_cons rfl ones_nil)
 refine FL.v (E.alloc run23) ?_
 obtain ⟨w25, run26, S27⟩ := S24.store0 (P := Tryz.prog) (t := 4) (i := 0) (cs' := [Value.bool false]) (l' := [.box b21 4 [Value.bool false]]) (v := Value.bool false) (c := [Value.bool false]) rfl Tryz.sizeOf4 rfl rfl (ones_cons rfl ones_nil) (Nat.le_of_ble_eq_true rfl) rfl rfl
 refine FL.act rfl rfl (E.store rfl rfl run26) ?_
 refine FL.nil (FW.seq (FW.region ?_))
 refine FL.v (E.move (v := Value.int .i64 a0) rfl) ?_
 refine FL.v (E.move (v := v1) rfl) ?_
 refine FL.v (E.build (B2 rfl rfl) (run_build _ 46 #[(0, Value.int .i64 a0), (1, v1)] #[Value.int .i64 a0, v1] (by obtain ⟨_, _, rfl⟩ := RSl.ln p1; rfl))) ?_
 refine FL.v (E.makeFunc A0 (A1 rfl)) ?_
 obtain ⟨s144, hq144, hp⟩ := bnd hp
 obtain ⟨R144, hR144⟩ : ∃ R144 : Bool → Ending → World → Prop, R144 = (fun s144 e w => ∃ H : GH, e = Ending.returned (Value.tuple #[]) ∧ St Ha wa H w [.box b21 4 [Value.bool s144]] ∧ Inc Ha H) := ⟨_, rfl⟩
 have hc144 : Calls Tryz.prog 94 #[Value.agg #[Value.int .i64 a0, v1], Value.func (.func 144) #[] #[Value.pointer (some (⟨b21, 0, none⟩ : Addr))]] w25 (R144 s144) := by
  clear hp; have hp := hq144; clear hq144
  refine calls_go (N := 22) (args := [Value.agg #[Value.int .i64 a0, v1], Value.func (.func 144) #[] #[Value.pointer (some (⟨b21, 0, none⟩ : Addr))]]) Tryz.func94 rfl rfl rfl ?_
  refine FW.seq (FW.region ?_)
  obtain ⟨b145, w146, run147, S148⟩ := S27.box (P := Tryz.prog) 46 [Value.int .i64 a0, v1] (v := Value.agg #[Value.int .i64 a0, v1]) rfl (ones_cons rfl (ones_cons p1.one ones_nil))
  refine FL.v (E.box rfl run147) ?_
  obtain ⟨H149, S150, i151, at152⟩ := S148.sealBox (i := 0) (l' := [.box b21 4 [Value.bool false]]) rfl rfl
  refine FL.nil (FW.seq (FW.region ?_))
  refine FL.v (E.fieldAddr tf46_0 rfl) ?_
  refine FL.v (E.load rfl (run_load1 Tryz.isAgg3 (at152.now S150.sl) rfl)) ?_
  obtain ⟨u154, z153, hp⟩ := bnd hp
  refine FL.v (E.shl rfl rfl (nn_ge z153)) ?_
  refine FL.v (E.move (v := Value.int .i64 0) rfl) ?_
  refine FL.nil ?_
  obtain ⟨m155, hchk156, hp⟩ := bnd hp
  obtain ⟨q156, hq, hp⟩ := bndR hp
  refine FW.block ?_
  refine FW.mono (FW.forR (S := Bool) (X := Bool) (fun (i156 : Nat) (s156 : Bool) f w => ∃ H : GH, St Ha wa H w [.box b21 4 [Value.bool s156]] ∧ Inc H149 H ∧ f 8 = Value.int .i64 ((i156 : Nat) : Int) ∧ f 1 = Value.func (.func 144) #[] #[Value.pointer (some (⟨b21, 0, none⟩ : Addr))] ∧ f 2 = Value.pointer (some ⟨b145, 0, none⟩) ∧ f 7 = Value.int .i64 (shlK true 64 1 a0)) (fun q e f w => match q with | .go s156 => e = Exit.exit 0 ∧ (∃ H : GH, St Ha wa H w [.box b21 4 [Value.bool s156]] ∧ Inc H149 H) | .rt x => ((e = Exit.ret) ∧ (fun e f w => (e = Exit.normal ∨ e = Exit.ret) ∧ ∀ a, Fr (δ := []) 22 a f → ∃ v, (results Tryz.f94 a.tmps).run Tryz.prog w = .ok v w ∧ R144 x (.returned v) w) e f w)) hq ⟨_, S150, (Inc.rfl _), rfl, rfl, rfl, rfl⟩ ?_ ?_) ?_
  ·
   clear hp hq
   rintro i156 s156 f251 w250 ⟨H247, S248, i249, k252, k253, k254, k255⟩ hi156 hj156 o298 hp
   refine FW.seq (FW.region ?_)
   refine FL.v (E.lssT k252 k255 (lss_chk hj156 hchk156)) ?_
   refine FL.nil (FW.seq ?_)
   refine FW.condT rfl rfl ?_
   refine FW.skip (FW.seq (FW.block (FW.seq (FW.region ?_))))
   refine FL.v (E.move k252) ?_
   refine FL.v (E.assign (v := Value.int .i64 ((i156 : Nat) : Int)) rfl) ?_
   refine FL.nil (FW.seq (FW.region ?_))
   refine FL.v (E.fieldAddr tf46_1 k254) ?_
   refine FL.v (E.load rfl (run_load1 Tryz.isAgg44 ((at152.mono i249).now S248.sl) rfl)) ?_
   refine FL.v (E.move (v := Value.int .i64 ((i156 : Nat) : Int)) rfl) ?_
   obtain ⟨r256, hr257, hp⟩ := bnd hp
   refine FL.call rfl rfl rfl (E.call Tryz.call143 (A2 rfl rfl)) (w_impl_isModel S248.sl v1 a1 (p1.mono (i151.tr i249)) ((i156 : Nat) : Int) hr257) ?_
   rintro e w258 ⟨rfl, r259⟩
   refine ⟨_, rfl, ?_⟩
   have S260 := S248.call r259
   refine FL.v (E.move (v := Value.bool r256) rfl) ?_
   obtain ⟨t273, hqt273, hp⟩ := bnd hp
   refine FL.cut 5 (fun f w => ∃ H : GH, St Ha wa H w [.box b21 4 [Value.bool t273.1]] ∧ Inc H247 H ∧ f 1 = Value.func (.func 144) #[] #[Value.pointer (some (⟨b21, 0, none⟩ : Addr))] ∧ f 2 = Value.pointer (some ⟨b145, 0, none⟩) ∧ f 7 = Value.int .i64 (shlK true 64 1 a0) ∧ f 8 = Value.int .i64 ((i156 : Nat) : Int) ∧ f 20 = Value.bool t273.2) ?_ ?_
   ·
    clear hp; have hp := hqt273; clear hqt273
    rcases ifB hp with ⟨c274, hp⟩ | ⟨c274, hp⟩
    ·
     refine FL.val (wF_yes rfl rfl rfl c274) rfl rfl (E.move k253) ?_
     refine FL.val (wF_yes rfl rfl rfl c274) rfl rfl (E.move (v := Value.int .i64 ((i156 : Nat) : Int)) rfl) ?_
     obtain ⟨s278, hq278, hp⟩ := bnd hp
     obtain ⟨R278, hR278⟩ : ∃ R278 : (Bool × Bool) → Ending → World → Prop, R278 = (fun s278 e w => ∃ H : GH, e = Ending.returned (Value.bool s278.2) ∧ St Ha wa H w [.box b21 4 [Value.bool s278.1]] ∧ Inc H247 H) := ⟨_, rfl⟩
     have hc278 : Calls Tryz.prog 144 #[Value.int .i64 ((i156 : Nat) : Int), Value.pointer (some (⟨b21, 0, none⟩ : Addr))] w258 (R278 s278) := by
      clear hp; have hp := hq278; clear hq278
      refine calls_go (N := 4) (args := [Value.int .i64 ((i156 : Nat) : Int), Value.pointer (some (⟨b21, 0, none⟩ : Addr))]) Tryz.func144 rfl rfl rfl ?_
      refine FW.seq (FW.region ?_)
      refine FL.v (E.assign (v := Value.bool false) rfl) ?_
      refine FL.nil (FW.seq (FW.region ?_))
      obtain ⟨w279, run280, S281⟩ := S260.store0 (P := Tryz.prog) (t := 4) (i := 0) (cs' := [Value.bool true]) (l' := [.box b21 4 [Value.bool true]]) (v := Value.bool true) (c := [Value.bool true]) rfl Tryz.sizeOf4 rfl rfl (ones_cons rfl ones_nil) (Nat.le_of_ble_eq_true rfl) rfl rfl
      refine FL.act rfl rfl (E.store rfl rfl run280) ?_
      refine FL.nil (FW.seq (FW.region ?_))
      refine FL.v (E.assign (v := Value.bool false) rfl) ?_
      refine FL.nil ?_
      refine FW.ret ?_
      obtain rfl := Option.some.inj hp
      exact ⟨.inr rfl, res1 rfl rfl (by rw [hR278]; exact ⟨_, rfl, S281, (Inc.rfl _)⟩)⟩
     clear hq278
     refine FL.call (wF_yes rfl rfl rfl c274) rfl rfl (E.callV Tryz.call144 rfl (appA (A1 rfl) #[Value.pointer (some (⟨b21, 0, none⟩ : Addr))])) hc278 ?_
     intro e w285 hQ278
     rw [hR278] at hQ278
     obtain ⟨H282, rfl, S283, i284⟩ := hQ278
     refine ⟨_, rfl, ?_⟩
     refine FL.val (wF_yes rfl rfl rfl c274) rfl rfl (E.not rfl) ?_
     refine FL.v (E.pickT rfl c274 rfl) ?_
     obtain rfl := Option.some.inj hp
     exact FL.nil ⟨rfl, ⟨_, S283, i284, k253, k254, k255, k252, rfl⟩⟩
    ·
     refine FL.skip (wF_no rfl rfl rfl c274) rfl ?_
     refine FL.skip (wF_no rfl rfl rfl c274) rfl ?_
     refine FL.skip (wF_no rfl rfl rfl c274) rfl ?_
     refine FL.skip (wF_no rfl rfl rfl c274) rfl ?_
     refine FL.v (E.pickF rfl c274 rfl) ?_
     obtain rfl := Option.some.inj hp
     exact FL.nil ⟨rfl, ⟨_, S260, (Inc.rfl _), k253, k254, k255, k252, rfl⟩⟩
   clear hqt273
   rintro f291 w290 ⟨H287, S288, i289, k292, k293, k294, k295, k296⟩
   refine FL.nil ?_
   rcases ifB hp with ⟨c297, hp⟩ | ⟨c297, hp⟩
   ·
    refine FW.condT k296 c297 ?_
    refine FW.ret ?_
    obtain rfl := Option.some.inj hp
    exact ⟨nofun, rfl, ⟨.inr rfl, res0 rfl (by rw [hR144]; exact ⟨_, rfl, S288, ((i151.tr i249).tr i289)⟩)⟩⟩
   ·
    refine FW.condF k296 c297 ?_
    refine FW.skip (FW.region ?_)
    refine FL.v (E.add k295 rfl) ?_
    refine FL.v (E.move (v := Value.int .i64 (wr (((i156 : Nat) : Int) + 1))) rfl) ?_
    refine FL.nil ?_
    obtain rfl := Option.some.inj hp
    exact ⟨rfl, ⟨_, S288, (i249.tr i289), (nat_succ rfl hj156 (chk_le hchk156)), k292, k293, k294⟩⟩
  ·
   clear hp hq
   rintro s156 f308 w307 ⟨H304, S305, i306, k309, k310, k311, k312⟩
   refine FW.seq (FW.region ?_)
   refine FL.v (E.lss k309 k312) ?_
   refine FL.nil (FW.seq ?_)
   refine FW.condF rfl (dlt_maxchk hchk156) ?_
   refine FW.exit ?_
   exact ⟨nofun, rfl, ⟨_, S305, i306⟩⟩
  ·
   clear hq
   intro e f303 w302 hD
   rcases q156 with s156 | x156
   ·
    obtain ⟨rfl, hD⟩ := hD
    obtain ⟨H299, S300, i301⟩ := hD
    replace hp := el_go hp
    obtain rfl := Option.some.inj hp
    exact ⟨.inl rfl, res0 rfl (by rw [hR144]; exact ⟨_, rfl, S300, (i151.tr i301)⟩)⟩
   ·
    obtain ⟨he, hL⟩ := hD
    replace hp := el_rt hp
    obtain rfl := Option.some.inj hp
    subst he
    exact hL
 clear hq144
 refine FL.call rfl rfl rfl (E.call Tryz.call94 (A2 rfl rfl)) hc144 ?_
 intro e w316 hQ144
 rw [hR144] at hQ144
 obtain ⟨H313, rfl, S314, i315⟩ := hQ144
 refine ⟨_, rfl, ?_⟩
 refine FL.nil (FW.seq (FW.region ?_))
 refine FL.v (E.load rfl (run_load0 Tryz.isAgg4 (S314.box_now (i := 0) rfl) rfl)) ?_
 refine FL.v (E.assign (v := Value.bool s144) rfl) ?_
 refine FL.nil ?_
 refine FW.ret ?_
 obtain rfl := Option.some.inj hp
 exact ⟨.inr rfl, res1 rfl rfl ⟨rfl, S314.back⟩⟩

theorem w_impl_IsSatisfiable {Ha : GH} {wa : World} (hs : Sl Ha wa) (a0 : Cnf) (v0_1 : Value) (p0_1 : RSl Ha (eL eI 1) 1 v0_1 a0.clauses) {r : (Bool × Bool)} (hp : (PF.impl_IsSatisfiable a0) = some r) :
  Calls Tryz.prog 42 #[Value.agg #[Value.int .i64 a0.vars, v0_1]] wa (Sc Ha wa (Value.tuple #[Value.bool r.1, Value.bool r.2])) := by
 unfold PF.impl_IsSatisfiable at hp
 have S0 := St.init hs
 refine calls_go (N := 12) (args := [Value.agg #[Value.int .i64 a0.vars, v0_1]]) Tryz.func42 rfl rfl rfl ?_
 refine FW.seq (FW.region ?_)
 obtain ⟨b21, w22, run23, S24⟩ := S0.box (P := Tryz.prog) 46 [Value.int .i64 a0.vars, v0_1] (v := Value.agg #[Value.int .i64 a0.vars, v0_1]) rfl (ones_cons rfl (ones_cons p0_1.one ones_nil))
 refine FL.v (E.box rfl run23) ?_
 obtain ⟨H25, S26, i27, at28⟩ := S24.sealBox (i := 0) (l' := []) rfl rfl
 refine FL.v (E.assign (v := Value.bool false) rfl) ?_
 refine FL.v (E.assign (v := Value.bool false) rfl) ?_
 refine FL.nil (FW.seq (FW.seq (FW.region ?_)))
 refine FL.v (E.load rfl (run_loadA Tryz.isAgg46 Tryz.sizeOf46 (at28.now S26.sl) rfl)) ?_
 obtain ⟨r29, hr30, hp⟩ := bnd hp
 refine FL.call rfl rfl rfl (E.call Tryz.call93 (A1 rfl)) (w_impl_IsCnf S26.sl a0 v0_1 (p0_1.mono i27) hr30) ?_
 rintro e w31 ⟨rfl, r32⟩
 refine ⟨_, rfl, ?_⟩
 have S33 := S26.call r32
 refine FL.v (E.not rfl) ?_
 refine FL.nil ?_
 rcases ifB hp with ⟨c34, hp⟩ | ⟨c34, hp⟩
 ·
  refine FW.condT rfl c34 ?_
  refine FW.seq (FW.region ?_)
  refine FL.v (E.assign (v := Value.bool false) rfl) ?_
  refine FL.v (E.assign (v := Value.bool false) rfl) ?_
  refine FL.nil ?_
  refine FW.ret ?_
  obtain rfl := Option.some.inj hp
  exact ⟨.inr rfl, res2 rfl rfl rfl ⟨rfl, S33.back⟩⟩
 ·
  refine FW.condF rfl c34 ?_
  refine FW.skip (FW.seq (FW.region ?_))
  refine FL.v (E.fieldAddr tf46_0 rfl) ?_
  refine FL.v (E.load rfl (run_load1 Tryz.isAgg3 (at28.now S33.sl) rfl)) ?_
  refine FL.v (E.fieldAddr tf46_1 rfl) ?_
  refine FL.v (E.load rfl (run_load1 Tryz.isAgg44 (at28.now S33.sl) rfl)) ?_
  obtain ⟨r35, hr36, hp⟩ := bnd hp
  refine FL.call rfl rfl rfl (E.call Tryz.call96 (A2 rfl rfl)) (w_impl_satisfiable S33.sl a0.vars v0_1 a0.clauses (p0_1.mono i27) hr36) ?_
  rintro e w37 ⟨rfl, r38⟩
  refine ⟨_, rfl, ?_⟩
  have S39 := S33.call r38
  refine FL.v (E.assign (v := Value.bool r35) rfl) ?_
  refine FL.v (E.assign (v := Value.bool true) rfl) ?_
  refine FL.nil ?_
  refine FW.ret ?_
  obtain rfl := Option.some.inj hp
  exact ⟨.inr rfl, res2 rfl rfl rfl ⟨rfl, S39.back⟩⟩

@[reducible] def p_impl_FormulaParts (Ha : GH) (wa : World) (r : ((List ByteArray) × Bool)) : Ending → World → Prop :=
 fun e w' => ∃ H' : GH, ∃ v0 : Value, ∃ n0 : Nat, ∃ c0 : List Value, e = .returned (Value.tuple #[v0, Value.bool r.2]) ∧ St Ha wa H' w' [.row 9 1 v0 n0 c0] ∧ Els (up wa.heap.size H') eS 1 c0 r.1
set_option maxHeartbeats 4000000 in
theorem w_impl_FormulaParts {Ha : GH} {wa : World} (hs : Sl Ha wa) (a0 : ByteArray) {r : ((List ByteArray) × Bool)} (hp : (PF.impl_FormulaParts a0) = some r) :
  Calls Tryz.prog 43 #[Value.string a0] wa (p_impl_FormulaParts Ha wa r) := by
 unfold PF.impl_FormulaParts at hp
 have S0 := St.init hs
 refine calls_go (N := 32) (args := [Value.string a0]) Tryz.func43 rfl rfl rfl ?_
 refine FW.seq (FW.region ?_)
 refine FL.v (E.assign (v := Value.slice none 0 0) rfl) ?_
 refine FL.v (E.assign (v := Value.bool false) rfl) ?_
 refine FL.nil (FW.seq (FW.region ?_))
 refine FL.v (E.move (v := Value.string a0) rfl) ?_
 obtain ⟨r21, hr22, hp⟩ := bnd hp
 refine FL.call rfl rfl rfl (E.call Tryz.call78 (A1 rfl)) (w_impl_parse S0.sl a0 hr22) ?_
 rintro e w24 ⟨H23, v27, rfl, r26, h28⟩
 refine ⟨_, rfl, ?_⟩
 have S25 := S0.call r26
 refine FL.v (E.move (v := Value.tuple #[v27, Value.bool r21.2]) rfl) ?_
 refine FL.v (E.extract (i := 0) rfl rfl) ?_
 refine FL.v (E.extract (i := 1) rfl rfl) ?_
 refine FL.v (E.assign (v := v27) rfl) ?_
 refine FL.v (E.assign (v := Value.bool r21.2) rfl) ?_
 refine FL.nil (FW.seq (FW.seq (FW.region ?_)))
 refine FL.v (E.move (v := Value.bool r21.2) rfl) ?_
 refine FL.v (E.not rfl) ?_
 refine FL.nil ?_
 rcases ifB hp with ⟨c29, hp⟩ | ⟨c29, hp⟩
 ·
  refine FW.condT rfl c29 ?_
  refine FW.seq (FW.region ?_)
  refine FL.v (E.assign (v := Value.slice none 0 0) rfl) ?_
  refine FL.v (E.assign (v := Value.bool false) rfl) ?_
  refine FL.nil ?_
  refine FW.ret ?_
  obtain rfl := Option.some.inj hp
  exact ⟨.inr rfl, res2 rfl rfl rfl ⟨_, _, _, _, rfl, (S25.nil 9 1), Els.nil⟩⟩
 ·
  refine FW.condF rfl c29 ?_
  refine FW.skip (FW.seq (FW.region ?_))
  refine FL.v (E.assign (v := Value.slice none 0 0) rfl) ?_
  refine FL.nil (FW.seq (FW.seq (FW.region ?_)))
  refine FL.v (E.move (v := v27) rfl) ?_
  obtain ⟨r30, hr31, hp⟩ := bnd hp
  refine FL.call rfl rfl rfl (E.call Tryz.call80 (A1 rfl)) (w_impl_formula_parts S25.sl v27 r21.1 h28 hr31) ?_
  rintro e w33 ⟨H32, v36, n37, cs38, rfl, r35, els39⟩
  refine ⟨_, rfl, ?_⟩
  have S34 := S25.join (l' := [.row 101 1 v36 n37 cs38]) r35 rfl
  refine FL.v (E.lenO te106 rfl S34 (i := 0) rfl els39 (by decide)) ?_
  refine FL.v (E.move (v := Value.int .i64 0) rfl) ?_
  refine FL.nil ?_
  obtain ⟨m40, hchk41, hp⟩ := bnd hp
  obtain ⟨q41, hq, hp⟩ := bndR hp
  refine FW.block ?_
  refine FW.mono (FW.forR (S := (List ByteArray)) (X := Empty) (fun (i41 : Nat) (s41 : (List ByteArray)) f w => ∃ H : GH, ∃ v42 : Value, ∃ n43 : Nat, ∃ cs44 : List Value, St Ha wa H w [.row 101 1 v36 n37 cs38, .row 9 1 v42 n43 cs44] ∧ Inc H32 H ∧ Els (up wa.heap.size H) eS 1 cs44 s41 ∧ f 19 = Value.int .i64 ((i41 : Nat) : Int) ∧ f 6 = v42 ∧ f 17 = v36 ∧ f 18 = Value.int .i64 (len r30)) (fun (q : Rs (List ByteArray) Empty) e f w => match q with | .go s41 => e = Exit.exit 0 ∧ (∃ H : GH, ∃ v42 : Value, ∃ n43 : Nat, ∃ cs44 : List Value, St Ha wa H w [.row 101 1 v36 n37 cs38, .row 9 1 v42 n43 cs44] ∧ Inc H32 H ∧ Els (up wa.heap.size H) eS 1 cs44 s41 ∧ f 6 = v42) | .rt x => x.elim) hq ⟨_, _, _, _, ((S34.nil 9 1).sel [1, 0] (by decide) rfl), (Inc.rfl _), Els.nil, rfl, rfl, rfl, rfl⟩ ?_ ?_) ?_
  ·
   clear hp hq
   rintro i41 s41 f93 w92 ⟨H89, v42, n43, cs44, S90, i91, els45, k94, k95, k96, k97⟩ hi41 hj41 o132 hp
   refine FW.seq (FW.region ?_)
   refine FL.v (E.lssT k94 k97 (lss_chk hj41 hchk41)) ?_
   refine FL.nil (FW.seq ?_)
   refine FW.condT rfl rfl ?_
   refine FW.skip (FW.seq (FW.block (FW.seq (FW.region ?_))))
   obtain ⟨x104, hx105, hp⟩ := bnd hp
   obtain ⟨p98, cs99, pt100, l101, at102, rel103⟩ := S90.row_at (i := 0) rfl els39 (by decide) hx105
   obtain ⟨v106, rfl, h107⟩ := eFo_open rel103
   refine FL.v (E.indexAddr te106 k96 k94 pt100) ?_
   refine FL.v (E.load rfl (run_load0 Tryz.isAgg101 at102 rfl)) ?_
   refine FL.v (E.assign (v := v106) rfl) ?_
   refine FL.nil (FW.region ?_)
   refine FL.v (E.move k95) ?_
   refine FL.v (E.move (v := v106) rfl) ?_
   obtain ⟨y108, hy109, hp⟩ := bnd hp
   obtain ⟨q110, v112, v113, rfl, at111, h114, h115⟩ := FAt.open h107 hy109
   refine FL.v (E.nilCheck rfl) ?_
   refine FL.v (E.fieldAddr tf109_3 rfl) ?_
   refine FL.v (E.load rfl (run_load1 Tryz.isAgg9 ((at111.mono i91).now S90.sl) rfl)) ?_
   obtain ⟨v116, w117, run118, S119⟩ := S90.buildSlice (P := Tryz.prog) te22 [Value.string y108.text] (parts := #[(0, Value.string y108.text)]) (cells := [Value.string y108.text]) rfl (szs_cons rfl szs_nil) (fc_cons rfl fc_nil) (ones_cons rfl ones_nil) (Nat.le_of_ble_eq_true rfl)
   have els120 : Els (up wa.heap.size H89) eS 1 [Value.string y108.text] [y108.text] := (Els.snoc (H := (up wa.heap.size H89)) (E := eS) (k := 1) (c := [Value.string y108.text]) (x := y108.text) Els.nil rfl rfl)
   refine FL.v (E.buildSlice (B1 rfl) run118) ?_
   obtain ⟨xs121, hz122, hp⟩ := bnd hp
   obtain ⟨v123, w126, n124, cs125, run127, S128, els129, ce130⟩ := S119.appendO (P := Tryz.prog) te22 (i := 2) (j := 0) rfl els45 rfl els120 hz122
   have S128 : St Ha wa H89 w126 [.row 9 1 v116 1 [Value.string y108.text], .row 101 1 v36 n37 cs38, .row 9 1 v123 n124 cs125] := S128
   have S131 : St Ha wa H89 w126 [.row 101 1 v36 n37 cs38, .row 9 1 v123 n124 cs125] := S128.drop 0
   refine FL.v (E.append rfl rfl run127) ?_
   refine FL.v (E.assign (v := v123) rfl) ?_
   refine FL.nil (FW.region ?_)
   refine FL.v (E.add k94 rfl) ?_
   refine FL.v (E.move (v := Value.int .i64 (wr (((i41 : Nat) : Int) + 1))) rfl) ?_
   refine FL.nil ?_
   obtain rfl := Option.some.inj hp
   exact ⟨rfl, ⟨_, _, _, _, S131, i91, els129, (nat_succ rfl hj41 (chk_le hchk41)), rfl, k96, k97⟩⟩
  ·
   clear hp hq
   rintro s41 f143 w142 ⟨H139, v42, n43, cs44, S140, i141, els45, k144, k145, k146, k147⟩
   refine FW.seq (FW.region ?_)
   refine FL.v (E.lss k144 k147) ?_
   refine FL.nil (FW.seq ?_)
   refine FW.condF rfl (dlt_maxchk hchk41) ?_
   refine FW.exit ?_
   exact ⟨nofun, rfl, ⟨_, _, _, _, S140, i141, els45, k145⟩⟩
  ·
   clear hq
   intro e f137 w136 hD
   rcases q41 with s41 | x41
   ·
    obtain ⟨rfl, hD⟩ := hD
    obtain ⟨H133, v42, n43, cs44, S134, i135, els45, k138⟩ := hD
    replace hp := el_go hp
    refine FW.seq (FW.region ?_)
    refine FL.v (E.move k138) ?_
    refine FL.v (E.assign (v := v42) rfl) ?_
    refine FL.v (E.assign (v := Value.bool true) rfl) ?_
    refine FL.nil ?_
    refine FW.ret ?_
    obtain rfl := Option.some.inj hp
    exact ⟨.inr rfl, res2 rfl rfl rfl ⟨_, _, _, _, rfl, (S134.sel [1] (by decide) rfl), els45⟩⟩
   ·
    exact x41.elim

@[reducible] def p_spec_FormulaParts (Ha : GH) (wa : World) (r : ((List ByteArray) × Bool)) : Ending → World → Prop :=
 fun e w' => ∃ H' : GH, ∃ v0 : Value, e = .returned (Value.tuple #[v0, Value.bool r.2]) ∧ Run wa.heap.size Ha wa H' w' ∧ RSl H' eS 1 v0 r.1
theorem w_spec_FormulaParts {Ha : GH} {wa : World} (hs : Sl Ha wa) (a0 : ByteArray) {r : ((List ByteArray) × Bool)} (hp : (PF.spec_FormulaParts a0) = some r) :
  Calls Tryz.prog 44 #[Value.string a0] wa (p_spec_FormulaParts Ha wa r) := by
 unfold PF.spec_FormulaParts at hp
 have S0 := St.init hs
 refine calls_go (N := 11) (args := [Value.string a0]) Tryz.func44 rfl rfl rfl ?_
 refine FW.seq (FW.region ?_)
 refine FL.v (E.assign (v := Value.slice none 0 0) rfl) ?_
 refine FL.v (E.assign (v := Value.bool false) rfl) ?_
 refine FL.nil (FW.seq (FW.seq (FW.region ?_)))
 refine FL.v (E.move (v := Value.string a0) rfl) ?_
 obtain ⟨r21, hr22, hp⟩ := bnd hp
 refine FL.call rfl rfl rfl (E.call Tryz.call48 (A1 rfl)) (w_spec_l22Good S0.sl a0 hr22) ?_
 rintro e w23 ⟨rfl, r24⟩
 refine ⟨_, rfl, ?_⟩
 have S25 := S0.call r24
 refine FL.v (E.not rfl) ?_
 refine FL.nil ?_
 rcases ifB hp with ⟨c26, hp⟩ | ⟨c26, hp⟩
 ·
  refine FW.condT rfl c26 ?_
  refine FW.seq (FW.region ?_)
  obtain ⟨v27, w28, run29, S30⟩ := S25.buildSlice (P := Tryz.prog) te22 [] (parts := #[]) (cells := []) rfl szs_nil fc_nil ones_nil (Nat.le_of_ble_eq_true rfl)
  have els31 : Els (up wa.heap.size Ha) eS 1 [] [] := Els.nil
  refine FL.v (E.buildSlice (B0) run29) ?_
  refine FL.v (E.assign (v := v27) rfl) ?_
  refine FL.v (E.assign (v := Value.bool false) rfl) ?_
  refine FL.nil ?_
  refine FW.ret ?_
  obtain ⟨H32, S33, i34, h35, nv36⟩ := S30.sealRowU (i := 0) (l' := []) rfl els31 (by decide) rfl
  obtain rfl := Option.some.inj hp
  exact ⟨.inr rfl, res2 rfl rfl rfl ⟨_, _, rfl, S33.run, (h35.mono upI)⟩⟩
 ·
  refine FW.condF rfl c26 ?_
  refine FW.skip (FW.seq (FW.region ?_))
  obtain ⟨v37, w38, run39, S40⟩ := S25.buildSlice (P := Tryz.prog) te22 [] (parts := #[]) (cells := []) rfl szs_nil fc_nil ones_nil (Nat.le_of_ble_eq_true rfl)
  have els41 : Els (up wa.heap.size Ha) eS 1 [] [] := Els.nil
  refine FL.v (E.buildSlice (B0) run39) ?_
  refine FL.v (E.move (v := Value.string a0) rfl) ?_
  obtain ⟨H42, S43, i44, h45, nv46⟩ := S40.sealRowU (i := 0) (l' := []) rfl els41 (by decide) rfl
  obtain ⟨r47, hr48, hp⟩ := bnd hp
  refine FL.call rfl rfl rfl (E.call Tryz.call83 (A2 rfl rfl)) (w_spec_l22All S43.sl v37 [] (h45.mono upI) a0 hr48) ?_
  rintro e w50 ⟨H49, v53, rfl, r52, h54⟩
  refine ⟨_, rfl, ?_⟩
  have S51 := S43.call r52
  refine FL.v (E.assign (v := v53) rfl) ?_
  refine FL.v (E.assign (v := Value.bool true) rfl) ?_
  refine FL.nil ?_
  refine FW.ret ?_
  obtain rfl := Option.some.inj hp
  exact ⟨.inr rfl, res2 rfl rfl rfl ⟨_, _, rfl, S51.run, h54⟩⟩

set_option maxHeartbeats 4000000 in
theorem w_laws_rTexts {Ha : GH} {wa : World} (hs : Sl Ha wa) (v0 : Value) (a0 : List ByteArray) (p0 : RSl Ha eS 1 v0 a0) (v1 : Value) (a1 : List ByteArray) (p1 : RSl Ha eS 1 v1 a1) {r : Bool} (hp : (PF.laws_rTexts a0 a1) = some r) :
  Calls Tryz.prog 45 #[v0, v1] wa (Sc Ha wa (Value.bool r)) := by
 unfold PF.laws_rTexts at hp
 have S0 := St.init hs
 refine calls_go (N := 26) (args := [v0, v1]) Tryz.func45 rfl rfl rfl ?_
 refine FW.seq (FW.region ?_)
 refine FL.v (E.assign (v := Value.bool false) rfl) ?_
 refine FL.nil (FW.seq (FW.seq (FW.region ?_)))
 refine FL.v (E.move (v := v0) rfl) ?_
 refine FL.v (E.lenP te22 rfl p0) ?_
 refine FL.v (E.move (v := v1) rfl) ?_
 refine FL.v (E.lenP te22 rfl p1) ?_
 refine FL.v (E.neq rfl rfl) ?_
 refine FL.nil ?_
 rcases ifB hp with ⟨c21, hp⟩ | ⟨c21, hp⟩
 ·
  refine FW.condT rfl c21 ?_
  refine FW.seq (FW.region ?_)
  refine FL.v (E.assign (v := Value.bool false) rfl) ?_
  refine FL.nil ?_
  refine FW.ret ?_
  obtain rfl := Option.some.inj hp
  exact ⟨.inr rfl, res1 rfl rfl ⟨rfl, S0.back⟩⟩
 ·
  refine FW.condF rfl c21 ?_
  refine FW.skip (FW.seq (FW.seq (FW.region ?_)))
  refine FL.v (E.assign (v := Value.int .i64 0) rfl) ?_
  refine FL.nil ?_
  obtain ⟨q23, hq, hp⟩ := bndR hp
  refine FW.block ?_
  refine FW.mono (FW.forL (S := Unit) (X := Bool) (fun (i23 : Nat) (s23 : Unit) f w => ∃ H : GH, St Ha wa H w [] ∧ Inc Ha H ∧ f 5 = Value.int .i64 ((i23 : Nat) : Int) ∧ f 0 = v0 ∧ f 1 = v1) (fun q e f w => match q with | .go s23 => e = Exit.exit 0 ∧ (∃ H : GH, St Ha wa H w [] ∧ Inc Ha H) | .rt x => ((e = Exit.ret) ∧ (fun e f w => (e = Exit.normal ∨ e = Exit.ret) ∧ ∀ a, Fr (δ := []) 26 a f → ∃ v, (results Tryz.f45 a.tmps).run Tryz.prog w = .ok v w ∧ (Sc Ha wa (Value.bool x)) (.returned v) w) e f w)) hq ⟨_, S0, (Inc.rfl _), rfl, rfl, rfl⟩ ?_ ?_) ?_
  ·
   clear hp hq
   rintro i23 y22 s23 f55 w54 ⟨H51, S52, i53, k56, k57, k58⟩ hx23 o78 hp
   refine FW.seq (FW.seq (FW.region ?_))
   refine FL.v (E.move k56) ?_
   refine FL.v (E.move k57) ?_
   refine FL.v (E.lenP te22 rfl p0) ?_
   refine FL.v (E.lssT rfl rfl (lss_len hx23)) ?_
   refine FL.nil ?_
   refine FW.condT rfl rfl ?_
   refine FW.skip (FW.seq (FW.block (FW.seq ?_)))
   refine FW.draw (fun w' => Run w54.heap.size H51 w54 H51 w') (by kernel_rfl) (by kernel_rfl) (run_drew S52.sl) ?_
   refine FD.val rfl rfl rfl (fun w' hw' => (E.move k57)) ?_
   refine FD.val rfl rfl rfl (fun w' hw' => (E.move k56)) ?_
   obtain ⟨p60, cs61, pt62, l63, at64, rel65⟩ := p0.at (ix_nat hx23)
   obtain rfl := eS_open rel65
   refine FD.val rfl rfl rfl (fun w' hw' => (E.indexAddr te22 rfl rfl pt62)) ?_
   refine FD.val rfl rfl rfl (fun w' hw' => (E.load rfl (run_load0 Tryz.isAgg9 ((at64.mono i53).now (S52.call hw').sl) rfl))) ?_
   refine FD.val rfl rfl rfl (fun w' hw' => (E.move k58)) ?_
   refine FD.val rfl rfl rfl (fun w' hw' => (E.move k56)) ?_
   obtain ⟨x72, hx73, hp⟩ := bnd hp
   obtain ⟨p66, cs67, pt68, l69, at70, rel71⟩ := p1.at hx73
   obtain rfl := eS_open rel71
   refine FD.val rfl rfl rfl (fun w' hw' => (E.indexAddr te22 rfl rfl pt68)) ?_
   refine FD.val rfl rfl rfl (fun w' hw' => (E.load rfl (run_load0 Tryz.isAgg9 ((at70.mono i53).now (S52.call hw').sl) rfl))) ?_
   refine FD.val rfl rfl rfl (fun w' hw' => (E.neqS rfl rfl)) ?_
   refine FD.nil ?_
   intro w74 r76
   have S75 := S52.call r76
   rcases ifB hp with ⟨c77, hp⟩ | ⟨c77, hp⟩
   ·
    refine FW.condT rfl c77 ?_
    refine FW.seq (FW.region ?_)
    refine FL.v (E.assign (v := Value.bool false) rfl) ?_
    refine FL.nil ?_
    refine FW.ret ?_
    obtain rfl := Option.some.inj hp
    exact ⟨nofun, rfl, ⟨.inr rfl, res1 rfl rfl ⟨rfl, S75.back⟩⟩⟩
   ·
    refine FW.condF rfl c77 ?_
    refine FW.skip (FW.region ?_)
    refine FL.v (E.move k56) ?_
    refine FL.v (E.add rfl rfl) ?_
    refine FL.v (E.assign (v := Value.int .i64 (wr (((i23 : Nat) : Int) + 1))) rfl) ?_
    refine FL.nil ?_
    obtain rfl := Option.some.inj hp
    exact ⟨rfl, ⟨_, S75, i53, (nat_succ rfl (lt_of_get hx23) (p0.mono i53).le), k57, k58⟩⟩
  ·
   clear hp hq
   rintro s23 f88 w87 ⟨H84, S85, i86, k89, k90, k91⟩
   refine FW.seq (FW.seq (FW.region ?_))
   refine FL.v (E.move k89) ?_
   refine FL.v (E.move k90) ?_
   refine FL.v (E.lenP te22 rfl p0) ?_
   refine FL.v (E.lss rfl rfl) ?_
   refine FL.nil ?_
   refine FW.condF rfl dlt_len ?_
   refine FW.exit ?_
   exact ⟨nofun, rfl, ⟨_, S85, i86⟩⟩
  ·
   clear hq
   intro e f83 w82 hD
   rcases q23 with s23 | x23
   ·
    obtain ⟨rfl, hD⟩ := hD
    obtain ⟨H79, S80, i81⟩ := hD
    replace hp := el_go hp
    refine FW.seq (FW.region ?_)
    refine FL.v (E.assign (v := Value.bool true) rfl) ?_
    refine FL.nil ?_
    refine FW.ret ?_
    obtain rfl := Option.some.inj hp
    exact ⟨.inr rfl, res1 rfl rfl ⟨rfl, S80.back⟩⟩
   ·
    obtain ⟨he, hL⟩ := hD
    replace hp := el_rt hp
    obtain rfl := Option.some.inj hp
    subst he
    exact hL

theorem w_impl_formula_depth_B {rec_impl_formula_depth : Fo → Option Int} (hrec_impl_formula_depth : ∀ {Ha : GH} {wa : World} (hs : Sl Ha wa) (v0 : Value) (a0 : Fo) (p0 : FAt Ha v0 a0) {r : Int} (hp : rec_impl_formula_depth a0 = some r), Calls Tryz.prog 97 #[v0] wa (Sc Ha wa (Value.int .i64 r))) {Ha : GH} {wa : World} (hs : Sl Ha wa) (v0 : Value) (a0 : Fo) (p0 : FAt Ha v0 a0) {r : Int} (hp : PF.impl_formula_depth_B rec_impl_formula_depth a0 = some r) :
  Calls Tryz.prog 97 #[v0] wa (Sc Ha wa (Value.int .i64 r)) := by
 unfold PF.impl_formula_depth_B at hp
 have S0 := St.init hs
 refine calls_go (N := 33) (args := [v0]) Tryz.func97 rfl rfl rfl ?_
 refine FW.seq (FW.region ?_)
 refine FL.v (E.assign (v := Value.int .i64 0) rfl) ?_
 refine FL.nil (FW.seq (FW.block (FW.seq (FW.region ?_))))
 refine FL.v (E.move (v := v0) rfl) ?_
 obtain ⟨y21, hy22, hp⟩ := bnd hp
 obtain ⟨q23, v25, v26, rfl, at24, h27, h28⟩ := FAt.open p0 hy22
 refine FL.v (E.nilCheck rfl) ?_
 refine FL.v (E.fieldAddr tf109_1 rfl) ?_
 refine FL.v (E.load rfl (run_load1 Tryz.isAgg101 (at24.now S0.sl) rfl)) ?_
 refine FL.v (E.eqlN Tryz.runUnderlying101 h27.isNil rfl rfl) ?_
 refine FL.v (E.assign (v := Value.bool y21.a.isNil) rfl) ?_
 refine FL.nil ?_
 rcases ifB hp with ⟨c29, hp⟩ | ⟨c29, hp⟩
 ·
  refine FW.condT rfl c29 ?_
  refine FW.seq (FW.region ?_)
  refine FL.v (E.assign (v := Value.int .i64 0) rfl) ?_
  refine FL.nil ?_
  refine FW.ret ?_
  obtain rfl := Option.some.inj hp
  exact ⟨.inr rfl, res1 rfl rfl ⟨rfl, S0.back⟩⟩
 ·
  refine FW.condF rfl c29 ?_
  refine FW.seq (FW.region ?_)
  refine FL.v (E.move (v := Value.pointer (some q23)) rfl) ?_
  refine FL.v (E.nilCheck rfl) ?_
  refine FL.v (E.fieldAddr tf109_2 rfl) ?_
  refine FL.v (E.load rfl (run_load1 Tryz.isAgg101 (at24.now S0.sl) rfl)) ?_
  refine FL.v (E.eqlN Tryz.runUnderlying101 h28.isNil rfl rfl) ?_
  refine FL.v (E.assign (v := Value.bool y21.b.isNil) rfl) ?_
  refine FL.nil ?_
  rcases ifB hp with ⟨c30, hp⟩ | ⟨c30, hp⟩
  ·
   refine FW.condT rfl c30 ?_
   refine FW.seq (FW.region ?_)
   refine FL.v (E.move (v := Value.pointer (some q23)) rfl) ?_
   refine FL.v (E.nilCheck rfl) ?_
   refine FL.v (E.fieldAddr tf109_1 rfl) ?_
   refine FL.v (E.load rfl (run_load1 Tryz.isAgg101 (at24.now S0.sl) rfl)) ?_
   obtain ⟨r31, hr32, hp⟩ := bnd hp
   refine FL.call rfl rfl rfl (E.call Tryz.call97 (A1 rfl)) (hrec_impl_formula_depth S0.sl v25 y21.a h27 hr32) ?_
   rintro e w33 ⟨rfl, r34⟩
   refine ⟨_, rfl, ?_⟩
   have S35 := S0.call r34
   refine FL.v (E.add rfl rfl) ?_
   refine FL.v (E.assign (v := Value.int .i64 (wr (1 + r31))) rfl) ?_
   refine FL.nil ?_
   refine FW.ret ?_
   obtain rfl := Option.some.inj hp
   exact ⟨.inr rfl, res1 rfl rfl ⟨rfl, S35.back⟩⟩
  ·
   refine FW.condF rfl c30 ?_
   refine FW.skip (FW.seq ?_)
   obtain ⟨r39, hr40, hp⟩ := bnd hp
   obtain ⟨r44, hr45, hp⟩ := bnd hp
   refine FW.drawB (Sl Ha) (fun f w => ∃ H : GH, St Ha wa H w [] ∧ Inc Ha H ∧ f 2 = Value.int .i64 (wr (1 + (mx r39 r44)))) (by kernel_rfl) S0.sl ?_ ?_
   ·
    intro w36 r37
    have S38 := S0.call r37
    refine FB.t (i := 0) (bs 13 1) rfl (SP.nil S38.sl) rfl (fun w' hw' => (E.move (v := Value.pointer (some q23)) rfl)) ?_
    refine FB.t (i := 1) (bs 13 3) rfl (SP.nil S38.sl) rfl (fun w' hw' => (E.nilCheck rfl)) ?_
    refine FB.t (i := 2) (bs 13 7) rfl (SP.nil S38.sl) rfl (fun w' hw' => (E.fieldAddr tf109_1 rfl)) ?_
    refine FB.t (i := 3) (bs 13 15) rfl (SP.nil S38.sl) rfl (fun w' hw' => (E.load rfl (run_load1 Tryz.isAgg101 (at24.now hw') rfl))) ?_
    refine FB.t (i := 5) (bs 13 47) rfl (SP.nil S38.sl) rfl (fun w' hw' => (E.move (v := Value.pointer (some q23)) rfl)) ?_
    refine FB.t (i := 6) (bs 13 111) rfl (SP.nil S38.sl) rfl (fun w' hw' => (E.nilCheck rfl)) ?_
    refine FB.t (i := 7) (bs 13 239) rfl (SP.nil S38.sl) rfl (fun w' hw' => (E.fieldAddr tf109_2 rfl)) ?_
    refine FB.t (i := 8) (bs 13 495) rfl (SP.nil S38.sl) rfl (fun w' hw' => (E.load rfl (run_load1 Tryz.isAgg101 (at24.now hw') rfl))) ?_
    refine FB.all1 (i := 4) (by kernel_rfl) ?_
    ·
     refine FC.call (l' := (bs 13 511)) rfl (by kernel_rfl) rfl rfl rfl (E.call Tryz.call97 (A1 rfl)) (hrec_impl_formula_depth S38.sl v25 y21.a h27 hr40) ?_
     rintro e w41 ⟨rfl, r42⟩
     refine ⟨_, rfl, ?_⟩
     have S43 := S38.call r42
     refine ⟨(SP.nil S43.sl), ?_⟩
     refine FB.all1 (i := 9) (by kernel_rfl) ?_
     ·
      refine FC.call (l' := (bs 13 1023)) rfl (by kernel_rfl) rfl rfl rfl (E.call Tryz.call97 (A1 rfl)) (hrec_impl_formula_depth S43.sl v26 y21.b h28 hr45) ?_
      rintro e w46 ⟨rfl, r47⟩
      refine ⟨_, rfl, ?_⟩
      have S48 := S43.call r47
      refine ⟨(SP.nil S48.sl), ?_⟩
      refine FB.t (i := 10) (bs 13 2047) rfl (SP.nil S48.sl) rfl (fun w' hw' => (E.max2 rfl rfl)) ?_
      refine FB.t (i := 11) (bs 13 4095) rfl (SP.nil S48.sl) rfl (fun w' hw' => (E.add rfl rfl)) ?_
      refine FB.t (i := 12) (bs 13 8191) rfl (SP.nil S48.sl) rfl (fun w' hw' => (E.assign (v := Value.int .i64 (wr (1 + (mx r39 r44)))) rfl)) ?_
      exact FB.done (by kernel_rfl) ⟨_, S48, (Inc.rfl _), rfl⟩
   ·
    rintro f53 w52 ⟨H49, S50, i51, k54⟩
    refine FW.ret ?_
    obtain rfl := Option.some.inj hp
    exact ⟨.inr rfl, res1 rfl k54 ⟨rfl, S50.back⟩⟩
theorem w_impl_formula_depth_F (n : Nat) : ∀ {Ha : GH} {wa : World} (hs : Sl Ha wa) (v0 : Value) (a0 : Fo) (p0 : FAt Ha v0 a0) {r : Int} (hp : PF.impl_formula_depth_F n a0 = some r), Calls Tryz.prog 97 #[v0] wa (Sc Ha wa (Value.int .i64 r)) := by
 induction n with
 | zero => intros; rename_i hp; exact nomatch hp
 | succ n ih => exact w_impl_formula_depth_B (rec_impl_formula_depth := PF.impl_formula_depth_F n) ih
theorem w_impl_formula_depth {Ha : GH} {wa : World} (hs : Sl Ha wa) (v0 : Value) (a0 : Fo) (p0 : FAt Ha v0 a0) {r : Int} (hp : PF.impl_formula_depth a0 = some r) :
  Calls Tryz.prog 97 #[v0] wa (Sc Ha wa (Value.int .i64 r)) := w_impl_formula_depth_F deep hs v0 a0 p0 hp

theorem w_impl_FormulaDepth {Ha : GH} {wa : World} (hs : Sl Ha wa) (a0 : ByteArray) {r : (Int × Bool)} (hp : (PF.impl_FormulaDepth a0) = some r) :
  Calls Tryz.prog 46 #[Value.string a0] wa (Sc Ha wa (Value.tuple #[Value.int .i64 r.1, Value.bool r.2])) := by
 unfold PF.impl_FormulaDepth at hp
 have S0 := St.init hs
 refine calls_go (N := 15) (args := [Value.string a0]) Tryz.func46 rfl rfl rfl ?_
 refine FW.seq (FW.region ?_)
 refine FL.v (E.assign (v := Value.int .i64 0) rfl) ?_
 refine FL.v (E.assign (v := Value.bool false) rfl) ?_
 refine FL.nil (FW.seq (FW.region ?_))
 refine FL.v (E.move (v := Value.string a0) rfl) ?_
 obtain ⟨r21, hr22, hp⟩ := bnd hp
 refine FL.call rfl rfl rfl (E.call Tryz.call78 (A1 rfl)) (w_impl_parse S0.sl a0 hr22) ?_
 rintro e w24 ⟨H23, v27, rfl, r26, h28⟩
 refine ⟨_, rfl, ?_⟩
 have S25 := S0.call r26
 refine FL.v (E.move (v := Value.tuple #[v27, Value.bool r21.2]) rfl) ?_
 refine FL.v (E.extract (i := 0) rfl rfl) ?_
 refine FL.v (E.extract (i := 1) rfl rfl) ?_
 refine FL.v (E.assign (v := v27) rfl) ?_
 refine FL.v (E.assign (v := Value.bool r21.2) rfl) ?_
 refine FL.nil (FW.seq (FW.seq (FW.region ?_)))
 refine FL.v (E.move (v := Value.bool r21.2) rfl) ?_
 refine FL.v (E.not rfl) ?_
 refine FL.nil ?_
 rcases ifB hp with ⟨c29, hp⟩ | ⟨c29, hp⟩
 ·
  refine FW.condT rfl c29 ?_
  refine FW.seq (FW.region ?_)
  refine FL.v (E.assign (v := Value.int .i64 0) rfl) ?_
  refine FL.v (E.assign (v := Value.bool false) rfl) ?_
  refine FL.nil ?_
  refine FW.ret ?_
  obtain rfl := Option.some.inj hp
  exact ⟨.inr rfl, res2 rfl rfl rfl ⟨rfl, S25.back⟩⟩
 ·
  refine FW.condF rfl c29 ?_
  refine FW.skip (FW.seq (FW.region ?_))
  refine FL.v (E.move (v := v27) rfl) ?_
  obtain ⟨r30, hr31, hp⟩ := bnd hp
  refine FL.call rfl rfl rfl (E.call Tryz.call97 (A1 rfl)) (w_impl_formula_depth S25.sl v27 r21.1 h28 hr31) ?_
  rintro e w32 ⟨rfl, r33⟩
  refine ⟨_, rfl, ?_⟩
  have S34 := S25.call r33
  refine FL.v (E.assign (v := Value.int .i64 r30) rfl) ?_
  refine FL.v (E.assign (v := Value.bool true) rfl) ?_
  refine FL.nil ?_
  refine FW.ret ?_
  obtain rfl := Option.some.inj hp
  exact ⟨.inr rfl, res2 rfl rfl rfl ⟨rfl, S34.back⟩⟩

set_option maxHeartbeats 4000000 in
theorem w_laws_FnFormulaCnfs {Ha : GH} {wa : World} (hs : Sl Ha wa) (v0 : Value) (a0 : List Int) (p0 : RSl Ha (eN .u8) 1 v0 a0) {r : Bool} (hp : (PF.laws_FnFormulaCnfs a0) = some r) :
  Calls Tryz.prog 8 #[v0] wa (Sc Ha wa (Value.bool r)) := by
 unfold PF.laws_FnFormulaCnfs at hp
 have S0 := St.init hs
 refine calls_go (N := 209) (args := [v0]) Tryz.func8 rfl rfl rfl ?_
 refine FW.seq (FW.region ?_)
 refine FL.v (E.assign (v := Value.bool false) rfl) ?_
 refine FL.nil (FW.seq (FW.seq (FW.region ?_)))
 refine FL.v (E.move (v := v0) rfl) ?_
 refine FL.call rfl rfl rfl (E.call Tryz.call28 (A1 rfl)) (w_laws_rBig S0.sl v0 a0 p0) ?_
 rintro e w21 ⟨rfl, r22⟩
 refine ⟨_, rfl, ?_⟩
 have S23 := S0.call r22
 refine FL.nil ?_
 rcases ifB hp with ⟨c24, hp⟩ | ⟨c24, hp⟩
 ·
  refine FW.condT rfl c24 ?_
  refine FW.seq (FW.region ?_)
  refine FL.v (E.assign (v := Value.bool true) rfl) ?_
  refine FL.nil ?_
  refine FW.ret ?_
  obtain rfl := Option.some.inj hp
  exact ⟨.inr rfl, res1 rfl rfl ⟨rfl, S23.back⟩⟩
 ·
  refine FW.condF rfl c24 ?_
  refine FW.skip (FW.seq (FW.region ?_))
  refine FL.v (E.move (v := v0) rfl) ?_
  obtain ⟨r25, hr26, hp⟩ := bnd hp
  refine FL.call rfl rfl rfl (E.call Tryz.call29 (A1 rfl)) (w_spec_DrawDefiningCnf S23.sl v0 a0 p0 hr26) ?_
  rintro e w27 ⟨rfl, r28⟩
  refine ⟨_, rfl, ?_⟩
  have S29 := S23.call r28
  refine FL.v (E.assign (v := Value.string r25) rfl) ?_
  refine FL.nil (FW.seq (FW.region ?_))
  refine FL.v (E.move (v := Value.string r25) rfl) ?_
  obtain ⟨r30, hr31, hp⟩ := bnd hp
  refine FL.call rfl rfl rfl (E.call Tryz.call30 (A1 rfl)) (w_impl_DefiningCnf S29.sl r25 hr31) ?_
  rintro e w33 ⟨H32, v36, rfl, r35, ⟨c39, ns38⟩⟩
  refine ⟨_, rfl, ?_⟩
  have h37 := ns38.rsl
  have nv40 : New Ha c39 := New.of_up S29.sl (fun b hb => ns38.dom b (.inr hb))
  have nv41 : New Ha [v36] := New.of_up S29.sl h37.dom
  have h37 := h37.mono (up_le S29.size)
  have ns38 := ns38.mono (up_le S29.size)
  have S34 := S29.call r35
  refine FL.v (E.move (v := Value.tuple #[Value.agg #[Value.int .i64 r30.1.vars, v36], Value.bool r30.2]) rfl) ?_
  refine FL.v (E.extract (i := 0) rfl rfl) ?_
  refine FL.v (E.extract (i := 1) rfl rfl) ?_
  have S46 := S34.nil 82 1
  have els47 : Els (up wa.heap.size H32) (eL eI 1) 1 [] [] := Els.nil
  obtain ⟨b42, w43, run44, S45⟩ := S46.alloc (P := Tryz.prog) 46 [Value.int .i64 0, Value.slice none 0 0] Tryz.zeroValue46 rfl (ones_cons rfl (ones_cons rfl ones_nil))
  refine FL.v (E.alloc run44) ?_
  obtain ⟨w48, run49, S50⟩ := S45.store0 (P := Tryz.prog) (t := 46) (i := 0) (cs' := [Value.int .i64 r30.1.vars, v36]) (l' := [.box b42 46 [Value.int .i64 r30.1.vars, v36], .row 82 1 (Value.slice none 0 0) 0 []]) (v := Value.agg #[Value.int .i64 r30.1.vars, v36]) (c := [Value.int .i64 r30.1.vars, v36]) rfl Tryz.sizeOf46 rfl rfl (ones_cons rfl (ones_cons h37.one ones_nil)) (Nat.le_of_ble_eq_true rfl) rfl rfl
  refine FL.act rfl rfl (E.store rfl rfl run49) ?_
  obtain ⟨H51, S52, i53, at54⟩ := S50.sealBox (i := 0) (l' := [.row 82 1 (Value.slice none 0 0) 0 []]) rfl rfl
  refine FL.v (E.assign (v := Value.bool r30.2) rfl) ?_
  refine FL.nil (FW.seq (FW.seq (FW.region ?_)))
  refine FL.v (E.move (v := Value.string r25) rfl) ?_
  obtain ⟨r55, hr56, hp⟩ := bnd hp
  refine FL.call rfl rfl rfl (E.call Tryz.call31 (A1 rfl)) (w_spec_DefiningCnf S52.sl r25 hr56) ?_
  rintro e w58 ⟨H57, v61, rfl, r60, ⟨c64, ns63⟩⟩
  refine ⟨_, rfl, ?_⟩
  have h62 := ns63.rsl
  have nv65 : New H51 c64 := New.of_up S52.sl (fun b hb => ns63.dom b (.inr hb))
  have nv66 : New H51 [v61] := New.of_up S52.sl h62.dom
  have h62 := h62.mono (up_le S52.size)
  have ns63 := ns63.mono (up_le S52.size)
  have S59 := S52.call r60
  refine FL.v (E.move (v := Value.tuple #[Value.agg #[Value.int .i64 r55.1.vars, v61], Value.bool r55.2]) rfl) ?_
  refine FL.v (E.extract (i := 0) rfl rfl) ?_
  refine FL.v (E.extract (i := 1) rfl rfl) ?_
  have S71 := S59.nil 82 1
  have els72 : Els (up wa.heap.size H57) (eL eI 1) 1 [] [] := Els.nil
  obtain ⟨b67, w68, run69, S70⟩ := S71.alloc (P := Tryz.prog) 46 [Value.int .i64 0, Value.slice none 0 0] Tryz.zeroValue46 rfl (ones_cons rfl (ones_cons rfl ones_nil))
  refine FL.v (E.alloc run69) ?_
  obtain ⟨w73, run74, S75⟩ := S70.store0 (P := Tryz.prog) (t := 46) (i := 0) (cs' := [Value.int .i64 r55.1.vars, v61]) (l' := [.box b67 46 [Value.int .i64 r55.1.vars, v61], .row 82 1 (Value.slice none 0 0) 0 [], .row 82 1 (Value.slice none 0 0) 0 []]) (v := Value.agg #[Value.int .i64 r55.1.vars, v61]) (c := [Value.int .i64 r55.1.vars, v61]) rfl Tryz.sizeOf46 rfl rfl (ones_cons rfl (ones_cons h62.one ones_nil)) (Nat.le_of_ble_eq_true rfl) rfl rfl
  refine FL.act rfl rfl (E.store rfl rfl run74) ?_
  obtain ⟨H76, S77, i78, at79⟩ := S75.sealBox (i := 0) (l' := [.row 82 1 (Value.slice none 0 0) 0 [], .row 82 1 (Value.slice none 0 0) 0 []]) rfl rfl
  refine FL.v (E.assign (v := Value.bool r55.2) rfl) ?_
  refine FL.nil (FW.seq (FW.region ?_))
  refine FL.v (E.move (v := Value.bool r30.2) rfl) ?_
  refine FL.v (E.move (v := Value.bool r55.2) rfl) ?_
  refine FL.v (E.neqB Tryz.runUnderlying4 rfl rfl) ?_
  refine FL.v (E.move (v := Value.bool (!(r30.2 == r55.2))) rfl) ?_
  obtain ⟨t85, hqt85, hp⟩ := bnd hp
  refine FL.cut 5 (fun f w => ∃ H : GH, St Ha wa H w [.row 82 1 (Value.slice none 0 0) 0 [], .row 82 1 (Value.slice none 0 0) 0 []] ∧ Inc H76 H ∧ f 3 = Value.string r25 ∧ f 4 = Value.pointer (some ⟨b42, 0, none⟩) ∧ f 5 = Value.bool r30.2 ∧ f 53 = Value.bool t85) ?_ ?_
  ·
   clear hp; have hp := hqt85; clear hqt85
   rcases ifB hp with ⟨c91, hp⟩ | ⟨c91, hp⟩
   ·
    refine FL.skip (wF_no rfl rfl rfl c91) rfl ?_
    refine FL.skip (wF_no rfl rfl rfl c91) rfl ?_
    refine FL.skip (wF_no rfl rfl rfl c91) rfl ?_
    refine FL.skip (wF_no rfl rfl rfl c91) rfl ?_
    obtain rfl := Option.some.inj hp
    refine FL.v (E.pickT rfl c91 rfl) ?_
    exact FL.nil ⟨rfl, _, S77, (Inc.rfl _), rfl, rfl, rfl, rfl⟩
   ·
    refine FL.val (wF_yes rfl rfl rfl c91) rfl rfl (E.load rfl (run_loadA Tryz.isAgg46 Tryz.sizeOf46 ((at54.mono (r60.inc.tr i78)).now S77.sl) rfl)) ?_
    refine FL.val (wF_yes rfl rfl rfl c91) rfl rfl (E.load rfl (run_loadA Tryz.isAgg46 Tryz.sizeOf46 (at79.now S77.sl) rfl)) ?_
    obtain ⟨r92, hr93, hp⟩ := bnd hp
    refine FL.call (wF_yes rfl rfl rfl c91) rfl rfl (E.call Tryz.call32 (A2 rfl rfl)) (w_laws_rCnf S77.sl r30.1 v36 (h37.mono (upI.tr ((i53.tr r60.inc).tr i78))) r55.1 v61 (h62.mono (upI.tr i78)) hr93) ?_
    rintro e w94 ⟨rfl, r95⟩
    refine ⟨_, rfl, ?_⟩
    have S96 := S77.call r95
    refine FL.val (wF_yes rfl rfl rfl c91) rfl rfl (E.not rfl) ?_
    obtain rfl := Option.some.inj hp
    refine FL.v (E.pickF rfl c91 rfl) ?_
    exact FL.nil ⟨rfl, _, S96, (Inc.rfl _), rfl, rfl, rfl, rfl⟩
  rintro f90 w89 ⟨H86, S87, i88, k97, k98, k99, k100⟩
  refine FL.nil ?_
  rcases ifB hp with ⟨c101, hp⟩ | ⟨c101, hp⟩
  ·
   refine FW.condT k100 c101 ?_
   refine FW.seq (FW.region ?_)
   refine FL.v (E.assign (v := Value.bool false) rfl) ?_
   refine FL.nil ?_
   refine FW.ret ?_
   obtain rfl := Option.some.inj hp
   exact ⟨.inr rfl, res1 rfl rfl ⟨rfl, S87.back⟩⟩
  ·
   refine FW.condF k100 c101 ?_
   refine FW.skip (FW.seq (FW.region ?_))
   refine FL.v (E.move k97) ?_
   obtain ⟨r102, hr103, hp⟩ := bnd hp
   refine FL.call rfl rfl rfl (E.call Tryz.call33 (A1 rfl)) (w_impl_CircuitOfFormula S87.sl r25 hr103) ?_
   rintro e w105 ⟨H104, v108, n109, cs110, rfl, r107, els111⟩
   refine ⟨_, rfl, ?_⟩
   have els111 := els111.mono (up_le S87.size)
   have S106 := S87.join (l' := [.row 118 3 v108 n109 cs110, .row 82 1 (Value.slice none 0 0) 0 [], .row 82 1 (Value.slice none 0 0) 0 []]) r107 rfl
   refine FL.v (E.move (v := Value.tuple #[v108, Value.bool r102.2]) rfl) ?_
   refine FL.v (E.extract (i := 0) rfl rfl) ?_
   refine FL.v (E.extract (i := 1) rfl rfl) ?_
   refine FL.v (E.assign (v := v108) rfl) ?_
   refine FL.v (E.assign (v := Value.bool r102.2) rfl) ?_
   refine FL.nil (FW.seq (FW.seq (FW.region ?_)))
   refine FL.v (E.move k97) ?_
   obtain ⟨r112, hr113, hp⟩ := bnd hp
   refine FL.call rfl rfl rfl (E.call Tryz.call34 (A1 rfl)) (w_spec_CircuitOfFormula S106.sl r25 hr113) ?_
   rintro e w115 ⟨H114, v118, n119, cs120, rfl, r117, els121⟩
   refine ⟨_, rfl, ?_⟩
   have els121 := els121.mono (up_le S106.size)
   have S116 := S106.join (l' := [.row 118 3 v118 n119 cs120, .row 118 3 v108 n109 cs110, .row 82 1 (Value.slice none 0 0) 0 [], .row 82 1 (Value.slice none 0 0) 0 []]) r117 rfl
   refine FL.v (E.move (v := Value.tuple #[v118, Value.bool r112.2]) rfl) ?_
   refine FL.v (E.extract (i := 0) rfl rfl) ?_
   refine FL.v (E.extract (i := 1) rfl rfl) ?_
   refine FL.v (E.assign (v := v118) rfl) ?_
   refine FL.v (E.assign (v := Value.bool r112.2) rfl) ?_
   refine FL.nil (FW.seq (FW.region ?_))
   refine FL.v (E.move (v := Value.bool r102.2) rfl) ?_
   refine FL.v (E.move (v := Value.bool r112.2) rfl) ?_
   refine FL.v (E.neqB Tryz.runUnderlying4 rfl rfl) ?_
   refine FL.v (E.move (v := Value.bool (!(r102.2 == r112.2))) rfl) ?_
   obtain ⟨t127, hqt127, hp⟩ := bnd hp
   refine FL.cut 5 (fun f w => ∃ H : GH, St Ha wa H w [.row 118 3 v118 n119 cs120, .row 118 3 v108 n109 cs110, .row 82 1 (Value.slice none 0 0) 0 [], .row 82 1 (Value.slice none 0 0) 0 []] ∧ Inc H114 H ∧ f 3 = Value.string r25 ∧ f 4 = Value.pointer (some ⟨b42, 0, none⟩) ∧ f 5 = Value.bool r30.2 ∧ f 8 = v108 ∧ f 9 = Value.bool r102.2 ∧ f 10 = v118 ∧ f 72 = Value.bool t127) ?_ ?_
   ·
    clear hp; have hp := hqt127; clear hqt127
    rcases ifB hp with ⟨c133, hp⟩ | ⟨c133, hp⟩
    ·
     refine FL.skip (wF_no rfl rfl rfl c133) rfl ?_
     refine FL.skip (wF_no rfl rfl rfl c133) rfl ?_
     refine FL.skip (wF_no rfl rfl rfl c133) rfl ?_
     refine FL.skip (wF_no rfl rfl rfl c133) rfl ?_
     obtain rfl := Option.some.inj hp
     refine FL.v (E.pickT rfl c133 rfl) ?_
     exact FL.nil ⟨rfl, _, S116, (Inc.rfl _), k97, k98, k99, rfl, rfl, rfl, rfl⟩
    ·
     refine FL.val (wF_yes rfl rfl rfl c133) rfl rfl (E.move (v := Value.bool r102.2) rfl) ?_
     refine FL.val (wF_yes rfl rfl rfl c133) rfl rfl (E.move k97) ?_
     obtain ⟨r134, hr135, hp⟩ := bnd hp
     refine FL.call (wF_yes rfl rfl rfl c133) rfl rfl (E.call Tryz.call35 (A1 rfl)) (w_impl_IsFormula S116.sl r25 hr135) ?_
     rintro e w136 ⟨rfl, r137⟩
     refine ⟨_, rfl, ?_⟩
     have S138 := S116.call r137
     refine FL.val (wF_yes rfl rfl rfl c133) rfl rfl (E.neqB Tryz.runUnderlying4 rfl rfl) ?_
     obtain rfl := Option.some.inj hp
     refine FL.v (E.pickF rfl c133 rfl) ?_
     exact FL.nil ⟨rfl, _, S138, (Inc.rfl _), k97, k98, k99, rfl, rfl, rfl, rfl⟩
   rintro f132 w131 ⟨H128, S129, i130, k139, k140, k141, k142, k143, k144, k145⟩
   refine FL.v (E.move k145) ?_
   obtain ⟨t161, hqt161, hp⟩ := bnd hp
   refine FL.cut 5 (fun f w => ∃ H : GH, St Ha wa H w [.row 118 3 v118 n119 cs120, .row 118 3 v108 n109 cs110, .row 82 1 (Value.slice none 0 0) 0 [], .row 82 1 (Value.slice none 0 0) 0 []] ∧ Inc H128 H ∧ f 3 = Value.string r25 ∧ f 4 = Value.pointer (some ⟨b42, 0, none⟩) ∧ f 5 = Value.bool r30.2 ∧ f 8 = v108 ∧ f 9 = Value.bool r102.2 ∧ f 78 = Value.bool t161) ?_ ?_
   ·
    clear hp; have hp := hqt161; clear hqt161
    rcases ifB hp with ⟨c167, hp⟩ | ⟨c167, hp⟩
    ·
     refine FL.skip (wF_no rfl rfl rfl c167) rfl ?_
     refine FL.skip (wF_no rfl rfl rfl c167) rfl ?_
     refine FL.skip (wF_no rfl rfl rfl c167) rfl ?_
     refine FL.skip (wF_no rfl rfl rfl c167) rfl ?_
     obtain rfl := Option.some.inj hp
     refine FL.v (E.pickT rfl c167 rfl) ?_
     exact FL.nil ⟨rfl, _, S129, (Inc.rfl _), k139, k140, k141, k142, k143, rfl⟩
    ·
     refine FL.val (wF_yes rfl rfl rfl c167) rfl rfl (E.move k142) ?_
     refine FL.val (wF_yes rfl rfl rfl c167) rfl rfl (E.move k144) ?_
     obtain ⟨H168, S169, i170, h171, nv172⟩ := S129.sealRowU (i := 1) (l' := [.row 118 3 v118 n119 cs120, .row 82 1 (Value.slice none 0 0) 0 [], .row 82 1 (Value.slice none 0 0) 0 []]) rfl (els111.mono (up_mono (r117.run.inc.tr i130))) (by decide) rfl
     obtain ⟨H173, S174, i175, h176, nv177⟩ := S169.sealRowU (i := 0) (l' := [.row 82 1 (Value.slice none 0 0) 0 [], .row 82 1 (Value.slice none 0 0) 0 []]) rfl (els121.mono (up_mono (i130.tr i170))) (by decide) rfl
     obtain ⟨r178, hr179, hp⟩ := bnd hp
     refine FL.call (wF_yes rfl rfl rfl c167) rfl rfl (E.call Tryz.call36 (A2 rfl rfl)) (w_laws_rGates S174.sl v108 r102.1 (h171.mono (upI.tr i175)) v118 r112.1 (h176.mono upI) hr179) ?_
     rintro e w180 ⟨rfl, r181⟩
     refine ⟨_, rfl, ?_⟩
     have r181 := Run.lend (i170.tr i175) S129.sl r181
     have S182 := S129.call r181
     refine FL.val (wF_yes rfl rfl rfl c167) rfl rfl (E.not rfl) ?_
     obtain rfl := Option.some.inj hp
     refine FL.v (E.pickF rfl c167 rfl) ?_
     exact FL.nil ⟨rfl, _, S182, (Inc.rfl _), k139, k140, k141, k142, k143, rfl⟩
   rintro f166 w165 ⟨H162, S163, i164, k183, k184, k185, k186, k187, k188⟩
   refine FL.nil ?_
   rcases ifB hp with ⟨c189, hp⟩ | ⟨c189, hp⟩
   ·
    refine FW.condT k188 c189 ?_
    refine FW.seq (FW.region ?_)
    refine FL.v (E.assign (v := Value.bool false) rfl) ?_
    refine FL.nil ?_
    refine FW.ret ?_
    obtain rfl := Option.some.inj hp
    exact ⟨.inr rfl, res1 rfl rfl ⟨rfl, S163.back⟩⟩
   ·
    refine FW.condF k188 c189 ?_
    refine FW.skip (FW.seq (FW.seq (FW.region ?_)))
    refine FL.v (E.move k187) ?_
    refine FL.v (E.not rfl) ?_
    refine FL.nil ?_
    rcases ifB hp with ⟨c190, hp⟩ | ⟨c190, hp⟩
    ·
     refine FW.condT rfl c190 ?_
     refine FW.seq (FW.region ?_)
     refine FL.v (E.move k185) ?_
     refine FL.v (E.not rfl) ?_
     refine FL.v (E.assign (v := Value.bool (!r30.2)) rfl) ?_
     refine FL.nil ?_
     refine FW.ret ?_
     obtain rfl := Option.some.inj hp
     exact ⟨.inr rfl, res1 rfl rfl ⟨rfl, S163.back⟩⟩
    ·
     refine FW.condF rfl c190 ?_
     refine FW.skip (FW.seq (FW.region ?_))
     refine FL.v (E.move k183) ?_
     obtain ⟨r191, hr192, hp⟩ := bnd hp
     refine FL.call rfl rfl rfl (E.call Tryz.call37 (A1 rfl)) (w_impl_CountModels S163.sl r25 hr192) ?_
     rintro e w193 ⟨rfl, r194⟩
     refine ⟨_, rfl, ?_⟩
     have S195 := S163.call r194
     refine FL.v (E.move (v := Value.tuple #[Value.int .i64 r191.1, Value.bool r191.2]) rfl) ?_
     refine FL.v (E.extract (i := 0) rfl rfl) ?_
     refine FL.v (E.extract (i := 1) rfl rfl) ?_
     refine FL.v (E.assign (v := Value.int .i64 r191.1) rfl) ?_
     refine FL.v (E.assign (v := Value.bool r191.2) rfl) ?_
     refine FL.nil (FW.seq (FW.region ?_))
     refine FL.v (E.move k186) ?_
     obtain ⟨H196, S197, i198, h199, nv200⟩ := S195.sealRowU (i := 1) (l' := [.row 118 3 v118 n119 cs120, .row 82 1 (Value.slice none 0 0) 0 [], .row 82 1 (Value.slice none 0 0) 0 []]) rfl (els111.mono (up_mono ((r117.run.inc.tr i130).tr i164))) (by decide) rfl
     obtain ⟨r201, hr202, hp⟩ := bnd hp
     refine FL.call rfl rfl rfl (E.call Tryz.call38 (A2 rfl rfl)) (w_impl_CountTrue S197.sl 6 v108 r102.1 (h199.mono upI) hr202) ?_
     rintro e w203 ⟨rfl, r204⟩
     refine ⟨_, rfl, ?_⟩
     have r204 := Run.lend i198 S195.sl r204
     have S205 := S195.call r204
     refine FL.v (E.move (v := Value.tuple #[Value.int .i64 r201.1, Value.bool r201.2]) rfl) ?_
     refine FL.v (E.extract (i := 0) rfl rfl) ?_
     refine FL.v (E.extract (i := 1) rfl rfl) ?_
     refine FL.v (E.assign (v := Value.int .i64 r201.1) rfl) ?_
     refine FL.v (E.assign (v := Value.bool r201.2) rfl) ?_
     refine FL.nil (FW.seq (FW.seq (FW.region ?_)))
     refine FL.v (E.move (v := Value.bool r191.2) rfl) ?_
     refine FL.v (E.not rfl) ?_
     refine FL.v (E.move (v := Value.bool (!r191.2)) rfl) ?_
     refine FL.cut 3 (fun f w => ∃ H : GH, St Ha wa H w [.row 118 3 v118 n119 cs120, .row 118 3 v108 n109 cs110, .row 82 1 (Value.slice none 0 0) 0 [], .row 82 1 (Value.slice none 0 0) 0 []] ∧ Inc H162 H ∧ f 3 = Value.string r25 ∧ f 4 = Value.pointer (some ⟨b42, 0, none⟩) ∧ f 5 = Value.bool r30.2 ∧ f 8 = v108 ∧ f 12 = Value.int .i64 r191.1 ∧ f 14 = Value.int .i64 r201.1 ∧ f 98 = Value.bool (bif (!r191.2) then true else (!r201.2))) ?_ ?_
     ·
      rcases bcase (!r191.2) with c212 | c212
      ·
       refine FL.skip (wF_no rfl rfl rfl c212) rfl ?_
       refine FL.skip (wF_no rfl rfl rfl c212) rfl ?_
       refine FL.v (E.pickT rfl c212 rfl) ?_
       exact FL.nil ⟨rfl, _, S205, (Inc.rfl _), k183, k184, k185, k186, rfl, rfl, (congrArg Value.bool (bifT c212).symm)⟩
      ·
       refine FL.val (wF_yes rfl rfl rfl c212) rfl rfl (E.move (v := Value.bool r201.2) rfl) ?_
       refine FL.val (wF_yes rfl rfl rfl c212) rfl rfl (E.not rfl) ?_
       refine FL.v (E.pickF rfl c212 rfl) ?_
       exact FL.nil ⟨rfl, _, S205, (Inc.rfl _), k183, k184, k185, k186, rfl, rfl, (congrArg Value.bool (bifF c212).symm)⟩
     rintro f211 w210 ⟨H207, S208, i209, k213, k214, k215, k216, k217, k218, k219⟩
     refine FL.v (E.move k219) ?_
     refine FL.cut 4 (fun f w => ∃ H : GH, St Ha wa H w [.row 118 3 v118 n119 cs120, .row 118 3 v108 n109 cs110, .row 82 1 (Value.slice none 0 0) 0 [], .row 82 1 (Value.slice none 0 0) 0 []] ∧ Inc H207 H ∧ f 3 = Value.string r25 ∧ f 4 = Value.pointer (some ⟨b42, 0, none⟩) ∧ f 5 = Value.bool r30.2 ∧ f 8 = v108 ∧ f 12 = Value.int .i64 r191.1 ∧ f 103 = Value.bool (bif (bif (!r191.2) then true else (!r201.2)) then true else (!(r191.1 == r201.1)))) ?_ ?_
     ·
      rcases bcase (bif (!r191.2) then true else (!r201.2)) with c226 | c226
      ·
       refine FL.skip (wF_no rfl rfl rfl c226) rfl ?_
       refine FL.skip (wF_no rfl rfl rfl c226) rfl ?_
       refine FL.skip (wF_no rfl rfl rfl c226) rfl ?_
       refine FL.v (E.pickT rfl c226 rfl) ?_
       exact FL.nil ⟨rfl, _, S208, (Inc.rfl _), k213, k214, k215, k216, k217, (congrArg Value.bool (bifT c226).symm)⟩
      ·
       refine FL.val (wF_yes rfl rfl rfl c226) rfl rfl (E.move k217) ?_
       refine FL.val (wF_yes rfl rfl rfl c226) rfl rfl (E.move k218) ?_
       refine FL.val (wF_yes rfl rfl rfl c226) rfl rfl (E.neq rfl rfl) ?_
       refine FL.v (E.pickF rfl c226 rfl) ?_
       exact FL.nil ⟨rfl, _, S208, (Inc.rfl _), k213, k214, k215, k216, k217, (congrArg Value.bool (bifF c226).symm)⟩
     rintro f225 w224 ⟨H221, S222, i223, k227, k228, k229, k230, k231, k232⟩
     refine FL.nil ?_
     rcases ifB hp with ⟨c233, hp⟩ | ⟨c233, hp⟩
     ·
      refine FW.condT k232 c233 ?_
      refine FW.seq (FW.region ?_)
      refine FL.v (E.assign (v := Value.bool false) rfl) ?_
      refine FL.nil ?_
      refine FW.ret ?_
      obtain rfl := Option.some.inj hp
      exact ⟨.inr rfl, res1 rfl rfl ⟨rfl, S222.back⟩⟩
     ·
      refine FW.condF k232 c233 ?_
      refine FW.skip (FW.seq (FW.seq (FW.region ?_)))
      refine FL.v (E.assign (v := Value.int .i64 0) rfl) ?_
      refine FL.nil ?_
      obtain ⟨q234, hq, hp⟩ := bndR hp
      refine FW.block ?_
      refine FW.mono (FW.forR (S := Unit) (X := Bool) (fun (i234 : Nat) (s234 : Unit) f w => ∃ H : GH, St Ha wa H w [.row 118 3 v108 n109 cs110] ∧ Inc H221 H ∧ f 16 = Value.int .i64 ((i234 : Nat) : Int) ∧ f 3 = Value.string r25 ∧ f 4 = Value.pointer (some ⟨b42, 0, none⟩) ∧ f 5 = Value.bool r30.2 ∧ f 8 = v108 ∧ f 12 = Value.int .i64 r191.1) (fun q e f w => match q with | .go s234 => e = Exit.exit 0 ∧ (∃ H : GH, St Ha wa H w [.row 118 3 v108 n109 cs110] ∧ Inc H221 H ∧ f 3 = Value.string r25 ∧ f 4 = Value.pointer (some ⟨b42, 0, none⟩) ∧ f 5 = Value.bool r30.2 ∧ f 12 = Value.int .i64 r191.1) | .rt x => ((e = Exit.ret) ∧ (fun e f w => (e = Exit.normal ∨ e = Exit.ret) ∧ ∀ a, Fr (δ := []) 209 a f → ∃ v, (results Tryz.f8 a.tmps).run Tryz.prog w = .ok v w ∧ (Sc Ha wa (Value.bool x)) (.returned v) w) e f w)) hq ⟨_, (S222.sel [1] (by decide) rfl), (Inc.rfl _), rfl, k227, k228, k229, k230, k231⟩ ?_ ?_) ?_
      ·
       clear hp hq
       rintro i234 s234 f296 w295 ⟨H292, S293, i294, k297, k298, k299, k300, k301, k302⟩ hi234 hj234 o349 hp
       refine FW.seq (FW.seq (FW.region ?_))
       refine FL.v (E.move k297) ?_
       refine FL.v (E.lssT rfl rfl (lss_nat hj234)) ?_
       refine FL.nil ?_
       refine FW.condT rfl rfl ?_
       refine FW.skip (FW.seq (FW.block (FW.seq (FW.region ?_))))
       refine FL.v (E.move k298) ?_
       refine FL.v (E.move k297) ?_
       obtain ⟨r303, hr304, hp⟩ := bnd hp
       refine FL.call rfl rfl rfl (E.call Tryz.call39 (A2 rfl rfl)) (w_impl_FormulaValue S293.sl r25 ((i234 : Nat) : Int) hr304) ?_
       rintro e w305 ⟨rfl, r306⟩
       refine ⟨_, rfl, ?_⟩
       have S307 := S293.call r306
       refine FL.v (E.move (v := Value.tuple #[Value.bool r303.1, Value.bool r303.2]) rfl) ?_
       refine FL.v (E.extract (i := 0) rfl rfl) ?_
       refine FL.v (E.extract (i := 1) rfl rfl) ?_
       refine FL.v (E.assign (v := Value.bool r303.1) rfl) ?_
       refine FL.v (E.assign (v := Value.bool r303.2) rfl) ?_
       refine FL.nil (FW.seq (FW.region ?_))
       refine FL.v (E.move k301) ?_
       refine FL.v (E.move k297) ?_
       obtain ⟨H308, S309, i310, h311, nv312⟩ := S307.sealRowU (i := 0) (l' := []) rfl (els111.mono (up_mono (((((r117.run.inc.tr i130).tr i164).tr i209).tr i223).tr i294))) (by decide) rfl
       obtain ⟨r313, hr314, hp⟩ := bnd hp
       refine FL.call rfl rfl rfl (E.call Tryz.call40 (A3 rfl rfl rfl)) (w_impl_CircuitValue S309.sl 6 v108 r102.1 (h311.mono upI) ((i234 : Nat) : Int) hr314) ?_
       rintro e w315 ⟨rfl, r316⟩
       refine ⟨_, rfl, ?_⟩
       have r316 := Run.lend i310 S307.sl r316
       have S317 := S307.call r316
       refine FL.v (E.move (v := Value.tuple #[Value.bool r313.1, Value.bool r313.2]) rfl) ?_
       refine FL.v (E.extract (i := 0) rfl rfl) ?_
       refine FL.v (E.extract (i := 1) rfl rfl) ?_
       refine FL.v (E.assign (v := Value.bool r313.1) rfl) ?_
       refine FL.v (E.assign (v := Value.bool r313.2) rfl) ?_
       refine FL.nil (FW.seq (FW.region ?_))
       refine FL.v (E.move (v := Value.bool r303.2) rfl) ?_
       refine FL.v (E.not rfl) ?_
       refine FL.v (E.move (v := Value.bool (!r303.2)) rfl) ?_
       refine FL.cut 3 (fun f w => ∃ H : GH, St Ha wa H w [.row 118 3 v108 n109 cs110] ∧ Inc H292 H ∧ f 3 = Value.string r25 ∧ f 4 = Value.pointer (some ⟨b42, 0, none⟩) ∧ f 5 = Value.bool r30.2 ∧ f 8 = v108 ∧ f 12 = Value.int .i64 r191.1 ∧ f 16 = Value.int .i64 ((i234 : Nat) : Int) ∧ f 17 = Value.bool r303.1 ∧ f 19 = Value.bool r313.1 ∧ f 125 = Value.bool (bif (!r303.2) then true else (!r313.2))) ?_ ?_
       ·
        rcases bcase (!r303.2) with c324 | c324
        ·
         refine FL.skip (wF_no rfl rfl rfl c324) rfl ?_
         refine FL.skip (wF_no rfl rfl rfl c324) rfl ?_
         refine FL.v (E.pickT rfl c324 rfl) ?_
         exact FL.nil ⟨rfl, _, S317, (Inc.rfl _), k298, k299, k300, k301, k302, k297, rfl, rfl, (congrArg Value.bool (bifT c324).symm)⟩
        ·
         refine FL.val (wF_yes rfl rfl rfl c324) rfl rfl (E.move (v := Value.bool r313.2) rfl) ?_
         refine FL.val (wF_yes rfl rfl rfl c324) rfl rfl (E.not rfl) ?_
         refine FL.v (E.pickF rfl c324 rfl) ?_
         exact FL.nil ⟨rfl, _, S317, (Inc.rfl _), k298, k299, k300, k301, k302, k297, rfl, rfl, (congrArg Value.bool (bifF c324).symm)⟩
       rintro f323 w322 ⟨H319, S320, i321, k325, k326, k327, k328, k329, k330, k331, k332, k333⟩
       refine FL.v (E.move k333) ?_
       refine FL.cut 4 (fun f w => ∃ H : GH, St Ha wa H w [.row 118 3 v108 n109 cs110] ∧ Inc H319 H ∧ f 3 = Value.string r25 ∧ f 4 = Value.pointer (some ⟨b42, 0, none⟩) ∧ f 5 = Value.bool r30.2 ∧ f 8 = v108 ∧ f 12 = Value.int .i64 r191.1 ∧ f 16 = Value.int .i64 ((i234 : Nat) : Int) ∧ f 130 = Value.bool (bif (bif (!r303.2) then true else (!r313.2)) then true else (!(r303.1 == r313.1)))) ?_ ?_
       ·
        rcases bcase (bif (!r303.2) then true else (!r313.2)) with c340 | c340
        ·
         refine FL.skip (wF_no rfl rfl rfl c340) rfl ?_
         refine FL.skip (wF_no rfl rfl rfl c340) rfl ?_
         refine FL.skip (wF_no rfl rfl rfl c340) rfl ?_
         refine FL.v (E.pickT rfl c340 rfl) ?_
         exact FL.nil ⟨rfl, _, S320, (Inc.rfl _), k325, k326, k327, k328, k329, k330, (congrArg Value.bool (bifT c340).symm)⟩
        ·
         refine FL.val (wF_yes rfl rfl rfl c340) rfl rfl (E.move k331) ?_
         refine FL.val (wF_yes rfl rfl rfl c340) rfl rfl (E.move k332) ?_
         refine FL.val (wF_yes rfl rfl rfl c340) rfl rfl (E.neqB Tryz.runUnderlying4 rfl rfl) ?_
         refine FL.v (E.pickF rfl c340 rfl) ?_
         exact FL.nil ⟨rfl, _, S320, (Inc.rfl _), k325, k326, k327, k328, k329, k330, (congrArg Value.bool (bifF c340).symm)⟩
       rintro f339 w338 ⟨H335, S336, i337, k341, k342, k343, k344, k345, k346, k347⟩
       refine FL.nil ?_
       rcases ifB hp with ⟨c348, hp⟩ | ⟨c348, hp⟩
       ·
        refine FW.condT k347 c348 ?_
        refine FW.seq (FW.region ?_)
        refine FL.v (E.assign (v := Value.bool false) rfl) ?_
        refine FL.nil ?_
        refine FW.ret ?_
        obtain rfl := Option.some.inj hp
        exact ⟨nofun, rfl, ⟨.inr rfl, res1 rfl rfl ⟨rfl, S336.back⟩⟩⟩
       ·
        refine FW.condF k347 c348 ?_
        refine FW.skip (FW.region ?_)
        refine FL.v (E.move k346) ?_
        refine FL.v (E.add rfl rfl) ?_
        refine FL.v (E.assign (v := Value.int .i64 (wr (((i234 : Nat) : Int) + 1))) rfl) ?_
        refine FL.nil ?_
        obtain rfl := Option.some.inj hp
        exact ⟨rfl, ⟨_, S336, ((i294.tr i321).tr i337), (nat_succ rfl hj234 (by simp [maxLen])), k341, k342, k343, k344, k345⟩⟩
      ·
       clear hp hq
       rintro s234 f568 w567 ⟨H564, S565, i566, k569, k570, k571, k572, k573, k574⟩
       refine FW.seq (FW.seq (FW.region ?_))
       refine FL.v (E.move k569) ?_
       refine FL.v (E.lss rfl rfl) ?_
       refine FL.nil ?_
       refine FW.condF rfl dlt_maxnat ?_
       refine FW.exit ?_
       exact ⟨nofun, rfl, ⟨_, S565, i566, k570, k571, k572, k574⟩⟩
      ·
       clear hq
       intro e f354 w353 hD
       rcases q234 with s234 | x234
       ·
        obtain ⟨rfl, hD⟩ := hD
        obtain ⟨H350, S351, i352, k355, k356, k357, k358⟩ := hD
        replace hp := el_go hp
        refine FW.seq (FW.seq (FW.region ?_))
        refine FL.v (E.move k357) ?_
        refine FL.nil ?_
        obtain ⟨q404, hq, hp⟩ := bndR hp
        refine FW.joinE (S := Unit) (X := Bool) (q := q404) (fun s403 f w => ∃ H : GH, St Ha wa H w [] ∧ Inc H350 H ∧ f 3 = Value.string r25) (fun x e f w => (e = Exit.ret) ∧ (fun e f w => (e = Exit.normal ∨ e = Exit.ret) ∧ ∀ a, Fr (δ := []) 209 a f → ∃ v, (results Tryz.f8 a.tmps).run Tryz.prog w = .ok v w ∧ (Sc Ha wa (Value.bool x)) (.returned v) w) e f w) ?_ ?_ ?_
        ·
         clear hp; have hp := hq; clear hq
         rcases ifB hp with ⟨c406, hp⟩ | ⟨c406, hp⟩
         ·
          refine FW.condT rfl c406 ?_
          refine FW.seq (FW.region ?_)
          refine FL.v (E.load k356 (run_loadA Tryz.isAgg46 Tryz.sizeOf46 ((at54.mono (((((((((r60.inc.tr i78).tr i88).tr r107.run.inc).tr r117.run.inc).tr i130).tr i164).tr i209).tr i223).tr i352)).now S351.sl) rfl)) ?_
          obtain ⟨r407, hr408, hp⟩ := bnd hp
          refine FL.call rfl rfl rfl (E.call Tryz.call41 (A1 rfl)) (w_impl_CountCnfModels S351.sl r30.1 v36 (h37.mono (upI.tr ((((((((((i53.tr r60.inc).tr i78).tr i88).tr r107.run.inc).tr r117.run.inc).tr i130).tr i164).tr i209).tr i223).tr i352))) hr408) ?_
          rintro e w409 ⟨rfl, r410⟩
          refine ⟨_, rfl, ?_⟩
          have S411 := S351.call r410
          refine FL.v (E.move (v := Value.tuple #[Value.int .i64 r407.1, Value.bool r407.2]) rfl) ?_
          refine FL.v (E.extract (i := 0) rfl rfl) ?_
          refine FL.v (E.extract (i := 1) rfl rfl) ?_
          refine FL.v (E.assign (v := Value.int .i64 r407.1) rfl) ?_
          refine FL.v (E.assign (v := Value.bool r407.2) rfl) ?_
          refine FL.nil (FW.seq (FW.region ?_))
          refine FL.v (E.load k356 (run_loadA Tryz.isAgg46 Tryz.sizeOf46 ((at54.mono (((((((((r60.inc.tr i78).tr i88).tr r107.run.inc).tr r117.run.inc).tr i130).tr i164).tr i209).tr i223).tr i352)).now S411.sl) rfl)) ?_
          obtain ⟨r412, hr413, hp⟩ := bnd hp
          refine FL.call rfl rfl rfl (E.call Tryz.call42 (A1 rfl)) (w_impl_IsSatisfiable S411.sl r30.1 v36 (h37.mono (upI.tr ((((((((((i53.tr r60.inc).tr i78).tr i88).tr r107.run.inc).tr r117.run.inc).tr i130).tr i164).tr i209).tr i223).tr i352))) hr413) ?_
          rintro e w414 ⟨rfl, r415⟩
          refine ⟨_, rfl, ?_⟩
          have S416 := S411.call r415
          refine FL.v (E.move (v := Value.tuple #[Value.bool r412.1, Value.bool r412.2]) rfl) ?_
          refine FL.v (E.extract (i := 0) rfl rfl) ?_
          refine FL.v (E.extract (i := 1) rfl rfl) ?_
          refine FL.v (E.assign (v := Value.bool r412.1) rfl) ?_
          refine FL.v (E.assign (v := Value.bool r412.2) rfl) ?_
          refine FL.nil (FW.seq (FW.region ?_))
          refine FL.v (E.move (v := Value.bool r407.2) rfl) ?_
          refine FL.v (E.not rfl) ?_
          refine FL.v (E.move (v := Value.bool (!r407.2)) rfl) ?_
          refine FL.cut 3 (fun f w => ∃ H : GH, St Ha wa H w [.row 118 3 v108 n109 cs110] ∧ Inc H350 H ∧ f 3 = Value.string r25 ∧ f 12 = Value.int .i64 r191.1 ∧ f 21 = Value.int .i64 r407.1 ∧ f 23 = Value.bool r412.1 ∧ f 147 = Value.bool (bif (!r407.2) then true else (!r412.2))) ?_ ?_
          ·
           rcases bcase (!r407.2) with c423 | c423
           ·
            refine FL.skip (wF_no rfl rfl rfl c423) rfl ?_
            refine FL.skip (wF_no rfl rfl rfl c423) rfl ?_
            refine FL.v (E.pickT rfl c423 rfl) ?_
            exact FL.nil ⟨rfl, _, S416, (Inc.rfl _), k355, k358, rfl, rfl, (congrArg Value.bool (bifT c423).symm)⟩
           ·
            refine FL.val (wF_yes rfl rfl rfl c423) rfl rfl (E.move (v := Value.bool r412.2) rfl) ?_
            refine FL.val (wF_yes rfl rfl rfl c423) rfl rfl (E.not rfl) ?_
            refine FL.v (E.pickF rfl c423 rfl) ?_
            exact FL.nil ⟨rfl, _, S416, (Inc.rfl _), k355, k358, rfl, rfl, (congrArg Value.bool (bifF c423).symm)⟩
          rintro f422 w421 ⟨H418, S419, i420, k424, k425, k426, k427, k428⟩
          refine FL.v (E.move k428) ?_
          refine FL.cut 4 (fun f w => ∃ H : GH, St Ha wa H w [.row 118 3 v108 n109 cs110] ∧ Inc H418 H ∧ f 3 = Value.string r25 ∧ f 12 = Value.int .i64 r191.1 ∧ f 23 = Value.bool r412.1 ∧ f 152 = Value.bool (bif (bif (!r407.2) then true else (!r412.2)) then true else (!(r407.1 == r191.1)))) ?_ ?_
          ·
           rcases bcase (bif (!r407.2) then true else (!r412.2)) with c435 | c435
           ·
            refine FL.skip (wF_no rfl rfl rfl c435) rfl ?_
            refine FL.skip (wF_no rfl rfl rfl c435) rfl ?_
            refine FL.skip (wF_no rfl rfl rfl c435) rfl ?_
            refine FL.v (E.pickT rfl c435 rfl) ?_
            exact FL.nil ⟨rfl, _, S419, (Inc.rfl _), k424, k425, k427, (congrArg Value.bool (bifT c435).symm)⟩
           ·
            refine FL.val (wF_yes rfl rfl rfl c435) rfl rfl (E.move k426) ?_
            refine FL.val (wF_yes rfl rfl rfl c435) rfl rfl (E.move k425) ?_
            refine FL.val (wF_yes rfl rfl rfl c435) rfl rfl (E.neq rfl rfl) ?_
            refine FL.v (E.pickF rfl c435 rfl) ?_
            exact FL.nil ⟨rfl, _, S419, (Inc.rfl _), k424, k425, k427, (congrArg Value.bool (bifF c435).symm)⟩
          rintro f434 w433 ⟨H430, S431, i432, k436, k437, k438, k439⟩
          refine FL.v (E.move k439) ?_
          refine FL.cut 5 (fun f w => ∃ H : GH, St Ha wa H w [.row 118 3 v108 n109 cs110] ∧ Inc H430 H ∧ f 3 = Value.string r25 ∧ f 158 = Value.bool (bif (bif (bif (!r407.2) then true else (!r412.2)) then true else (!(r407.1 == r191.1))) then true else (!(r412.1 == (decide (0 < r191.1)))))) ?_ ?_
          ·
           rcases bcase (bif (bif (!r407.2) then true else (!r412.2)) then true else (!(r407.1 == r191.1))) with c446 | c446
           ·
            refine FL.skip (wF_no rfl rfl rfl c446) rfl ?_
            refine FL.skip (wF_no rfl rfl rfl c446) rfl ?_
            refine FL.skip (wF_no rfl rfl rfl c446) rfl ?_
            refine FL.skip (wF_no rfl rfl rfl c446) rfl ?_
            refine FL.v (E.pickT rfl c446 rfl) ?_
            exact FL.nil ⟨rfl, _, S431, (Inc.rfl _), k436, (congrArg Value.bool (bifT c446).symm)⟩
           ·
            refine FL.val (wF_yes rfl rfl rfl c446) rfl rfl (E.move k438) ?_
            refine FL.val (wF_yes rfl rfl rfl c446) rfl rfl (E.move k437) ?_
            refine FL.val (wF_yes rfl rfl rfl c446) rfl rfl (E.gtr rfl rfl) ?_
            refine FL.val (wF_yes rfl rfl rfl c446) rfl rfl (E.neqB Tryz.runUnderlying4 rfl rfl) ?_
            refine FL.v (E.pickF rfl c446 rfl) ?_
            exact FL.nil ⟨rfl, _, S431, (Inc.rfl _), k436, (congrArg Value.bool (bifF c446).symm)⟩
          rintro f445 w444 ⟨H441, S442, i443, k447, k448⟩
          refine FL.nil ?_
          rcases ifB hp with ⟨c449, hp⟩ | ⟨c449, hp⟩
          ·
           refine FW.condT k448 c449 ?_
           refine FW.seq (FW.region ?_)
           refine FL.v (E.assign (v := Value.bool false) rfl) ?_
           refine FL.nil ?_
           refine FW.ret ?_
           obtain rfl := Option.some.inj hp
           exact ⟨nofun, rfl, ⟨.inr rfl, res1 rfl rfl ⟨rfl, S442.back⟩⟩⟩
          ·
           refine FW.condF k448 c449 ?_
           refine FW.skip ?_
           obtain rfl := Option.some.inj hp
           exact ⟨rfl, ⟨_, (S442.sel [] (by decide) rfl), ((i420.tr i432).tr i443), k447⟩⟩
         ·
          refine FW.condF rfl c406 ?_
          refine FW.skip ?_
          obtain rfl := Option.some.inj hp
          exact ⟨rfl, ⟨_, (S351.sel [] (by decide) rfl), (Inc.rfl _), k355⟩⟩
        ·
         rintro s403 rfl f454 w453 ⟨H450, S451, i452, k455⟩
         replace hp := el_go hp
         refine FW.seq (FW.region ?_)
         refine FL.v (E.move k455) ?_
         obtain ⟨r456, hr457, hp⟩ := bnd hp
         refine FL.call rfl rfl rfl (E.call Tryz.call43 (A1 rfl)) (w_impl_FormulaParts S451.sl r25 hr457) ?_
         rintro e w459 ⟨H458, v462, n463, cs464, rfl, r461, els465⟩
         refine ⟨_, rfl, ?_⟩
         have els465 := els465.mono (up_le S451.size)
         have S460 := S451.join (l' := [.row 9 1 v462 n463 cs464]) r461 rfl
         refine FL.v (E.move (v := Value.tuple #[v462, Value.bool r456.2]) rfl) ?_
         refine FL.v (E.extract (i := 0) rfl rfl) ?_
         refine FL.v (E.extract (i := 1) rfl rfl) ?_
         refine FL.v (E.assign (v := v462) rfl) ?_
         refine FL.v (E.assign (v := Value.bool r456.2) rfl) ?_
         refine FL.nil (FW.seq (FW.seq (FW.region ?_)))
         refine FL.v (E.move k455) ?_
         obtain ⟨r466, hr467, hp⟩ := bnd hp
         refine FL.call rfl rfl rfl (E.call Tryz.call44 (A1 rfl)) (w_spec_FormulaParts S460.sl r25 hr467) ?_
         rintro e w469 ⟨H468, v472, rfl, r471, h473⟩
         refine ⟨_, rfl, ?_⟩
         have S470 := S460.call r471
         refine FL.v (E.move (v := Value.tuple #[v472, Value.bool r466.2]) rfl) ?_
         refine FL.v (E.extract (i := 0) rfl rfl) ?_
         refine FL.v (E.extract (i := 1) rfl rfl) ?_
         refine FL.v (E.assign (v := v472) rfl) ?_
         refine FL.v (E.assign (v := Value.bool r466.2) rfl) ?_
         refine FL.nil (FW.seq (FW.region ?_))
         refine FL.v (E.move (v := Value.bool r456.2) rfl) ?_
         refine FL.v (E.move (v := Value.bool r466.2) rfl) ?_
         refine FL.v (E.neqB Tryz.runUnderlying4 rfl rfl) ?_
         refine FL.v (E.move (v := Value.bool (!(r456.2 == r466.2))) rfl) ?_
         refine FL.cut 3 (fun f w => ∃ H : GH, St Ha wa H w [.row 9 1 v462 n463 cs464] ∧ Inc H468 H ∧ f 3 = Value.string r25 ∧ f 25 = v462 ∧ f 27 = v472 ∧ f 175 = Value.bool (bif (!(r456.2 == r466.2)) then true else (!r456.2))) ?_ ?_
         ·
          rcases bcase (!(r456.2 == r466.2)) with c480 | c480
          ·
           refine FL.skip (wF_no rfl rfl rfl c480) rfl ?_
           refine FL.skip (wF_no rfl rfl rfl c480) rfl ?_
           refine FL.v (E.pickT rfl c480 rfl) ?_
           exact FL.nil ⟨rfl, _, S470, (Inc.rfl _), k455, rfl, rfl, (congrArg Value.bool (bifT c480).symm)⟩
          ·
           refine FL.val (wF_yes rfl rfl rfl c480) rfl rfl (E.move (v := Value.bool r456.2) rfl) ?_
           refine FL.val (wF_yes rfl rfl rfl c480) rfl rfl (E.not rfl) ?_
           refine FL.v (E.pickF rfl c480 rfl) ?_
           exact FL.nil ⟨rfl, _, S470, (Inc.rfl _), k455, rfl, rfl, (congrArg Value.bool (bifF c480).symm)⟩
         rintro f479 w478 ⟨H475, S476, i477, k481, k482, k483, k484⟩
         refine FL.v (E.move k484) ?_
         obtain ⟨t495, hqt495, hp⟩ := bnd hp
         refine FL.cut 5 (fun f w => ∃ H : GH, St Ha wa H w [.row 9 1 v462 n463 cs464] ∧ Inc H475 H ∧ f 3 = Value.string r25 ∧ f 25 = v462 ∧ f 181 = Value.bool t495) ?_ ?_
         ·
          clear hp; have hp := hqt495; clear hqt495
          rcases ifB hp with ⟨c501, hp⟩ | ⟨c501, hp⟩
          ·
           refine FL.skip (wF_no rfl rfl rfl c501) rfl ?_
           refine FL.skip (wF_no rfl rfl rfl c501) rfl ?_
           refine FL.skip (wF_no rfl rfl rfl c501) rfl ?_
           refine FL.skip (wF_no rfl rfl rfl c501) rfl ?_
           obtain rfl := Option.some.inj hp
           refine FL.v (E.pickT rfl c501 rfl) ?_
           exact FL.nil ⟨rfl, _, S476, (Inc.rfl _), k481, k482, rfl⟩
          ·
           refine FL.val (wF_yes rfl rfl rfl c501) rfl rfl (E.move k482) ?_
           refine FL.val (wF_yes rfl rfl rfl c501) rfl rfl (E.move k483) ?_
           obtain ⟨H502, S503, i504, h505, nv506⟩ := S476.sealRowU (i := 0) (l' := []) rfl (els465.mono (up_mono (r471.inc.tr i477))) (by decide) rfl
           obtain ⟨r507, hr508, hp⟩ := bnd hp
           refine FL.call (wF_yes rfl rfl rfl c501) rfl rfl (E.call Tryz.call45 (A2 rfl rfl)) (w_laws_rTexts S503.sl v462 r456.1 (h505.mono upI) v472 r466.1 (h473.mono (i477.tr i504)) hr508) ?_
           rintro e w509 ⟨rfl, r510⟩
           refine ⟨_, rfl, ?_⟩
           have r510 := Run.lend i504 S476.sl r510
           have S511 := S476.call r510
           refine FL.val (wF_yes rfl rfl rfl c501) rfl rfl (E.not rfl) ?_
           obtain rfl := Option.some.inj hp
           refine FL.v (E.pickF rfl c501 rfl) ?_
           exact FL.nil ⟨rfl, _, S511, (Inc.rfl _), k481, k482, rfl⟩
         rintro f500 w499 ⟨H496, S497, i498, k512, k513, k514⟩
         refine FL.v (E.move k514) ?_
         refine FL.cut 4 (fun f w => ∃ H : GH, St Ha wa H w [.row 9 1 v462 n463 cs464] ∧ Inc H496 H ∧ f 3 = Value.string r25 ∧ f 25 = v462 ∧ f 186 = Value.bool (bif t495 then true else ((len r456.1) == 0))) ?_ ?_
         ·
          rcases bcase t495 with c521 | c521
          ·
           refine FL.skip (wF_no rfl rfl rfl c521) rfl ?_
           refine FL.skip (wF_no rfl rfl rfl c521) rfl ?_
           refine FL.skip (wF_no rfl rfl rfl c521) rfl ?_
           refine FL.v (E.pickT rfl c521 rfl) ?_
           exact FL.nil ⟨rfl, _, S497, (Inc.rfl _), k512, k513, (congrArg Value.bool (bifT c521).symm)⟩
          ·
           refine FL.val (wF_yes rfl rfl rfl c521) rfl rfl (E.move k513) ?_
           refine FL.val (wF_yes rfl rfl rfl c521) rfl rfl (E.lenO te22 rfl S497 (i := 0) rfl els465 (by decide)) ?_
           refine FL.val (wF_yes rfl rfl rfl c521) rfl rfl (E.eql rfl rfl) ?_
           refine FL.v (E.pickF rfl c521 rfl) ?_
           exact FL.nil ⟨rfl, _, S497, (Inc.rfl _), k512, k513, (congrArg Value.bool (bifF c521).symm)⟩
         rintro f520 w519 ⟨H516, S517, i518, k522, k523, k524⟩
         refine FL.v (E.move k524) ?_
         obtain ⟨t533, hqt533, hp⟩ := bnd hp
         refine FL.cut 9 (fun f w => ∃ H : GH, St Ha wa H w [.row 9 1 v462 n463 cs464] ∧ Inc H516 H ∧ f 3 = Value.string r25 ∧ f 196 = Value.bool t533) ?_ ?_
         ·
          clear hp; have hp := hqt533; clear hqt533
          rcases ifB hp with ⟨c539, hp⟩ | ⟨c539, hp⟩
          ·
           refine FL.skip (wF_no rfl rfl rfl c539) rfl ?_
           refine FL.skip (wF_no rfl rfl rfl c539) rfl ?_
           refine FL.skip (wF_no rfl rfl rfl c539) rfl ?_
           refine FL.skip (wF_no rfl rfl rfl c539) rfl ?_
           refine FL.skip (wF_no rfl rfl rfl c539) rfl ?_
           refine FL.skip (wF_no rfl rfl rfl c539) rfl ?_
           refine FL.skip (wF_no rfl rfl rfl c539) rfl ?_
           refine FL.skip (wF_no rfl rfl rfl c539) rfl ?_
           obtain rfl := Option.some.inj hp
           refine FL.v (E.pickT rfl c539 rfl) ?_
           exact FL.nil ⟨rfl, _, S517, (Inc.rfl _), k522, rfl⟩
          ·
           refine FL.val (wF_yes rfl rfl rfl c539) rfl rfl (E.move k523) ?_
           refine FL.val (wF_yes rfl rfl rfl c539) rfl rfl (E.move k523) ?_
           refine FL.val (wF_yes rfl rfl rfl c539) rfl rfl (E.lenO te22 rfl S517 (i := 0) rfl els465 (by decide)) ?_
           refine FL.val (wF_yes rfl rfl rfl c539) rfl rfl (E.sub rfl rfl) ?_
           obtain ⟨x546, hx547, hp⟩ := bnd hp
           obtain ⟨p540, cs541, pt542, l543, at544, rel545⟩ := S517.row_at (i := 0) rfl els465 (by decide) hx547
           obtain rfl := eS_open rel545
           refine FL.val (wF_yes rfl rfl rfl c539) rfl rfl (E.indexAddr te22 rfl rfl pt542) ?_
           refine FL.val (wF_yes rfl rfl rfl c539) rfl rfl (E.load rfl (run_load0 Tryz.isAgg9 at544 rfl)) ?_
           refine FL.val (wF_yes rfl rfl rfl c539) rfl rfl (E.move k522) ?_
           refine FL.val (wF_yes rfl rfl rfl c539) rfl rfl (E.neqS rfl rfl) ?_
           obtain rfl := Option.some.inj hp
           refine FL.v (E.pickF rfl c539 rfl) ?_
           exact FL.nil ⟨rfl, _, S517, (Inc.rfl _), k522, rfl⟩
         rintro f538 w537 ⟨H534, S535, i536, k548, k549⟩
         refine FL.nil ?_
         rcases ifB hp with ⟨c550, hp⟩ | ⟨c550, hp⟩
         ·
          refine FW.condT k549 c550 ?_
          refine FW.seq (FW.region ?_)
          refine FL.v (E.assign (v := Value.bool false) rfl) ?_
          refine FL.nil ?_
          refine FW.ret ?_
          obtain rfl := Option.some.inj hp
          exact ⟨.inr rfl, res1 rfl rfl ⟨rfl, S535.back⟩⟩
         ·
          refine FW.condF k549 c550 ?_
          refine FW.skip (FW.seq (FW.region ?_))
          refine FL.v (E.move k548) ?_
          obtain ⟨r551, hr552, hp⟩ := bnd hp
          refine FL.call rfl rfl rfl (E.call Tryz.call46 (A1 rfl)) (w_impl_FormulaDepth S535.sl r25 hr552) ?_
          rintro e w553 ⟨rfl, r554⟩
          refine ⟨_, rfl, ?_⟩
          have S555 := S535.call r554
          refine FL.v (E.move (v := Value.tuple #[Value.int .i64 r551.1, Value.bool r551.2]) rfl) ?_
          refine FL.v (E.extract (i := 0) rfl rfl) ?_
          refine FL.v (E.extract (i := 1) rfl rfl) ?_
          refine FL.v (E.assign (v := Value.int .i64 r551.1) rfl) ?_
          refine FL.v (E.assign (v := Value.bool r551.2) rfl) ?_
          refine FL.nil (FW.seq (FW.region ?_))
          refine FL.v (E.move (v := Value.bool r551.2) rfl) ?_
          refine FL.v (E.move (v := Value.bool r551.2) rfl) ?_
          refine FL.cut 5 (fun f w => ∃ H : GH, St Ha wa H w [.row 9 1 v462 n463 cs464] ∧ Inc H534 H ∧ f 208 = Value.bool (bif r551.2 then (decide (r551.1 < (r25.size : Int))) else false)) ?_ ?_
          ·
           rcases bcase r551.2 with c562 | c562
           ·
            refine FL.val (wF_yes rfl rfl rfl c562) rfl rfl (E.move (v := Value.int .i64 r551.1) rfl) ?_
            refine FL.val (wF_yes rfl rfl rfl c562) rfl rfl (E.move k548) ?_
            refine FL.val (wF_yes rfl rfl rfl c562) rfl rfl (E.lenS Tryz.runUnderlying9 rfl) ?_
            refine FL.val (wF_yes rfl rfl rfl c562) rfl rfl (E.lss rfl rfl) ?_
            refine FL.v (E.pickT rfl c562 rfl) ?_
            exact FL.nil ⟨rfl, _, S555, (Inc.rfl _), (congrArg Value.bool (bifT c562).symm)⟩
           ·
            refine FL.skip (wF_no rfl rfl rfl c562) rfl ?_
            refine FL.skip (wF_no rfl rfl rfl c562) rfl ?_
            refine FL.skip (wF_no rfl rfl rfl c562) rfl ?_
            refine FL.skip (wF_no rfl rfl rfl c562) rfl ?_
            refine FL.v (E.pickF rfl c562 rfl) ?_
            exact FL.nil ⟨rfl, _, S555, (Inc.rfl _), (congrArg Value.bool (bifF c562).symm)⟩
          rintro f561 w560 ⟨H557, S558, i559, k563⟩
          refine FL.v (E.assign k563) ?_
          refine FL.nil ?_
          refine FW.ret ?_
          obtain rfl := Option.some.inj hp
          exact ⟨.inr rfl, res1 rfl rfl ⟨rfl, S558.back⟩⟩
        ·
         rintro x405 rfl e f w hne ⟨he, hL⟩
         replace hp := el_rt hp
         obtain rfl := Option.some.inj hp
         subst he
         exact hL
       ·
        obtain ⟨he, hL⟩ := hD
        replace hp := el_rt hp
        obtain rfl := Option.some.inj hp
        subst he
        exact hL

end Go.Proofs
