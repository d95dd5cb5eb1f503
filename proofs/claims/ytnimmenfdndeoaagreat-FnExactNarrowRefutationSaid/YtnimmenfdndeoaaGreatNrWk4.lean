/- Part of the walks and plain laws behind the claim: it proves helpers, under no condition beyond their own. -/
import Derived.Test.YtnimmenfdndeoaaGreatNrWk3
set_option linter.unusedVariables false
set_option maxRecDepth 100000
namespace Go.Proofs
open Go.Mr Go.Pu Go.PF Go.RowKit

@[reducible] def p_impl_closure_source (Ha : GH) (wa : World) (r : ((List Int) × (List Int) × Int)) : Ending → World → Prop :=
 fun e w' => ∃ H' : GH, ∃ v0 : Value, ∃ v1 : Value, e = .returned (Value.tuple #[v0, v1, Value.int .i64 r.2.2]) ∧ Run wa.heap.size Ha wa H' w' ∧ RSl (up wa.heap.size H') eI 1 v0 r.1 ∧ RSl (up wa.heap.size H') eI 1 v1 r.2.1
set_option maxHeartbeats 4000000 in
theorem w_impl_closure_source {Ha : GH} {wa : World} (hs : Sl Ha wa) (q0P : Addr) (a0 : closure) (v0P_0 : Value) (v0P_1 : Value) (p0P_0 : RSl Ha (eN .u16) 1 v0P_0 a0.masks) (p0P_1 : MAt (K := Int) (V := Int) Ha (Value.int .u16) (Value.int .i64) v0P_1 a0.rounds) (c0P : CAt Ha q0P [v0P_0, v0P_1, Value.int .i64 a0.last]) (v1 : Value) (a1 : List Int) (p1 : RSl Ha eI 1 v1 a1) {r : ((List Int) × (List Int) × Int)} (hp : (PF.impl_closure_source a0 a1) = some r) :
  Calls Tryz.prog 258 #[Value.pointer (some q0P), v1] wa (p_impl_closure_source Ha wa r) := by
 unfold PF.impl_closure_source at hp
 have S0 := St.init hs
 refine calls_go (N := 73) (args := [Value.pointer (some q0P), v1]) Tryz.func258 rfl rfl rfl ?_
 refine FW.seq (FW.region ?_)
 obtain ⟨b21, w22, run23, S24⟩ := S0.box (P := Tryz.prog) 92 [Value.pointer (some q0P)] (v := Value.pointer (some q0P)) rfl (ones_cons rfl ones_nil)
 refine FL.v (E.box rfl run23) ?_
 obtain ⟨H25, S26, i27, at28⟩ := S24.sealBox (i := 0) (l' := []) rfl rfl
 refine FL.v (E.assign (v := Value.slice none 0 0) rfl) ?_
 refine FL.v (E.assign (v := Value.slice none 0 0) rfl) ?_
 refine FL.v (E.assign (v := Value.int .i64 0) rfl) ?_
 refine FL.nil (FW.seq (FW.region ?_))
 refine FL.v (E.load rfl (run_load0 Tryz.isAgg92 (at28.now S26.sl) rfl)) ?_
 refine FL.v (E.move (v := v1) rfl) ?_
 obtain ⟨r29, hr30, hp⟩ := bnd hp
 refine FL.call rfl rfl rfl (E.call Tryz.call86 (A2 rfl rfl)) (w_impl_closure_round S26.sl q0P a0 v0P_0 v0P_1 (p0P_0.mono i27) (p0P_1.mono i27) (c0P.mono i27) v1 a1 (p1.mono i27) hr30) ?_
 rintro e w31 ⟨rfl, r32⟩
 refine ⟨_, rfl, ?_⟩
 have S33 := S26.call r32
 obtain ⟨b34, w35, run36, S37⟩ := S33.alloc (P := Tryz.prog) 3 [Value.int .i64 0] Tryz.zeroValue3 rfl (ones_cons rfl ones_nil)
 refine FL.v (E.alloc run36) ?_
 obtain ⟨w38, run39, S40⟩ := S37.store0 (P := Tryz.prog) (t := 3) (i := 0) (cs' := [Value.int .i64 r29]) (l' := [.box b34 3 [Value.int .i64 r29]]) (v := Value.int .i64 r29) (c := [Value.int .i64 r29]) rfl Tryz.sizeOf3 rfl rfl (ones_cons rfl ones_nil) (Nat.le_of_ble_eq_true rfl) rfl rfl
 refine FL.act rfl rfl (E.store rfl rfl run39) ?_
 obtain ⟨H41, S42, i43, at44⟩ := S40.sealBox (i := 0) (l' := []) rfl rfl
 refine FL.nil (FW.seq (FW.region ?_))
 refine FL.v (E.load rfl (run_load0 Tryz.isAgg92 ((at28.mono i43).now S42.sl) rfl)) ?_
 obtain ⟨r45, hr46, hp⟩ := bnd hp
 refine FL.call rfl rfl rfl (E.call Tryz.call119 (A1 rfl)) (w_impl_closure_clauses S42.sl q0P a0 v0P_0 v0P_1 (p0P_0.mono (i27.tr i43)) (p0P_1.mono (i27.tr i43)) (c0P.mono (i27.tr i43)) hr46) ?_
 rintro e w48 ⟨H47, v51, n52, cs53, rfl, r50, els54, nd55⟩
 refine ⟨_, rfl, ?_⟩
 have nv56 : New H41 cs53 := New.of_up S42.sl els54.dom
 have els54 := els54.mono (up_le S42.size)
 have S49 := S42.join (l' := [.row 25 1 v51 n52 cs53]) r50 rfl
 refine FL.v (E.makeFunc A0 (A2 rfl rfl)) ?_
 obtain ⟨r57, hr58, hp⟩ := bnd hp
 refine FL.call rfl rfl rfl (E.call Tryz.call205 (A2 rfl rfl)) (w_slices_DeleteFunc_LLint_Lint (L := []) S49 r45 els54 (Value.func (.func 310) #[] #[Value.pointer (some ⟨b21, 0, none⟩), Value.pointer (some ⟨b34, 0, none⟩)]) (fun x0 => PF.impl_closure_source_1 x0 a0 r29) (fun H2 w2 hi2 hs2 x0 y0 z0 r hr => ⟨310, #[Value.pointer (some ⟨b21, 0, none⟩), Value.pointer (some ⟨b34, 0, none⟩)], rfl, Tryz.call310, w_impl_closure_source_1 hs2 y0 x0 z0 ⟨b21, 0, none⟩ a0 q0P v0P_0 v0P_1 ((p0P_0.mono ((i27.tr i43).tr r50.run.inc)).mono hi2) ((p0P_1.mono ((i27.tr i43).tr r50.run.inc)).mono hi2) ((c0P.mono ((i27.tr i43).tr r50.run.inc)).mono hi2) ((at28.mono (i43.tr r50.run.inc)).mono hi2) ⟨b34, 0, none⟩ r29 ((at44.mono r50.run.inc).mono hi2) hr⟩) hr58) ?_
 rintro e w60 ⟨H59, v63, n64, cs65, rfl, ⟨S61, i62⟩, els66⟩
 refine ⟨_, rfl, ?_⟩
 have S61 : St Ha wa H59 w60 [.row 25 1 v63 n64 cs65] := S61
 refine FL.v (E.assign (v := v63) rfl) ?_
 refine FL.nil (FW.seq (FW.region ?_))
 refine FL.v (E.move (v := v1) rfl) ?_
 obtain ⟨r67, hr68, hp⟩ := bnd hp
 refine FL.call rfl rfl rfl (E.call Tryz.call174 (A1 rfl)) (w_impl_maskOf S61.sl v1 a1 (p1.mono (((i27.tr i43).tr r50.run.inc).tr i62)) hr68) ?_
 rintro e w69 ⟨rfl, r70⟩
 refine ⟨_, rfl, ?_⟩
 have S71 := S61.call r70
 refine FL.v (E.assign (v := Value.int .u16 r67) rfl) ?_
 refine FL.nil (FW.seq (FW.seq (FW.region ?_)))
 refine FL.v (E.move (v := v63) rfl) ?_
 refine FL.v (E.lenO te22 rfl S71 (i := 0) rfl els66 (by decide)) ?_
 refine FL.v (E.move (v := Value.int .i64 0) rfl) ?_
 refine FL.nil ?_
 obtain ⟨m72, hchk73, hp⟩ := bnd hp
 obtain ⟨q73, hq, hp⟩ := bndR hp
 refine FW.block ?_
 refine FW.mono (FW.forR (S := Unit) (X := ((List Int) × (List Int) × Int)) (fun (i73 : Nat) (s73 : Unit) f w => ∃ H : GH, St Ha wa H w [.row 25 1 v63 n64 cs65] ∧ Inc H59 H ∧ f 28 = Value.int .i64 ((i73 : Nat) : Int) ∧ f 8 = v63 ∧ f 9 = Value.int .u16 r67 ∧ f 26 = v63 ∧ f 27 = Value.int .i64 (len r57)) (fun q e f w => match q with | .go s73 => e = Exit.exit 0 ∧ (∃ H : GH, St Ha wa H w [.row 25 1 v63 n64 cs65] ∧ Inc H59 H) | .rt x => ((e = Exit.ret) ∧ (fun e f w => (e = Exit.normal ∨ e = Exit.ret) ∧ ∀ a, Fr (δ := []) 73 a f → ∃ v, (results Tryz.f258 a.tmps).run Tryz.prog w = .ok v w ∧ (p_impl_closure_source Ha wa x) (.returned v) w) e f w)) hq ⟨_, S71, (Inc.rfl _), rfl, rfl, rfl, rfl, rfl⟩ ?_ ?_) ?_
 ·
  clear hp hq
  rintro i73 s73 f78 w77 ⟨H74, S75, i76, k79, k80, k81, k82, k83⟩ hi73 hj73 o234 hp
  refine FW.seq (FW.region ?_)
  refine FL.v (E.lssT k79 k83 (lss_chk hj73 hchk73)) ?_
  refine FL.nil (FW.seq ?_)
  refine FW.condT rfl rfl ?_
  refine FW.skip (FW.seq (FW.block (FW.seq (FW.region ?_))))
  obtain ⟨x90, hx91, hp⟩ := bnd hp
  obtain ⟨p84, cs85, pt86, l87, at88, rel89⟩ := S75.row_at (i := 0) rfl els66 (by decide) hx91
  obtain ⟨v92, rfl, h93⟩ := eL_open rel89
  refine FL.v (E.indexAddr te22 k82 k79 pt86) ?_
  refine FL.v (E.load rfl (run_load0 Tryz.isAgg25 at88 rfl)) ?_
  refine FL.v (E.assign (v := v92) rfl) ?_
  refine FL.nil (FW.seq (FW.region ?_))
  refine FL.v (E.move k80) ?_
  refine FL.v (E.lenO te22 rfl S75 (i := 0) rfl els66 (by decide)) ?_
  refine FL.v (E.move (v := Value.int .i64 0) rfl) ?_
  refine FL.nil ?_
  obtain ⟨m94, hchk95, hp⟩ := bnd hp
  obtain ⟨q95, hq, hp⟩ := bndR hp
  refine FW.block ?_
  refine FW.mono (FW.forR (S := Unit) (X := (Lp Unit ((List Int) × (List Int) × Int))) (fun (i95 : Nat) (s95 : Unit) f w => ∃ H : GH, St Ha wa H w [.row 25 1 v63 n64 cs65] ∧ Inc H74 H ∧ f 34 = Value.int .i64 ((i95 : Nat) : Int) ∧ f 8 = v63 ∧ f 9 = Value.int .u16 r67 ∧ f 11 = v92 ∧ f 26 = v63 ∧ f 27 = Value.int .i64 (len r57) ∧ f 28 = Value.int .i64 ((i73 : Nat) : Int) ∧ f 32 = v63 ∧ f 33 = Value.int .i64 (len r57)) (fun q e f w => match q with | .go s95 => e = Exit.exit 2 ∧ (∃ H : GH, St Ha wa H w [.row 25 1 v63 n64 cs65] ∧ Inc H74 H ∧ f 8 = v63 ∧ f 9 = Value.int .u16 r67 ∧ f 26 = v63 ∧ f 27 = Value.int .i64 (len r57) ∧ f 28 = Value.int .i64 ((i73 : Nat) : Int)) | .rt x => ((e = Exit.ret) ∧ (Rd ((fun (i73 : Nat) (s73 : Unit) f w => ∃ H : GH, St Ha wa H w [.row 25 1 v63 n64 cs65] ∧ Inc H59 H ∧ f 28 = Value.int .i64 ((i73 : Nat) : Int) ∧ f 8 = v63 ∧ f 9 = Value.int .u16 r67 ∧ f 26 = v63 ∧ f 27 = Value.int .i64 (len r57)) (i73 + 1)) (fun q e f w => match q with | .go s73 => e = Exit.exit 0 ∧ (∃ H : GH, St Ha wa H w [.row 25 1 v63 n64 cs65] ∧ Inc H59 H) | .rt x => ((e = Exit.ret) ∧ (fun e f w => (e = Exit.normal ∨ e = Exit.ret) ∧ ∀ a, Fr (δ := []) 73 a f → ∃ v, (results Tryz.f258 a.tmps).run Tryz.prog w = .ok v w ∧ (p_impl_closure_source Ha wa x) (.returned v) w) e f w)) x) e f w)) hq ⟨_, S75, (Inc.rfl _), rfl, k80, k81, rfl, k82, k83, k79, rfl, rfl⟩ ?_ ?_) ?_
  ·
   clear hp hq
   rintro i95 s95 f100 w99 ⟨H96, S97, i98, k101, k102, k103, k104, k105, k106, k107, k108, k109⟩ hi95 hj95 o209 hp
   refine FW.seq (FW.region ?_)
   refine FL.v (E.lssT k101 k109 (lss_chk hj95 hchk95)) ?_
   refine FL.nil (FW.seq ?_)
   refine FW.condT rfl rfl ?_
   refine FW.skip (FW.seq (FW.block (FW.seq (FW.region ?_))))
   obtain ⟨x116, hx117, hp⟩ := bnd hp
   obtain ⟨p110, cs111, pt112, l113, at114, rel115⟩ := S97.row_at (i := 0) rfl els66 (by decide) hx117
   obtain ⟨v118, rfl, h119⟩ := eL_open rel115
   refine FL.v (E.indexAddr te22 k108 k101 pt112) ?_
   refine FL.v (E.load rfl (run_load0 Tryz.isAgg25 at114 rfl)) ?_
   refine FL.v (E.assign (v := v118) rfl) ?_
   refine FL.nil (FW.seq (FW.region ?_))
   refine FL.v (E.move k104) ?_
   obtain ⟨r120, hr121, hp⟩ := bnd hp
   refine FL.call rfl rfl rfl (E.call Tryz.call174 (A1 rfl)) (w_impl_maskOf S97.sl v92 x90 (h93.mono (upI.tr (i76.tr i98))) hr121) ?_
   rintro e w122 ⟨rfl, r123⟩
   refine ⟨_, rfl, ?_⟩
   have S124 := S97.call r123
   refine FL.v (E.move (v := v118) rfl) ?_
   obtain ⟨r125, hr126, hp⟩ := bnd hp
   refine FL.call rfl rfl rfl (E.call Tryz.call174 (A1 rfl)) (w_impl_maskOf S124.sl v118 x116 (h119.mono (upI.tr (i76.tr i98))) hr126) ?_
   rintro e w127 ⟨rfl, r128⟩
   refine ⟨_, rfl, ?_⟩
   have S129 := S124.call r128
   refine FL.v (E.assign (v := Value.int .u16 r120) rfl) ?_
   refine FL.v (E.assign (v := Value.int .u16 r125) rfl) ?_
   refine FL.nil (FW.seq (FW.region ?_))
   refine FL.v (E.move (v := Value.int .u16 r120) rfl) ?_
   refine FL.v (E.move (v := Value.int .u16 r125) rfl) ?_
   refine FL.call rfl rfl rfl (E.call Tryz.call175 (A2 rfl rfl)) (w_impl_bothOf S129.sl r120 r125) ?_
   rintro e w130 ⟨rfl, r131⟩
   refine ⟨_, rfl, ?_⟩
   have S132 := S129.call r131
   refine FL.v (E.assign (v := Value.int .u16 (PF.impl_bothOf r120 r125)) rfl) ?_
   refine FL.nil (FW.seq (FW.region ?_))
   refine FL.v (E.move (v := Value.int .u16 (PF.impl_bothOf r120 r125)) rfl) ?_
   refine FL.call rfl rfl rfl (E.call Tryz.call176 (A1 rfl)) (w_impl_mask_one S132.sl (PF.impl_bothOf r120 r125)) ?_
   rintro e w133 ⟨rfl, r134⟩
   refine ⟨_, rfl, ?_⟩
   have S135 := S132.call r134
   refine FL.v (E.move (v := Value.bool (PF.impl_mask_one (PF.impl_bothOf r120 r125))) rfl) ?_
   refine FL.cut 5 (fun f w => ∃ H : GH, St Ha wa H w [.row 25 1 v63 n64 cs65] ∧ Inc H96 H ∧ f 8 = v63 ∧ f 9 = Value.int .u16 r67 ∧ f 11 = v92 ∧ f 13 = v118 ∧ f 14 = Value.int .u16 r120 ∧ f 15 = Value.int .u16 r125 ∧ f 16 = Value.int .u16 (PF.impl_bothOf r120 r125) ∧ f 26 = v63 ∧ f 27 = Value.int .i64 (len r57) ∧ f 28 = Value.int .i64 ((i73 : Nat) : Int) ∧ f 32 = v63 ∧ f 33 = Value.int .i64 (len r57) ∧ f 34 = Value.int .i64 ((i95 : Nat) : Int) ∧ f 52 = Value.bool (bif (PF.impl_mask_one (PF.impl_bothOf r120 r125)) then (!((andK false 16 r120 (PF.impl_bothOf r120 r125)) == 0)) else false)) ?_ ?_
   ·
    rcases bcase (PF.impl_mask_one (PF.impl_bothOf r120 r125)) with c141 | c141
    ·
     refine FL.val (wF_yes rfl rfl rfl c141) rfl rfl (E.move (v := Value.int .u16 r120) rfl) ?_
     refine FL.val (wF_yes rfl rfl rfl c141) rfl rfl (E.move (v := Value.int .u16 (PF.impl_bothOf r120 r125)) rfl) ?_
     refine FL.val (wF_yes rfl rfl rfl c141) rfl rfl (E.and rfl rfl) ?_
     refine FL.val (wF_yes rfl rfl rfl c141) rfl rfl (E.neq rfl rfl) ?_
     refine FL.v (E.pickT rfl c141 rfl) ?_
     exact FL.nil ⟨rfl, _, S135, (Inc.rfl _), k102, k103, k104, rfl, rfl, rfl, rfl, k105, k106, k107, k108, k109, k101, (congrArg Value.bool (bifT c141).symm)⟩
    ·
     refine FL.skip (wF_no rfl rfl rfl c141) rfl ?_
     refine FL.skip (wF_no rfl rfl rfl c141) rfl ?_
     refine FL.skip (wF_no rfl rfl rfl c141) rfl ?_
     refine FL.skip (wF_no rfl rfl rfl c141) rfl ?_
     refine FL.v (E.pickF rfl c141 rfl) ?_
     exact FL.nil ⟨rfl, _, S135, (Inc.rfl _), k102, k103, k104, rfl, rfl, rfl, rfl, k105, k106, k107, k108, k109, k101, (congrArg Value.bool (bifF c141).symm)⟩
   rintro f140 w139 ⟨H136, S137, i138, k142, k143, k144, k145, k146, k147, k148, k149, k150, k151, k152, k153, k154, k155⟩
   refine FL.v (E.move k155) ?_
   refine FL.cut 11 (fun f w => ∃ H : GH, St Ha wa H w [.row 25 1 v63 n64 cs65] ∧ Inc H136 H ∧ f 8 = v63 ∧ f 9 = Value.int .u16 r67 ∧ f 11 = v92 ∧ f 13 = v118 ∧ f 16 = Value.int .u16 (PF.impl_bothOf r120 r125) ∧ f 26 = v63 ∧ f 27 = Value.int .i64 (len r57) ∧ f 28 = Value.int .i64 ((i73 : Nat) : Int) ∧ f 32 = v63 ∧ f 33 = Value.int .i64 (len r57) ∧ f 34 = Value.int .i64 ((i95 : Nat) : Int) ∧ f 64 = Value.bool (bif (bif (PF.impl_mask_one (PF.impl_bothOf r120 r125)) then (!((andK false 16 r120 (PF.impl_bothOf r120 r125)) == 0)) else false) then ((anK false 16 (orK false 16 r120 r125) (orK false 16 (PF.impl_bothOf r120 r125) (shlK false 16 (PF.impl_bothOf r120 r125) 6))) == r67) else false)) ?_ ?_
   ·
    rcases bcase (bif (PF.impl_mask_one (PF.impl_bothOf r120 r125)) then (!((andK false 16 r120 (PF.impl_bothOf r120 r125)) == 0)) else false) with c161 | c161
    ·
     refine FL.val (wF_yes rfl rfl rfl c161) rfl rfl (E.move k146) ?_
     refine FL.val (wF_yes rfl rfl rfl c161) rfl rfl (E.move k147) ?_
     refine FL.val (wF_yes rfl rfl rfl c161) rfl rfl (E.or rfl rfl) ?_
     refine FL.val (wF_yes rfl rfl rfl c161) rfl rfl (E.move k148) ?_
     refine FL.val (wF_yes rfl rfl rfl c161) rfl rfl (E.move k148) ?_
     refine FL.val (wF_yes rfl rfl rfl c161) rfl rfl (E.shl rfl rfl (by decide)) ?_
     refine FL.val (wF_yes rfl rfl rfl c161) rfl rfl (E.or rfl rfl) ?_
     refine FL.val (wF_yes rfl rfl rfl c161) rfl rfl (E.andNot rfl rfl) ?_
     refine FL.val (wF_yes rfl rfl rfl c161) rfl rfl (E.move k143) ?_
     refine FL.val (wF_yes rfl rfl rfl c161) rfl rfl (E.eql rfl rfl) ?_
     refine FL.v (E.pickT rfl c161 rfl) ?_
     exact FL.nil ⟨rfl, _, S137, (Inc.rfl _), k142, k143, k144, k145, k148, k149, k150, k151, k152, k153, k154, (congrArg Value.bool (bifT c161).symm)⟩
    ·
     refine FL.skip (wF_no rfl rfl rfl c161) rfl ?_
     refine FL.skip (wF_no rfl rfl rfl c161) rfl ?_
     refine FL.skip (wF_no rfl rfl rfl c161) rfl ?_
     refine FL.skip (wF_no rfl rfl rfl c161) rfl ?_
     refine FL.skip (wF_no rfl rfl rfl c161) rfl ?_
     refine FL.skip (wF_no rfl rfl rfl c161) rfl ?_
     refine FL.skip (wF_no rfl rfl rfl c161) rfl ?_
     refine FL.skip (wF_no rfl rfl rfl c161) rfl ?_
     refine FL.skip (wF_no rfl rfl rfl c161) rfl ?_
     refine FL.skip (wF_no rfl rfl rfl c161) rfl ?_
     refine FL.v (E.pickF rfl c161 rfl) ?_
     exact FL.nil ⟨rfl, _, S137, (Inc.rfl _), k142, k143, k144, k145, k148, k149, k150, k151, k152, k153, k154, (congrArg Value.bool (bifF c161).symm)⟩
   rintro f160 w159 ⟨H156, S157, i158, k162, k163, k164, k165, k166, k167, k168, k169, k170, k171, k172, k173⟩
   refine FL.nil ?_
   rcases ifB hp with ⟨c174, hp⟩ | ⟨c174, hp⟩
   ·
    refine FW.condT k173 c174 ?_
    refine FW.seq ?_
    obtain ⟨r178, hr179, hp⟩ := bnd hp
    obtain ⟨x194, hx195, hp⟩ := bnd hp
    refine FW.drawB (Sl H156) (fun f w => ∃ H : GH, ∃ v197 : Value, ∃ v199 : Value, St Ha wa H w [] ∧ Inc H156 H ∧ RSl (up wa.heap.size H) eI 1 v197 x90 ∧ RSl (up wa.heap.size H) eI 1 v199 x116 ∧ f 4 = v197 ∧ f 5 = v199 ∧ f 6 = Value.int .i64 x194) (by kernel_rfl) S157.sl ?_ ?_
    ·
     intro w175 r176
     have S177 := S157.call r176
     refine FB.t (i := 0) (bs 9 1) rfl (SP.nil S177.sl) rfl (fun w' hw' => (E.move k164)) ?_
     refine FB.t (i := 1) (bs 9 3) rfl (SP.nil S177.sl) rfl (fun w' hw' => (E.move k165)) ?_
     refine FB.t (i := 2) (bs 9 7) rfl (SP.nil S177.sl) rfl (fun w' hw' => (E.move k166)) ?_
     refine FB.all1 (i := 3) (by kernel_rfl) ?_
     ·
      refine FC.call (l' := (bs 9 15)) rfl (by kernel_rfl) rfl rfl rfl (E.call Tryz.call219 (A1 rfl)) (w_impl_mask_clause S177.sl (PF.impl_bothOf r120 r125) hr179) ?_
      rintro e w181 ⟨H180, v184, n185, cs186, rfl, r183, els187⟩
      refine ⟨_, rfl, ?_⟩
      have els187 := els187.mono (up_le S177.size)
      have S182 := S177.join (l' := [.row 3 1 v184 n185 cs186, .row 25 1 v63 n64 cs65]) r183 rfl
      refine ⟨(SP.nil (Sl.of_inc r183.run.inc S182.sl)), ?_⟩
      obtain ⟨p188, cs189, pt190, l191, at192, rel193, hall196⟩ := S182.row_atA (i := 0) rfl els187 (by decide) hx195
      obtain rfl := eI_open rel193
      refine FB.t (i := 4) (bs 9 31) rfl (SP.nil (Sl.of_inc r183.run.inc S182.sl)) rfl (fun w' hw' => (E.indexAddr te25 rfl rfl pt190)) ?_
      refine FB.phase [] (fun w' => WAt w' p188 [Value.int .i64 x194]) ?_
      refine FB.p (i := 5) (bs 9 63) 0 [8] rfl (SP.on (hall196 _ _ _ 0 S182 rfl) (SP.nil (Sl.of_inc r183.run.inc S182.sl))) rfl rfl (fun w' hw' => (E.load rfl (run_load0 Tryz.isAgg3 hw' rfl))) ?_
      refine FB.t (i := 6) (bs 9 127) rfl (SP.on (hall196 _ _ _ 0 S182 rfl) (SP.nil (Sl.of_inc r183.run.inc S182.sl))) rfl (fun w' hw' => (E.assign (v := v92) rfl)) ?_
      refine FB.t (i := 7) (bs 9 255) rfl (SP.on (hall196 _ _ _ 0 S182 rfl) (SP.nil (Sl.of_inc r183.run.inc S182.sl))) rfl (fun w' hw' => (E.assign (v := v118) rfl)) ?_
      refine FB.t (i := 8) (bs 9 511) rfl (SP.on (hall196 _ _ _ 0 S182 rfl) (SP.nil (Sl.of_inc r183.run.inc S182.sl))) rfl (fun w' hw' => (E.assign (v := Value.int .i64 x194) rfl)) ?_
      exact FB.done (by kernel_rfl) ⟨_, _, _, (S182.sel [] (by decide) rfl), r183.run.inc, (h93.mono (up_mono ((((i76.tr i98).tr i138).tr i158).tr r183.run.inc))), (h119.mono (up_mono ((((i76.tr i98).tr i138).tr i158).tr r183.run.inc))), rfl, rfl, rfl⟩
    ·
     rintro f205 w204 ⟨H201, v197, v199, S202, i203, h198, h200, k206, k207, k208⟩
     refine FW.ret ?_
     obtain rfl := Option.some.inj hp
     exact ⟨nofun, rfl, ⟨nofun, rfl, ⟨.inr rfl, res3 rfl k206 k207 k208 ⟨_, _, _, rfl, S202.run, h198, h200⟩⟩⟩⟩
   ·
    refine FW.condF k173 c174 ?_
    refine FW.skip (FW.region ?_)
    refine FL.v (E.add k172 rfl) ?_
    refine FL.v (E.move (v := Value.int .i64 (wr (((i95 : Nat) : Int) + 1))) rfl) ?_
    refine FL.nil ?_
    obtain rfl := Option.some.inj hp
    exact ⟨rfl, ⟨_, S157, ((i98.tr i138).tr i158), (nat_succ rfl hj95 (chk_le hchk95)), k162, k163, k164, k167, k168, k169, k170, k171⟩⟩
  ·
   clear hp hq
   rintro s95 f224 w223 ⟨H220, S221, i222, k225, k226, k227, k228, k229, k230, k231, k232, k233⟩
   refine FW.seq (FW.region ?_)
   refine FL.v (E.lss k225 k233) ?_
   refine FL.nil (FW.seq ?_)
   refine FW.condF rfl (dlt_maxchk hchk95) ?_
   refine FW.exit ?_
   exact ⟨nofun, rfl, ⟨_, S221, i222, k226, k227, k229, k230, k231⟩⟩
  ·
   clear hq
   intro e f214 w213 hD
   rcases q95 with s95 | x95
   ·
    obtain ⟨rfl, hD⟩ := hD
    obtain ⟨H210, S211, i212, k215, k216, k217, k218, k219⟩ := hD
    replace hp := el_go hp
    refine FW.region ?_
    refine FL.v (E.add k219 rfl) ?_
    refine FL.v (E.move (v := Value.int .i64 (wr (((i73 : Nat) : Int) + 1))) rfl) ?_
    refine FL.nil ?_
    obtain rfl := Option.some.inj hp
    exact ⟨rfl, ⟨_, S211, (i76.tr i212), (nat_succ rfl hj73 (chk_le hchk73)), k215, k216, k217, k218⟩⟩
   ·
    obtain ⟨he, hL⟩ := hD
    replace hp := el_rt hp
    obtain rfl := Option.some.inj hp
    subst he
    exact hL
 ·
  clear hp hq
  rintro s73 f244 w243 ⟨H240, S241, i242, k245, k246, k247, k248, k249⟩
  refine FW.seq (FW.region ?_)
  refine FL.v (E.lss k245 k249) ?_
  refine FL.nil (FW.seq ?_)
  refine FW.condF rfl (dlt_maxchk hchk73) ?_
  refine FW.exit ?_
  exact ⟨nofun, rfl, ⟨_, S241, i242⟩⟩
 ·
  clear hq
  intro e f239 w238 hD
  rcases q73 with s73 | x73
  ·
   obtain ⟨rfl, hD⟩ := hD
   obtain ⟨H235, S236, i237⟩ := hD
   replace hp := el_go hp
   refine FW.seq (FW.region ?_)
   refine FL.v (E.assign (v := Value.slice none 0 0) rfl) ?_
   refine FL.v (E.assign (v := Value.slice none 0 0) rfl) ?_
   refine FL.v (E.assign (v := Value.int .i64 0) rfl) ?_
   refine FL.nil ?_
   refine FW.ret ?_
   obtain rfl := Option.some.inj hp
   exact ⟨.inr rfl, res3 rfl rfl rfl rfl ⟨_, _, _, rfl, S236.run, (RSl.nil _ _ _), (RSl.nil _ _ _)⟩⟩
  ·
   obtain ⟨he, hL⟩ := hD
   replace hp := el_rt hp
   obtain rfl := Option.some.inj hp
   subst he
   exact hL

@[reducible] def p_impl_closure_needs (Ha : GH) (wa : World) (r : (List sourced)) : Ending → World → Prop :=
 fun e w' => ∃ H' : GH, ∃ v0 : Value, ∃ n0 : Nat, ∃ c0 : List Value, e = .returned (v0) ∧ St Ha wa H' w' [.row 182 4 v0 n0 c0] ∧ Els H' esourced 4 c0 r
set_option maxHeartbeats 4000000 in
theorem w_impl_closure_needs {Ha : GH} {wa : World} (hs : Sl Ha wa) (q0P : Addr) (a0 : closure) (v0P_0 : Value) (v0P_1 : Value) (p0P_0 : RSl Ha (eN .u16) 1 v0P_0 a0.masks) (p0P_1 : MAt (K := Int) (V := Int) Ha (Value.int .u16) (Value.int .i64) v0P_1 a0.rounds) (c0P : CAt Ha q0P [v0P_0, v0P_1, Value.int .i64 a0.last]) (v1 : Value) (a1 : List Int) (p1 : RSl Ha eI 1 v1 a1) {r : (List sourced)} (hp : (PF.impl_closure_needs a0 a1) = some r) :
  Calls Tryz.prog 178 #[Value.pointer (some q0P), v1] wa (p_impl_closure_needs Ha wa r) := by
 unfold PF.impl_closure_needs at hp
 have S0 := St.init hs
 refine calls_go (N := 70) (args := [Value.pointer (some q0P), v1]) Tryz.func178 rfl rfl rfl ?_
 refine FW.seq (FW.region ?_)
 refine FL.v (E.assign (v := Value.slice none 0 0) rfl) ?_
 refine FL.nil (FW.seq (FW.region ?_))
 refine FL.v (E.assign (v := Value.slice none 0 0) rfl) ?_
 refine FL.nil (FW.seq (FW.region ?_))
 obtain ⟨b21, o22, w23, run24, S25, hm26⟩ := S0.makeMap (P := Tryz.prog) (K := Int) (V := Bool) 234 (Value.int .u16) Value.bool
 refine FL.v (E.makeMap run24) ?_
 refine FL.v (E.move (v := v1) rfl) ?_
 obtain ⟨r27, hr28, hp⟩ := bnd hp
 refine FL.call rfl rfl rfl (E.call Tryz.call174 (A1 rfl)) (w_impl_maskOf S25.sl v1 a1 p1 hr28) ?_
 rintro e w29 ⟨rfl, r30⟩
 refine ⟨_, rfl, ?_⟩
 have S31 := S25.call r30
 obtain ⟨o32, w33, run34, S35, hm36⟩ := S31.mapPut (P := Tryz.prog) (i := 0) rfl hm26 Tryz.runUnderlying234 (KeyNow.intk Tryz.runUnderlying173) r27 true
 have S35 : St Ha wa Ha w33 [.raw b21 o32] := S35
 refine FL.act rfl rfl (E.insert rfl rfl rfl run34) ?_
 refine FL.v (E.move (v := Value.map (some b21)) rfl) ?_
 refine FL.v (E.assign (v := Value.map (some b21)) rfl) ?_
 refine FL.nil (FW.seq (FW.region ?_))
 refine FL.v (E.move (v := v1) rfl) ?_
 obtain ⟨v37, w38, run39, S40⟩ := S35.buildSlice (P := Tryz.prog) te22 [v1] (parts := #[(0, v1)]) (cells := [v1]) rfl (szs_cons (cells_size p1.cells) szs_nil) (fc_cons p1.cells fc_nil) (ones_cons p1.one ones_nil) (Nat.le_of_ble_eq_true rfl)
 have els41 : Els Ha (eL eI 1) 1 [v1] [a1] := (Els.snoc (H := Ha) (E := (eL eI 1)) (k := 1) (c := [v1]) (x := a1) Els.nil rfl ⟨_, rfl, p1⟩)
 refine FL.v (E.buildSlice (B1 rfl) run39) ?_
 refine FL.v (E.assign (v := v37) rfl) ?_
 refine FL.nil (FW.seq ?_)
 obtain ⟨q42, hq, hp⟩ := bndR hp
 refine FW.block ?_
 refine FW.mono (FW.iter (S := ((List (List Int)) × (List (Int × Bool)) × (List sourced))) (X := Empty) (fun (s42 : ((List (List Int)) × (List (Int × Bool)) × (List sourced))) f w => ∃ H : GH, ∃ v299 : Value, ∃ n300 : Nat, ∃ cs301 : List Value, ∃ o303 : Obj, ∃ v305 : Value, ∃ n306 : Nat, ∃ cs307 : List Value, St Ha wa H w [.rowo 25 1 v299 n300 cs301, .raw b21 o303, .row 182 4 v305 n306 cs307] ∧ Inc Ha H ∧ Els H (eL eI 1) 1 cs301 s42.1 ∧ MapOf (K := Int) (V := Bool) (Value.int .u16) Value.bool o303 s42.2.1 ∧ Els H esourced 4 cs307 s42.2.2 ∧ f 0 = Value.pointer (some q0P) ∧ f 5 = v305 ∧ f 6 = Value.map (some b21) ∧ f 7 = v299) (fun (q : Rs ((List (List Int)) × (List (Int × Bool)) × (List sourced)) Empty) e f w => match q with | .go s42 => e = Exit.exit 0 ∧ (∃ H : GH, ∃ v299 : Value, ∃ n300 : Nat, ∃ cs301 : List Value, ∃ o303 : Obj, ∃ v305 : Value, ∃ n306 : Nat, ∃ cs307 : List Value, St Ha wa H w [.rowo 25 1 v299 n300 cs301, .raw b21 o303, .row 182 4 v305 n306 cs307] ∧ Inc Ha H ∧ Els H (eL eI 1) 1 cs301 s42.1 ∧ MapOf (K := Int) (V := Bool) (Value.int .u16) Value.bool o303 s42.2.1 ∧ Els H esourced 4 cs307 s42.2.2 ∧ f 5 = v305) | .rt x => x.elim) hq ⟨_, _, _, _, _, _, _, _, (((S40.nil 182 4).toQ 1).sel [1, 2, 0] (by decide) rfl), (Inc.rfl _), els41, hm36, Els.nil, rfl, rfl, rfl, rfl⟩ ?_) ?_
 ·
  clear hp hq
  rintro s42 f561 w560 ⟨H557, v299, n300, cs301, o303, v305, n306, cs307, S558, i559, els302, hm304, els308, k562, k563, k564, k565⟩ o861 hp
  refine FW.seq (FW.seq (FW.region ?_))
  refine FL.v (E.move k565) ?_
  refine FL.v (E.lenQ te22 rfl S558 (i := 0) rfl els302 (by decide)) ?_
  refine FL.v (E.gtr rfl rfl) ?_
  refine FL.nil ?_
  rcases ifB hp with ⟨c566, hp⟩ | ⟨c566, hp⟩
  ·
   refine FW.condT rfl c566 ?_
   refine FW.skip (FW.block (FW.seq (FW.region ?_)))
   refine FL.v (E.move k565) ?_
   obtain ⟨x573, hx574, hp⟩ := bnd hp
   obtain ⟨p567, cs568, pt569, l570, at571, rel572⟩ := S558.rowQ_at (i := 0) rfl els302 (by decide) hx574
   obtain ⟨v575, rfl, h576⟩ := eL_open rel572
   refine FL.v (E.indexAddr te22 rfl rfl pt569) ?_
   refine FL.v (E.load rfl (run_load0 Tryz.isAgg25 at571 rfl)) ?_
   refine FL.v (E.build (B1 rfl) (run_build _ 182 #[(0, v575)] #[v575, Value.slice none 0 0, Value.slice none 0 0, Value.int .i64 0] (by obtain ⟨_, _, rfl⟩ := RSl.ln h576; rfl))) ?_
   obtain ⟨b577, w578, run579, S580⟩ := S558.alloc (P := Tryz.prog) 182 [Value.slice none 0 0, Value.slice none 0 0, Value.slice none 0 0, Value.int .i64 0] Tryz.zeroValue182 rfl (ones_cons rfl (ones_cons rfl (ones_cons rfl (ones_cons rfl ones_nil))))
   refine FL.v (E.alloc run579) ?_
   obtain ⟨w581, run582, S583⟩ := S580.store0 (P := Tryz.prog) (t := 182) (i := 0) (cs' := [v575, Value.slice none 0 0, Value.slice none 0 0, Value.int .i64 0]) (l' := [.box b577 182 [v575, Value.slice none 0 0, Value.slice none 0 0, Value.int .i64 0], .rowo 25 1 v299 n300 cs301, .raw b21 o303, .row 182 4 v305 n306 cs307]) (v := Value.agg #[v575, Value.slice none 0 0, Value.slice none 0 0, Value.int .i64 0]) (c := [v575, Value.slice none 0 0, Value.slice none 0 0, Value.int .i64 0]) rfl Tryz.sizeOf182 rfl rfl (ones_cons h576.one (ones_cons rfl (ones_cons rfl (ones_cons rfl ones_nil)))) (Nat.le_of_ble_eq_true rfl) rfl rfl
   refine FL.act rfl rfl (E.store rfl rfl run582) ?_
   refine FL.nil (FW.seq (FW.region ?_))
   refine FL.v (E.move k565) ?_
   obtain ⟨xs584, hc585, hp⟩ := bnd hp
   obtain ⟨v586, n587, cs588, run589, S590, els591⟩ := S583.cutTailQ te22 (kk := .i64) (i := 1) rfl els302 hc585
   have S590 : St Ha wa H557 w581 [.box b577 182 [v575, Value.slice none 0 0, Value.slice none 0 0, Value.int .i64 0], .rowo 25 1 v586 n587 cs588, .raw b21 o303, .row 182 4 v305 n306 cs307] := S590
   refine FL.v (E.slice te22 rfl (congrArg some rfl) rfl rfl (run589 _)) ?_
   refine FL.v (E.assign (v := v586) rfl) ?_
   refine FL.nil (FW.seq (FW.seq (FW.region ?_)))
   refine FL.v (E.move k562) ?_
   refine FL.v (E.fieldAddr tf182_0 rfl) ?_
   refine FL.v (E.load rfl (run_load1 Tryz.isAgg25 (S590.box_now (i := 0) rfl) rfl)) ?_
   obtain ⟨r592, hr593, hp⟩ := bnd hp
   refine FL.call rfl rfl rfl (E.call Tryz.call86 (A2 rfl rfl)) (w_impl_closure_round S590.sl q0P a0 v0P_0 v0P_1 (p0P_0.mono i559) (p0P_1.mono i559) (c0P.mono i559) v575 x573 h576 hr593) ?_
   rintro e w594 ⟨rfl, r595⟩
   refine ⟨_, rfl, ?_⟩
   have S596 := S590.call r595
   refine FL.v (E.gtr rfl rfl) ?_
   refine FL.nil ?_
   rcases ifB hp with ⟨c597, hp⟩ | ⟨c597, hp⟩
   ·
    refine FW.condT rfl c597 ?_
    refine FW.seq (FW.region ?_)
    refine FL.v (E.move k562) ?_
    refine FL.v (E.fieldAddr tf182_0 rfl) ?_
    refine FL.v (E.load rfl (run_load1 Tryz.isAgg25 (S596.box_now (i := 0) rfl) rfl)) ?_
    obtain ⟨r598, hr599, hp⟩ := bnd hp
    refine FL.call rfl rfl rfl (E.call Tryz.call258 (A2 rfl rfl)) (w_impl_closure_source S596.sl q0P a0 v0P_0 v0P_1 (p0P_0.mono i559) (p0P_1.mono i559) (c0P.mono i559) v575 x573 h576 hr599) ?_
    rintro e w601 ⟨H600, v604, v607, rfl, r603, h605, h608⟩
    refine ⟨_, rfl, ?_⟩
    have nv606 : New H557 [v604] := New.of_up S596.sl h605.dom
    have h605 := h605.mono (up_le S596.size)
    have nv609 : New H557 [v607] := New.of_up S596.sl h608.dom
    have h608 := h608.mono (up_le S596.size)
    have S602 := S596.call r603
    refine FL.v (E.move (v := Value.tuple #[v604, v607, Value.int .i64 r598.2.2]) rfl) ?_
    refine FL.v (E.extract (i := 0) rfl rfl) ?_
    refine FL.v (E.extract (i := 1) rfl rfl) ?_
    refine FL.v (E.extract (i := 2) rfl rfl) ?_
    refine FL.v (E.fieldAddr tf182_1 rfl) ?_
    obtain ⟨w610, run611, S612⟩ := S602.store (P := Tryz.prog) (t := 25) (i := 0) (j := 1) (cs' := [v575, v604, Value.slice none 0 0, Value.int .i64 0]) (l' := [.box b577 182 [v575, v604, Value.slice none 0 0, Value.int .i64 0], .rowo 25 1 v586 n587 cs588, .raw b21 o303, .row 182 4 v305 n306 cs307]) (v := v604) (c := [v604]) rfl Tryz.sizeOf25 h605.cells rfl (ones_cons h605.one ones_nil) (Nat.le_of_ble_eq_true rfl) rfl rfl
    refine FL.act rfl rfl (E.store rfl rfl run611) ?_
    refine FL.v (E.fieldAddr tf182_2 rfl) ?_
    obtain ⟨w613, run614, S615⟩ := S612.store (P := Tryz.prog) (t := 25) (i := 0) (j := 2) (cs' := [v575, v604, v607, Value.int .i64 0]) (l' := [.box b577 182 [v575, v604, v607, Value.int .i64 0], .rowo 25 1 v586 n587 cs588, .raw b21 o303, .row 182 4 v305 n306 cs307]) (v := v607) (c := [v607]) rfl Tryz.sizeOf25 h608.cells rfl (ones_cons h608.one ones_nil) (Nat.le_of_ble_eq_true rfl) rfl rfl
    refine FL.act rfl rfl (E.store rfl rfl run614) ?_
    refine FL.v (E.fieldAddr tf182_3 rfl) ?_
    obtain ⟨w616, run617, S618⟩ := S615.store (P := Tryz.prog) (t := 3) (i := 0) (j := 3) (cs' := [v575, v604, v607, Value.int .i64 r598.2.2]) (l' := [.box b577 182 [v575, v604, v607, Value.int .i64 r598.2.2], .rowo 25 1 v586 n587 cs588, .raw b21 o303, .row 182 4 v305 n306 cs307]) (v := Value.int .i64 r598.2.2) (c := [Value.int .i64 r598.2.2]) rfl Tryz.sizeOf3 rfl rfl (ones_cons rfl ones_nil) (Nat.le_of_ble_eq_true rfl) rfl rfl
    refine FL.act rfl rfl (E.store rfl rfl run617) ?_
    obtain ⟨H619, S620, i621, at622⟩ := S618.sealBox (i := 0) (l' := [.rowo 25 1 v586 n587 cs588, .raw b21 o303, .row 182 4 v305 n306 cs307]) rfl rfl
    refine FL.nil (FW.seq (FW.region ?_))
    refine FL.v (E.fieldAddr tf182_1 rfl) ?_
    refine FL.v (E.load rfl (run_load1 Tryz.isAgg25 (at622.now S620.sl) rfl)) ?_
    refine FL.v (E.fieldAddr tf182_2 rfl) ?_
    refine FL.v (E.load rfl (run_load1 Tryz.isAgg25 (at622.now S620.sl) rfl)) ?_
    obtain ⟨v623, w624, run625, S626⟩ := S620.buildSlice (P := Tryz.prog) te22 [v604, v607] (parts := #[(0, v604), (1, v607)]) (cells := [v604, v607]) rfl (szs_cons (cells_size h605.cells) (szs_cons (cells_size h608.cells) szs_nil)) (fc_cons h605.cells (fc_cons h608.cells fc_nil)) (ones_cons h605.one (ones_cons h608.one ones_nil)) (Nat.le_of_ble_eq_true rfl)
    have els627 : Els (up wa.heap.size H619) (eL eI 1) 1 [v604, v607] [r598.1, r598.2.1] := (Els.snoc (H := (up wa.heap.size H619)) (E := (eL eI 1)) (k := 1) (c := [v607]) (x := r598.2.1) (Els.snoc (H := (up wa.heap.size H619)) (E := (eL eI 1)) (k := 1) (c := [v604]) (x := r598.1) Els.nil rfl ⟨_, rfl, (h605.mono (up_mono i621))⟩) rfl ⟨_, rfl, (h608.mono (up_mono i621))⟩)
    refine FL.v (E.buildSlice (B2 rfl rfl) run625) ?_
    refine FL.v (E.lenO te22 rfl S626 (i := 0) rfl els627 (by decide)) ?_
    refine FL.v (E.move (v := Value.int .i64 0) rfl) ?_
    refine FL.nil ?_
    obtain ⟨m628, hchk629, hp⟩ := bnd hp
    obtain ⟨q629, hq, hp⟩ := bndR hp
    refine FW.block ?_
    refine FW.mono (FW.forR (S := ((List (List Int)) × (List (Int × Bool)))) (X := Empty) (fun (i629 : Nat) (s629 : ((List (List Int)) × (List (Int × Bool)))) f w => ∃ H : GH, ∃ v689 : Value, ∃ n690 : Nat, ∃ cs691 : List Value, ∃ o693 : Obj, St Ha wa H w [.row 25 1 v623 2 [v604, v607], .rowo 25 1 v689 n690 cs691, .raw b21 o693, .row 182 4 v305 n306 cs307] ∧ Inc H619 H ∧ Els H (eL eI 1) 1 cs691 s629.1 ∧ MapOf (K := Int) (V := Bool) (Value.int .u16) Value.bool o693 s629.2 ∧ f 48 = Value.int .i64 ((i629 : Nat) : Int) ∧ f 0 = Value.pointer (some q0P) ∧ f 5 = v305 ∧ f 6 = Value.map (some b21) ∧ f 7 = v689 ∧ f 8 = Value.pointer (some ⟨b577, 0, none⟩) ∧ f 46 = v623 ∧ f 47 = Value.int .i64 (len [r598.1, r598.2.1])) (fun (q : Rs ((List (List Int)) × (List (Int × Bool))) Empty) e f w => match q with | .go s629 => e = Exit.exit 2 ∧ (∃ H : GH, ∃ v689 : Value, ∃ n690 : Nat, ∃ cs691 : List Value, ∃ o693 : Obj, St Ha wa H w [.row 25 1 v623 2 [v604, v607], .rowo 25 1 v689 n690 cs691, .raw b21 o693, .row 182 4 v305 n306 cs307] ∧ Inc H619 H ∧ Els H (eL eI 1) 1 cs691 s629.1 ∧ MapOf (K := Int) (V := Bool) (Value.int .u16) Value.bool o693 s629.2 ∧ f 0 = Value.pointer (some q0P) ∧ f 5 = v305 ∧ f 6 = Value.map (some b21) ∧ f 7 = v689 ∧ f 8 = Value.pointer (some ⟨b577, 0, none⟩)) | .rt x => x.elim) hq ⟨_, _, _, _, _, S626, (Inc.rfl _), (els591.mono (r603.inc.tr i621)), hm304, rfl, k562, k563, k564, rfl, rfl, rfl, rfl⟩ ?_ ?_) ?_
    ·
     clear hp hq
     rintro i629 s629 f754 w753 ⟨H750, v689, n690, cs691, o693, S751, i752, els692, hm694, k755, k756, k757, k758, k759, k760, k761, k762⟩ hi629 hj629 o805 hp
     refine FW.seq (FW.region ?_)
     refine FL.v (E.lssT k755 k762 (lss_chk hj629 hchk629)) ?_
     refine FL.nil (FW.seq ?_)
     refine FW.condT rfl rfl ?_
     refine FW.skip (FW.seq (FW.block (FW.seq (FW.region ?_))))
     obtain ⟨x769, hx770, hp⟩ := bnd hp
     obtain ⟨p763, cs764, pt765, l766, at767, rel768⟩ := S751.row_at (i := 0) rfl els627 (by decide) hx770
     obtain ⟨v771, rfl, h772⟩ := eL_open rel768
     refine FL.v (E.indexAddr te22 k761 k755 pt765) ?_
     refine FL.v (E.load rfl (run_load0 Tryz.isAgg25 at767 rfl)) ?_
     refine FL.v (E.assign (v := v771) rfl) ?_
     refine FL.nil (FW.seq (FW.region ?_))
     refine FL.v (E.move k758) ?_
     refine FL.v (E.move (v := v771) rfl) ?_
     obtain ⟨r773, hr774, hp⟩ := bnd hp
     refine FL.call rfl rfl rfl (E.call Tryz.call174 (A1 rfl)) (w_impl_maskOf S751.sl v771 x769 (h772.mono (upI.tr i752)) hr774) ?_
     rintro e w775 ⟨rfl, r776⟩
     refine ⟨_, rfl, ?_⟩
     have S777 := S751.call r776
     refine FL.v (E.lookup rfl rfl (S777.mapGet (P := Tryz.prog) (i := 2) rfl hm694 Tryz.runUnderlying234 (KeyNow.intk Tryz.runUnderlying173) (z := false) Tryz.zeroValue4 r773)) ?_
     refine FL.v (E.not rfl) ?_
     refine FL.nil ?_
     rcases ifB hp with ⟨c778, hp⟩ | ⟨c778, hp⟩
     ·
      refine FW.condT rfl c778 ?_
      refine FW.seq (FW.region ?_)
      refine FL.v (E.move k758) ?_
      refine FL.v (E.move (v := v771) rfl) ?_
      obtain ⟨r779, hr780, hp⟩ := bnd hp
      refine FL.call rfl rfl rfl (E.call Tryz.call174 (A1 rfl)) (w_impl_maskOf S777.sl v771 x769 (h772.mono (upI.tr i752)) hr780) ?_
      rintro e w781 ⟨rfl, r782⟩
      refine ⟨_, rfl, ?_⟩
      have S783 := S777.call r782
      obtain ⟨o784, w785, run786, S787, hm788⟩ := S783.mapPut (P := Tryz.prog) (i := 2) rfl hm694 Tryz.runUnderlying234 (KeyNow.intk Tryz.runUnderlying173) r779 true
      have S787 : St Ha wa H750 w785 [.row 25 1 v623 2 [v604, v607], .rowo 25 1 v689 n690 cs691, .raw b21 o784, .row 182 4 v305 n306 cs307] := S787
      refine FL.act rfl rfl (E.mapUpdate rfl rfl rfl run786) ?_
      refine FL.nil (FW.region ?_)
      refine FL.v (E.move k759) ?_
      refine FL.v (E.move (v := v771) rfl) ?_
      obtain ⟨v789, w790, run791, S792⟩ := S787.buildSlice (P := Tryz.prog) te22 [v771] (parts := #[(0, v771)]) (cells := [v771]) rfl (szs_cons (cells_size h772.cells) szs_nil) (fc_cons h772.cells fc_nil) (ones_cons h772.one ones_nil) (Nat.le_of_ble_eq_true rfl)
      have els793 : Els (up wa.heap.size H750) (eL eI 1) 1 [v771] [x769] := (Els.snoc (H := (up wa.heap.size H750)) (E := (eL eI 1)) (k := 1) (c := [v771]) (x := x769) Els.nil rfl ⟨_, rfl, (h772.mono (up_mono i752))⟩)
      refine FL.v (E.buildSlice (B1 rfl) run791) ?_
      obtain ⟨xs794, hz795, hp⟩ := bnd hp
      obtain ⟨v796, w799, n797, cs798, run800, S801, els802, ce803⟩ := S792.appendQ (P := Tryz.prog) te22 (i := 2) (j := 0) rfl els692 rfl (els793.mono upI) hz795
      have S801 : St Ha wa H750 w799 [.row 25 1 v789 1 [v771], .row 25 1 v623 2 [v604, v607], .rowo 25 1 v796 n797 cs798, .raw b21 o784, .row 182 4 v305 n306 cs307] := S801
      have S804 : St Ha wa H750 w799 [.row 25 1 v623 2 [v604, v607], .rowo 25 1 v796 n797 cs798, .raw b21 o784, .row 182 4 v305 n306 cs307] := S801.drop 0
      refine FL.v (E.append rfl rfl run800) ?_
      refine FL.v (E.assign (v := v796) rfl) ?_
      refine FL.nil (FW.region ?_)
      refine FL.v (E.add k755 rfl) ?_
      refine FL.v (E.move (v := Value.int .i64 (wr (((i629 : Nat) : Int) + 1))) rfl) ?_
      refine FL.nil ?_
      obtain rfl := Option.some.inj hp
      exact ⟨rfl, ⟨_, _, _, _, _, S804, i752, els802, hm788, (nat_succ rfl hj629 (chk_le hchk629)), k756, k757, k758, rfl, k760, k761, k762⟩⟩
     ·
      refine FW.condF rfl c778 ?_
      refine FW.skip (FW.region ?_)
      refine FL.v (E.add k755 rfl) ?_
      refine FL.v (E.move (v := Value.int .i64 (wr (((i629 : Nat) : Int) + 1))) rfl) ?_
      refine FL.nil ?_
      obtain rfl := Option.some.inj hp
      exact ⟨rfl, ⟨_, _, _, _, _, S777, i752, els692, hm694, (nat_succ rfl hj629 (chk_le hchk629)), k756, k757, k758, k759, k760, k761, k762⟩⟩
    ·
     clear hp hq
     rintro s629 f836 w835 ⟨H832, v689, n690, cs691, o693, S833, i834, els692, hm694, k837, k838, k839, k840, k841, k842, k843, k844⟩
     refine FW.seq (FW.region ?_)
     refine FL.v (E.lss k837 k844) ?_
     refine FL.nil (FW.seq ?_)
     refine FW.condF rfl (dlt_maxchk hchk629) ?_
     refine FW.exit ?_
     exact ⟨nofun, rfl, ⟨_, _, _, _, _, S833, i834, els692, hm694, k838, k839, k840, k841, k842⟩⟩
    ·
     clear hq
     intro e f810 w809 hD
     rcases q629 with s629 | x629
     ·
      obtain ⟨rfl, hD⟩ := hD
      obtain ⟨H806, v689, n690, cs691, o693, S807, i808, els692, hm694, k811, k812, k813, k814, k815⟩ := hD
      replace hp := el_go hp
      refine FW.region ?_
      refine FL.v (E.move k812) ?_
      refine FL.v (E.load k815 (run_loadA Tryz.isAgg182 Tryz.sizeOf182 ((at622.mono i808).now S807.sl) rfl)) ?_
      obtain ⟨v816, w817, run818, S819⟩ := S807.buildSlice (P := Tryz.prog) te178 [Value.agg #[v575, v604, v607, Value.int .i64 r598.2.2]] (parts := #[(0, Value.agg #[v575, v604, v607, Value.int .i64 r598.2.2])]) (cells := [v575, v604, v607, Value.int .i64 r598.2.2]) rfl (szs_cons rfl szs_nil) (fc_cons rfl fc_nil) (ones_cons h576.one (ones_cons h605.one (ones_cons h608.one (ones_cons rfl ones_nil)))) (Nat.le_of_ble_eq_true rfl)
      have els820 : Els H806 esourced 4 [v575, v604, v607, Value.int .i64 r598.2.2] [(sourced.mk x573 r598.1 r598.2.1 r598.2.2)] := (Els.snoc (H := H806) (E := esourced) (k := 4) (c := [v575, v604, v607, Value.int .i64 r598.2.2]) (x := (sourced.mk x573 r598.1 r598.2.1 r598.2.2)) Els.nil rfl ⟨_, _, _, rfl, (h576.mono ((r603.inc.tr i621).tr i808)), (h605.mono (upI.tr (i621.tr i808))), (h608.mono (upI.tr (i621.tr i808)))⟩)
      refine FL.v (E.buildSlice (B1 rfl) run818) ?_
      obtain ⟨xs821, hz822, hp⟩ := bnd hp
      obtain ⟨v823, w826, n824, cs825, run827, S828, els829, ce830⟩ := S819.appendO (P := Tryz.prog) te178 (i := 4) (j := 0) rfl (els308.mono ((r603.inc.tr i621).tr i808)) rfl els820 hz822
      have S828 : St Ha wa H806 w826 [.row 182 4 v816 1 [v575, v604, v607, Value.int .i64 r598.2.2], .row 25 1 v623 2 [v604, v607], .rowo 25 1 v689 n690 cs691, .raw b21 o693, .row 182 4 v823 n824 cs825] := S828
      have S831 : St Ha wa H806 w826 [.row 25 1 v623 2 [v604, v607], .rowo 25 1 v689 n690 cs691, .raw b21 o693, .row 182 4 v823 n824 cs825] := S828.drop 0
      refine FL.v (E.append rfl rfl run827) ?_
      refine FL.v (E.assign (v := v823) rfl) ?_
      refine FL.nil ?_
      obtain rfl := Option.some.inj hp
      exact ⟨rfl, ⟨_, _, _, _, _, _, _, _, (S831.sel [1, 2, 3] (by decide) rfl), (((i559.tr r603.inc).tr i621).tr i808), els692, hm694, els829, k811, rfl, k813, k814⟩⟩
     ·
      exact x629.elim
   ·
    refine FW.condF rfl c597 ?_
    refine FW.skip (FW.region ?_)
    refine FL.v (E.move k563) ?_
    refine FL.v (E.load rfl (run_loadA Tryz.isAgg182 Tryz.sizeOf182 (S596.box_now (i := 0) rfl) rfl)) ?_
    obtain ⟨v845, w846, run847, S848⟩ := S596.buildSlice (P := Tryz.prog) te178 [Value.agg #[v575, Value.slice none 0 0, Value.slice none 0 0, Value.int .i64 0]] (parts := #[(0, Value.agg #[v575, Value.slice none 0 0, Value.slice none 0 0, Value.int .i64 0])]) (cells := [v575, Value.slice none 0 0, Value.slice none 0 0, Value.int .i64 0]) rfl (szs_cons rfl szs_nil) (fc_cons rfl fc_nil) (ones_cons h576.one (ones_cons rfl (ones_cons rfl (ones_cons rfl ones_nil)))) (Nat.le_of_ble_eq_true rfl)
    have els849 : Els H557 esourced 4 [v575, Value.slice none 0 0, Value.slice none 0 0, Value.int .i64 0] [(sourced.mk x573 [] [] 0)] := (Els.snoc (H := H557) (E := esourced) (k := 4) (c := [v575, Value.slice none 0 0, Value.slice none 0 0, Value.int .i64 0]) (x := (sourced.mk x573 [] [] 0)) Els.nil rfl ⟨_, _, _, rfl, h576, (RSl.nil _ _ _), (RSl.nil _ _ _)⟩)
    refine FL.v (E.buildSlice (B1 rfl) run847) ?_
    obtain ⟨xs850, hz851, hp⟩ := bnd hp
    obtain ⟨v852, w855, n853, cs854, run856, S857, els858, ce859⟩ := S848.appendO (P := Tryz.prog) te178 (i := 4) (j := 0) rfl els308 rfl els849 hz851
    have S857 : St Ha wa H557 w855 [.row 182 4 v845 1 [v575, Value.slice none 0 0, Value.slice none 0 0, Value.int .i64 0], .box b577 182 [v575, Value.slice none 0 0, Value.slice none 0 0, Value.int .i64 0], .rowo 25 1 v586 n587 cs588, .raw b21 o303, .row 182 4 v852 n853 cs854] := S857
    have S860 : St Ha wa H557 w855 [.box b577 182 [v575, Value.slice none 0 0, Value.slice none 0 0, Value.int .i64 0], .rowo 25 1 v586 n587 cs588, .raw b21 o303, .row 182 4 v852 n853 cs854] := S857.drop 0
    refine FL.v (E.append rfl rfl run856) ?_
    refine FL.v (E.assign (v := v852) rfl) ?_
    refine FL.nil ?_
    obtain rfl := Option.some.inj hp
    exact ⟨rfl, ⟨_, _, _, _, _, _, _, _, (S860.sel [1, 2, 3] (by decide) rfl), i559, els591, hm304, els858, k562, rfl, k564, rfl⟩⟩
  ·
   refine FW.condF rfl c566 ?_
   refine FW.exit ?_
   obtain rfl := Option.some.inj hp
   exact ⟨nofun, rfl, ⟨_, _, _, _, _, _, _, _, S558, i559, els302, hm304, els308, k563⟩⟩
 ·
  clear hq
  intro e f866 w865 hD
  rcases q42 with s42 | x42
  ·
   obtain ⟨rfl, hD⟩ := hD
   obtain ⟨H862, v299, n300, cs301, o303, v305, n306, cs307, S863, i864, els302, hm304, els308, k867⟩ := hD
   replace hp := el_go hp
   refine FW.seq (FW.region ?_)
   refine FL.v (E.move k867) ?_
   refine FL.v (E.assign (v := v305) rfl) ?_
   refine FL.nil ?_
   refine FW.ret ?_
   obtain rfl := Option.some.inj hp
   exact ⟨.inr rfl, res1 rfl rfl ⟨_, _, _, _, rfl, (S863.sel [2] (by decide) rfl), els308⟩⟩
  ·
   exact x42.elim

@[reducible] def p_slices_SortFunc_impl_sourced_impl_sourced (H0 : GH) (w0 : World) (Ha : GH) (L : List MO) (v0 : Value) (n0 : Nat) (r : (List sourced)) : Ending → World → Prop :=
 fun e w' => ∃ H' : GH, ∃ c0k : List Value, e = .returned (Value.tuple #[]) ∧ (St H0 w0 H' w' (.row 182 4 v0 n0 c0k :: L) ∧ Inc Ha H') ∧ Els H' esourced 4 c0k r
theorem w_slices_SortFunc_impl_sourced_impl_sourced {H0 Ha : GH} {w0 wa : World} {L : List MO} {v0 : Value} {n0 : Nat} {k0 : List Value} (S0 : St H0 w0 Ha wa (.row 182 4 v0 n0 k0 :: L)) (a0 : List sourced) (p0 : Els Ha esourced 4 k0 a0) (v1 : Value) (a1 : sourced → sourced → Option Int) (p1 : Fn_sourced_sourced_to_I Tryz.prog Ha v1 a1) {r : (List sourced)} (hp : (PF.slices_SortFunc_impl_sourced_impl_sourced a0 a1) = some r) :
  Calls Tryz.prog 179 #[v0, v1] wa (p_slices_SortFunc_impl_sourced_impl_sourced H0 w0 Ha L v0 n0 r) := by
 refine (St.sortFK (by decide) (l := .row 182 4 v0 n0 k0 :: L) (i := 0) (Inc.rfl _) S0 rfl p0 (fun H2 w2 hi hs2 c x _ hc d y _ hd r hr => by obtain ⟨y0_0, y0_1, y0_2, e0, z0_0, z0_1, z0_2⟩ := esourced_open hc; cases e0; obtain ⟨y1_0, y1_1, y1_2, e1, z1_0, z1_1, z1_2⟩ := esourced_open hd; cases e1; exact p1 H2 w2 hi hs2 x y0_0 z0_0 y0_1 z0_1 y0_2 z0_2 y y1_0 z1_0 y1_1 z1_1 y1_2 z1_2 r hr) (fun p cap fv w => AnyF.slices_SortFunc_none (P := Tryz.prog) (ρ := Tryz.sort179_ren) Tryz.sort179 p cap fv w) (fun α _ enc hk h1 cf hO g cb blk off cap d w eg hc hH hb hs => AnyQ.slices_SortFunc Tryz.sort179 4 Tryz.isAgg182 Tryz.sizeOf182 enc hk h1 cf hO g cb blk off cap d w eg hc hH hb hs) hp).mono ?_
 rintro e w' ⟨rfl, c', h1, h2, hq⟩
 exact ⟨_, _, rfl, ⟨h1, Inc.rfl _⟩, h2⟩

theorem w_impl_closure_derive_1 {Ha : GH} {wa : World} (hs : Sl Ha wa) (a0 : sourced) (v0_0 : Value) (p0_0 : RSl Ha eI 1 v0_0 a0.clause) (v0_1 : Value) (p0_1 : RSl Ha eI 1 v0_1 a0.a) (v0_2 : Value) (p0_2 : RSl Ha eI 1 v0_2 a0.b) (a1 : sourced) (v1_0 : Value) (p1_0 : RSl Ha eI 1 v1_0 a1.clause) (v1_1 : Value) (p1_1 : RSl Ha eI 1 v1_1 a1.a) (v1_2 : Value) (p1_2 : RSl Ha eI 1 v1_2 a1.b) (q0 : Addr) (b0 : closure) (q0_0C : Addr) (v0_0C_0 : Value) (v0_0C_1 : Value) (p0_0C_0 : RSl Ha (eN .u16) 1 v0_0C_0 b0.masks) (p0_0C_1 : MAt (K := Int) (V := Int) Ha (Value.int .u16) (Value.int .i64) v0_0C_1 b0.rounds) (c0_0C : CAt Ha q0_0C [v0_0C_0, v0_0C_1, Value.int .i64 b0.last]) (c0 : CAt Ha q0 [Value.pointer (some q0_0C)]) {r : Int} (hp : (PF.impl_closure_derive_1 a0 a1 b0) = some r) :
  Calls Tryz.prog 180 #[Value.agg #[v0_0, v0_1, v0_2, Value.int .i64 a0.v], Value.agg #[v1_0, v1_1, v1_2, Value.int .i64 a1.v], Value.pointer (some q0)] wa (Sc Ha wa (Value.int .i64 r)) := by
 unfold PF.impl_closure_derive_1 at hp
 have S0 := St.init hs
 refine calls_go (N := 24) (args := [Value.agg #[v0_0, v0_1, v0_2, Value.int .i64 a0.v], Value.agg #[v1_0, v1_1, v1_2, Value.int .i64 a1.v], Value.pointer (some q0)]) Tryz.func180 rfl rfl rfl ?_
 refine FW.seq (FW.region ?_)
 obtain ⟨b21, w22, run23, S24⟩ := S0.box (P := Tryz.prog) 182 [v0_0, v0_1, v0_2, Value.int .i64 a0.v] (v := Value.agg #[v0_0, v0_1, v0_2, Value.int .i64 a0.v]) rfl (ones_cons p0_0.one (ones_cons p0_1.one (ones_cons p0_2.one (ones_cons rfl ones_nil))))
 refine FL.v (E.box rfl run23) ?_
 obtain ⟨H25, S26, i27, at28⟩ := S24.sealBox (i := 0) (l' := []) rfl rfl
 obtain ⟨b29, w30, run31, S32⟩ := S26.box (P := Tryz.prog) 182 [v1_0, v1_1, v1_2, Value.int .i64 a1.v] (v := Value.agg #[v1_0, v1_1, v1_2, Value.int .i64 a1.v]) rfl (ones_cons p1_0.one (ones_cons p1_1.one (ones_cons p1_2.one (ones_cons rfl ones_nil))))
 refine FL.v (E.box rfl run31) ?_
 obtain ⟨H33, S34, i35, at36⟩ := S32.sealBox (i := 0) (l' := []) rfl rfl
 refine FL.v (E.assign (v := Value.int .i64 0) rfl) ?_
 refine FL.nil (FW.seq (FW.seq ?_))
 obtain ⟨r40, hr41, hp⟩ := bnd hp
 obtain ⟨r45, hr46, hp⟩ := bnd hp
 refine FW.drawB (Sl H33) (fun f w => ∃ H : GH, St Ha wa H w [] ∧ Inc H33 H ∧ f 3 = Value.pointer (some ⟨b21, 0, none⟩) ∧ f 4 = Value.pointer (some ⟨b29, 0, none⟩) ∧ f 6 = Value.int .i64 (wr (r40 - r45))) (by kernel_rfl) S34.sl ?_ ?_
 ·
  intro w37 r38
  have S39 := S34.call r38
  refine FB.t (i := 0) (bs 10 1) rfl (SP.nil S39.sl) rfl (fun w' hw' => (E.load rfl (run_load0 Tryz.isAgg92 ((c0.mono (i27.tr i35)).now hw') rfl))) ?_
  refine FB.t (i := 1) (bs 10 3) rfl (SP.nil S39.sl) rfl (fun w' hw' => (E.fieldAddr tf182_0 rfl)) ?_
  refine FB.t (i := 2) (bs 10 7) rfl (SP.nil S39.sl) rfl (fun w' hw' => (E.load rfl (run_load1 Tryz.isAgg25 ((at28.mono i35).now hw') rfl))) ?_
  refine FB.t (i := 4) (bs 10 23) rfl (SP.nil S39.sl) rfl (fun w' hw' => (E.load rfl (run_load0 Tryz.isAgg92 ((c0.mono (i27.tr i35)).now hw') rfl))) ?_
  refine FB.t (i := 5) (bs 10 55) rfl (SP.nil S39.sl) rfl (fun w' hw' => (E.fieldAddr tf182_0 rfl)) ?_
  refine FB.t (i := 6) (bs 10 119) rfl (SP.nil S39.sl) rfl (fun w' hw' => (E.load rfl (run_load1 Tryz.isAgg25 (at36.now hw') rfl))) ?_
  refine FB.all1 (i := 3) (by kernel_rfl) ?_
  ·
   refine FC.call (l' := (bs 10 127)) rfl (by kernel_rfl) rfl rfl rfl (E.call Tryz.call86 (A2 rfl rfl)) (w_impl_closure_round S39.sl q0_0C b0 v0_0C_0 v0_0C_1 (p0_0C_0.mono (i27.tr i35)) (p0_0C_1.mono (i27.tr i35)) (c0_0C.mono (i27.tr i35)) v0_0 a0.clause (p0_0.mono (i27.tr i35)) hr41) ?_
   rintro e w42 ⟨rfl, r43⟩
   refine ⟨_, rfl, ?_⟩
   have S44 := S39.call r43
   refine ⟨(SP.nil S44.sl), ?_⟩
   refine FB.all1 (i := 7) (by kernel_rfl) ?_
   ·
    refine FC.call (l' := (bs 10 255)) rfl (by kernel_rfl) rfl rfl rfl (E.call Tryz.call86 (A2 rfl rfl)) (w_impl_closure_round S44.sl q0_0C b0 v0_0C_0 v0_0C_1 (p0_0C_0.mono (i27.tr i35)) (p0_0C_1.mono (i27.tr i35)) (c0_0C.mono (i27.tr i35)) v1_0 a1.clause (p1_0.mono (i27.tr i35)) hr46) ?_
    rintro e w47 ⟨rfl, r48⟩
    refine ⟨_, rfl, ?_⟩
    have S49 := S44.call r48
    refine ⟨(SP.nil S49.sl), ?_⟩
    refine FB.t (i := 8) (bs 10 511) rfl (SP.nil S49.sl) rfl (fun w' hw' => (E.sub rfl rfl)) ?_
    refine FB.t (i := 9) (bs 10 1023) rfl (SP.nil S49.sl) rfl (fun w' hw' => (E.assign (v := Value.int .i64 (wr (r40 - r45))) rfl)) ?_
    exact FB.done (by kernel_rfl) ⟨_, S49, (Inc.rfl _), rfl, rfl, rfl⟩
 ·
  rintro f54 w53 ⟨H50, S51, i52, k55, k56, k57⟩
  refine FW.seq (FW.region ?_)
  refine FL.v (E.move k57) ?_
  refine FL.v (E.neq rfl rfl) ?_
  refine FL.nil ?_
  rcases ifB hp with ⟨c58, hp⟩ | ⟨c58, hp⟩
  ·
   refine FW.condT rfl c58 ?_
   refine FW.seq (FW.region ?_)
   refine FL.v (E.move k57) ?_
   refine FL.v (E.assign (v := Value.int .i64 (wr (r40 - r45))) rfl) ?_
   refine FL.nil ?_
   refine FW.ret ?_
   obtain rfl := Option.some.inj hp
   exact ⟨.inr rfl, res1 rfl rfl ⟨rfl, S51.back⟩⟩
  ·
   refine FW.condF rfl c58 ?_
   refine FW.skip (FW.seq (FW.region ?_))
   refine FL.v (E.fieldAddr tf182_0 k55) ?_
   refine FL.v (E.load rfl (run_load1 Tryz.isAgg25 ((at28.mono (i35.tr i52)).now S51.sl) rfl)) ?_
   refine FL.v (E.fieldAddr tf182_0 k56) ?_
   refine FL.v (E.load rfl (run_load1 Tryz.isAgg25 ((at36.mono i52).now S51.sl) rfl)) ?_
   obtain ⟨r59, hr60, hp⟩ := bnd hp
   refine FL.call rfl rfl rfl (E.call Tryz.call100 (A2 rfl rfl)) (w_impl_compareClauses S51.sl v0_0 a0.clause (p0_0.mono ((i27.tr i35).tr i52)) v1_0 a1.clause (p1_0.mono ((i27.tr i35).tr i52)) hr60) ?_
   rintro e w61 ⟨rfl, r62⟩
   refine ⟨_, rfl, ?_⟩
   have S63 := S51.call r62
   refine FL.v (E.assign (v := Value.int .i64 r59) rfl) ?_
   refine FL.nil ?_
   refine FW.ret ?_
   obtain rfl := Option.some.inj hp
   exact ⟨.inr rfl, res1 rfl rfl ⟨rfl, S63.back⟩⟩

@[reducible] def p_slices_Clone_int_int (Ha : GH) (wa : World) (r : (List Int)) : Ending → World → Prop :=
 fun e w' => ∃ H' : GH, ∃ v0 : Value, ∃ n0 : Nat, ∃ c0 : List Value, e = .returned (v0) ∧ St Ha wa H' w' [.row 3 1 v0 n0 c0] ∧ Els (up wa.heap.size H') eI 1 c0 r
theorem w_slices_Clone_int_int {Ha : GH} {wa : World} (hs : Sl Ha wa) (v0 : Value) (a0 : List Int) (p0 : RSl Ha eI 1 v0 a0) {r : (List Int)} (hp : (PF.slices_Clone_int_int a0) = some r) :
  Calls Tryz.prog 181 #[v0] wa (p_slices_Clone_int_int Ha wa r) := by
 unfold PF.slices_Clone_int_int at hp
 have S0 := St.init hs
 refine calls_go (N := 8) (args := [v0]) Tryz.func181 rfl rfl rfl ?_
 refine FW.seq (FW.region ?_)
 refine FL.v (E.assign (v := Value.slice none 0 0) rfl) ?_
 refine FL.nil (FW.seq (FW.seq (FW.region ?_)))
 refine FL.v (E.move (v := v0) rfl) ?_
 obtain ⟨nb21, run22, hn23⟩ := RSl.nilTest te25 p0
 refine FL.v (run22 _ _ _ _ _ _ _ _ _ _ _ _ rfl rfl) ?_
 refine FL.nil ?_
 rcases bcase nb21 with c24 | c24
 ·
  refine FW.condT (b := nb21) rfl c24 ?_
  rw [hn23 c24, app_nil2] at hp
  refine FW.seq (FW.region ?_)
  refine FL.v (E.assign (v := Value.slice none 0 0) rfl) ?_
  refine FL.nil ?_
  refine FW.ret ?_
  obtain rfl := Option.some.inj hp
  exact ⟨.inr rfl, res1 rfl rfl ⟨_, _, _, _, rfl, (S0.nil 3 1), Els.nil⟩⟩
 ·
  refine FW.condF (b := nb21) rfl c24 ?_
  refine FW.skip (FW.seq (FW.region ?_))
  obtain ⟨v25, w26, run27, S28⟩ := S0.buildSlice (P := Tryz.prog) te25 [] (parts := #[]) (cells := []) rfl szs_nil fc_nil ones_nil (Nat.le_of_ble_eq_true rfl)
  have els29 : Els (up wa.heap.size Ha) eI 1 [] [] := Els.nil
  refine FL.v (E.buildSlice (B0) run27) ?_
  refine FL.v (E.move (v := v0) rfl) ?_
  obtain ⟨xs30, hz31, hp⟩ := bnd hp
  obtain ⟨v32, w35, n33, cs34, run36, S37, els38⟩ := S28.appendP (P := Tryz.prog) (Inc.rfl _) te25 (i := 0) rfl (els29.mono upI) p0 hz31
  have S37 : St Ha wa Ha w35 [.row 3 1 v32 n33 cs34] := S37
  have els38 : Els (up wa.heap.size Ha) eI 1 cs34 xs30 := els38.any (fun _ _ _ _ h => h)
  refine FL.v (E.append rfl rfl run36) ?_
  refine FL.v (E.assign (v := v32) rfl) ?_
  refine FL.nil ?_
  refine FW.ret ?_
  obtain rfl := Option.some.inj hp
  exact ⟨.inr rfl, res1 rfl rfl ⟨_, _, _, _, rfl, S37, els38⟩⟩

set_option maxHeartbeats 4000000 in
theorem w_slices_Equal_int_int {Ha : GH} {wa : World} (hs : Sl Ha wa) (v0 : Value) (a0 : List Int) (p0 : RSl Ha eI 1 v0 a0) (v1 : Value) (a1 : List Int) (p1 : RSl Ha eI 1 v1 a1) {r : Bool} (hp : (PF.slices_Equal_int_int a0 a1) = some r) :
  Calls Tryz.prog 262 #[v0, v1] wa (Sc Ha wa (Value.bool r)) := by
 unfold PF.slices_Equal_int_int at hp
 have S0 := St.init hs
 refine calls_go (N := 26) (args := [v0, v1]) Tryz.func262 rfl rfl rfl ?_
 refine FW.seq (FW.region ?_)
 refine FL.v (E.assign (v := Value.bool false) rfl) ?_
 refine FL.nil (FW.seq (FW.seq (FW.region ?_)))
 refine FL.v (E.move (v := v0) rfl) ?_
 refine FL.v (E.lenP te25 rfl p0) ?_
 refine FL.v (E.move (v := v1) rfl) ?_
 refine FL.v (E.lenP te25 rfl p1) ?_
 refine FL.v (E.neq rfl rfl) ?_
 refine FL.nil ?_
 rcases ifB hp with ⟨c21, hp⟩ | ⟨c21, hp⟩
 ·
  refine FW.condT rfl c21 ?_
  refine FW.seq (FW.region ?_)
  refine FL.v (E.assign (v := Value.bool false) rfl) ?_
  refine FL.nil ?_
  refine FW.ret ?_
  obtain rfl := Option.some.inj hp
  exact ⟨.inr rfl, res1 rfl rfl ⟨rfl, S0.back⟩⟩
 ·
  refine FW.condF rfl c21 ?_
  refine FW.skip (FW.seq (FW.seq (FW.region ?_)))
  refine FL.v (E.move (v := v0) rfl) ?_
  refine FL.v (E.lenP te25 rfl p0) ?_
  refine FL.v (E.move (v := Value.int .i64 0) rfl) ?_
  refine FL.nil ?_
  obtain ⟨q23, hq, hp⟩ := bndR hp
  refine FW.block ?_
  refine FW.mono (FW.forL (S := Unit) (X := Bool) (fun (i23 : Nat) (s23 : Unit) f w => ∃ H : GH, St Ha wa H w [] ∧ Inc Ha H ∧ f 13 = Value.int .i64 ((i23 : Nat) : Int) ∧ f 0 = v0 ∧ f 1 = v1 ∧ f 12 = Value.int .i64 (len a0)) (fun q e f w => match q with | .go s23 => e = Exit.exit 0 ∧ (∃ H : GH, St Ha wa H w [] ∧ Inc Ha H) | .rt x => ((e = Exit.ret) ∧ (fun e f w => (e = Exit.normal ∨ e = Exit.ret) ∧ ∀ a, Fr (δ := []) 26 a f → ∃ v, (results Tryz.f262 a.tmps).run Tryz.prog w = .ok v w ∧ (Sc Ha wa (Value.bool x)) (.returned v) w) e f w)) hq ⟨_, S0, (Inc.rfl _), rfl, rfl, rfl, rfl⟩ ?_ ?_) ?_
  ·
   clear hp hq
   rintro i23 y22 s23 f56 w55 ⟨H52, S53, i54, k57, k58, k59, k60⟩ hx23 o80 hp
   refine FW.seq (FW.region ?_)
   refine FL.v (E.lssT k57 k60 (lss_len hx23)) ?_
   refine FL.nil (FW.seq ?_)
   refine FW.condT rfl rfl ?_
   refine FW.skip (FW.seq (FW.block (FW.seq (FW.region ?_))))
   refine FL.v (E.move k57) ?_
   refine FL.v (E.assign (v := Value.int .i64 ((i23 : Nat) : Int)) rfl) ?_
   refine FL.nil (FW.seq ?_)
   refine FW.draw (fun w' => Run w55.heap.size H52 w55 H52 w') (by kernel_rfl) (by kernel_rfl) (run_drew S53.sl) ?_
   refine FD.val rfl rfl rfl (fun w' hw' => (E.move k58)) ?_
   refine FD.val rfl rfl rfl (fun w' hw' => (E.move (v := Value.int .i64 ((i23 : Nat) : Int)) rfl)) ?_
   obtain ⟨p62, cs63, pt64, l65, at66, rel67⟩ := p0.at (ix_nat hx23)
   obtain rfl := eI_open rel67
   refine FD.val rfl rfl rfl (fun w' hw' => (E.indexAddr te25 rfl rfl pt64)) ?_
   refine FD.val rfl rfl rfl (fun w' hw' => (E.load rfl (run_load0 Tryz.isAgg3 ((at66.mono i54).now (S53.call hw').sl) rfl))) ?_
   refine FD.val rfl rfl rfl (fun w' hw' => (E.move k59)) ?_
   refine FD.val rfl rfl rfl (fun w' hw' => (E.move (v := Value.int .i64 ((i23 : Nat) : Int)) rfl)) ?_
   obtain ⟨x74, hx75, hp⟩ := bnd hp
   obtain ⟨p68, cs69, pt70, l71, at72, rel73⟩ := p1.at hx75
   obtain rfl := eI_open rel73
   refine FD.val rfl rfl rfl (fun w' hw' => (E.indexAddr te25 rfl rfl pt70)) ?_
   refine FD.val rfl rfl rfl (fun w' hw' => (E.load rfl (run_load0 Tryz.isAgg3 ((at72.mono i54).now (S53.call hw').sl) rfl))) ?_
   refine FD.val rfl rfl rfl (fun w' hw' => (E.neq rfl rfl)) ?_
   refine FD.nil ?_
   intro w76 r78
   have S77 := S53.call r78
   rcases ifB hp with ⟨c79, hp⟩ | ⟨c79, hp⟩
   ·
    refine FW.condT rfl c79 ?_
    refine FW.seq (FW.region ?_)
    refine FL.v (E.assign (v := Value.bool false) rfl) ?_
    refine FL.nil ?_
    refine FW.ret ?_
    obtain rfl := Option.some.inj hp
    exact ⟨nofun, rfl, ⟨.inr rfl, res1 rfl rfl ⟨rfl, S77.back⟩⟩⟩
   ·
    refine FW.condF rfl c79 ?_
    refine FW.skip (FW.region ?_)
    refine FL.v (E.add k57 rfl) ?_
    refine FL.v (E.move (v := Value.int .i64 (wr (((i23 : Nat) : Int) + 1))) rfl) ?_
    refine FL.nil ?_
    obtain rfl := Option.some.inj hp
    exact ⟨rfl, ⟨_, S77, i54, (nat_succ rfl (lt_of_get hx23) (p0.mono i54).le), k58, k59, k60⟩⟩
  ·
   clear hp hq
   rintro s23 f90 w89 ⟨H86, S87, i88, k91, k92, k93, k94⟩
   refine FW.seq (FW.region ?_)
   refine FL.v (E.lss k91 k94) ?_
   refine FL.nil (FW.seq ?_)
   refine FW.condF rfl dlt_len ?_
   refine FW.exit ?_
   exact ⟨nofun, rfl, ⟨_, S87, i88⟩⟩
  ·
   clear hq
   intro e f85 w84 hD
   rcases q23 with s23 | x23
   ·
    obtain ⟨rfl, hD⟩ := hD
    obtain ⟨H81, S82, i83⟩ := hD
    replace hp := el_go hp
    refine FW.seq (FW.region ?_)
    refine FL.v (E.assign (v := Value.bool true) rfl) ?_
    refine FL.nil ?_
    refine FW.ret ?_
    obtain rfl := Option.some.inj hp
    exact ⟨.inr rfl, res1 rfl rfl ⟨rfl, S82.back⟩⟩
   ·
    obtain ⟨he, hL⟩ := hD
    replace hp := el_rt hp
    obtain rfl := Option.some.inj hp
    subst he
    exact hL

theorem w_impl_indexOf_1 {Ha : GH} {wa : World} (hs : Sl Ha wa) (v0 : Value) (a0 : List Int) (p0 : RSl Ha eI 1 v0 a0) (q0 : Addr) (b0 : List Int) (u0_0 : Value) (g0_0 : RSl Ha eI 1 u0_0 b0) (c0 : CAt Ha q0 [u0_0]) {r : Bool} (hp : (PF.impl_indexOf_1 a0 b0) = some r) :
  Calls Tryz.prog 261 #[v0, Value.pointer (some q0)] wa (Sc Ha wa (Value.bool r)) := by
 unfold PF.impl_indexOf_1 at hp
 have S0 := St.init hs
 refine calls_go (N := 7) (args := [v0, Value.pointer (some q0)]) Tryz.func261 rfl rfl rfl ?_
 refine FW.seq (FW.region ?_)
 refine FL.v (E.assign (v := Value.bool false) rfl) ?_
 refine FL.nil (FW.seq (FW.region ?_))
 refine FL.v (E.load rfl (run_load0 Tryz.isAgg25 (c0.now S0.sl) rfl)) ?_
 refine FL.v (E.move (v := v0) rfl) ?_
 obtain ⟨r21, hr22, hp⟩ := bnd hp
 refine FL.call rfl rfl rfl (E.call Tryz.call262 (A2 rfl rfl)) (w_slices_Equal_int_int S0.sl u0_0 b0 g0_0 v0 a0 p0 hr22) ?_
 rintro e w23 ⟨rfl, r24⟩
 refine ⟨_, rfl, ?_⟩
 have S25 := S0.call r24
 refine FL.v (E.assign (v := Value.bool r21) rfl) ?_
 refine FL.nil ?_
 refine FW.ret ?_
 obtain rfl := Option.some.inj hp
 exact ⟨.inr rfl, res1 rfl rfl ⟨rfl, S25.back⟩⟩

theorem w_impl_indexOf {Ha : GH} {wa : World} (hs : Sl Ha wa) (v0 : Value) (a0 : List (List Int)) (p0 : RSl Ha (eL eI 1) 1 v0 a0) (v1 : Value) (a1 : List Int) (p1 : RSl Ha eI 1 v1 a1) {r : Int} (hp : (PF.impl_indexOf a0 a1) = some r) :
  Calls Tryz.prog 182 #[v0, v1] wa (Sc Ha wa (Value.int .i64 r)) := by
 unfold PF.impl_indexOf at hp
 have S0 := St.init hs
 refine calls_go (N := 8) (args := [v0, v1]) Tryz.func182 rfl rfl rfl ?_
 refine FW.seq (FW.region ?_)
 obtain ⟨b21, w22, run23, S24⟩ := S0.box (P := Tryz.prog) 25 [v1] (v := v1) p1.cells (ones_cons p1.one ones_nil)
 refine FL.v (E.box rfl run23) ?_
 obtain ⟨H25, S26, i27, at28⟩ := S24.sealBox (i := 0) (l' := []) rfl rfl
 refine FL.v (E.assign (v := Value.int .i64 0) rfl) ?_
 refine FL.nil (FW.seq (FW.region ?_))
 refine FL.v (E.move (v := v0) rfl) ?_
 refine FL.v (E.makeFunc A0 (A1 rfl)) ?_
 obtain ⟨r29, hr30, hp⟩ := bnd hp
 refine FL.call rfl rfl rfl (E.call Tryz.call260 (A2 rfl rfl)) (w_slices_IndexFunc_LLint_Lint S26.sl v0 a0 (p0.mono i27) (Value.func (.func 261) #[] #[Value.pointer (some ⟨b21, 0, none⟩)]) (fun x0 => PF.impl_indexOf_1 x0 a1) (fun H2 w2 hi2 hs2 x0 y0 z0 r hr => ⟨261, #[Value.pointer (some ⟨b21, 0, none⟩)], rfl, Tryz.call261, w_impl_indexOf_1 hs2 y0 x0 z0 ⟨b21, 0, none⟩ a1 v1 ((p1.mono i27).mono hi2) (at28.mono hi2) hr⟩) hr30) ?_
 rintro e w31 ⟨rfl, r32⟩
 refine ⟨_, rfl, ?_⟩
 have S33 := S26.call r32
 refine FL.v (E.assign (v := Value.int .i64 r29) rfl) ?_
 refine FL.nil ?_
 refine FW.ret ?_
 obtain rfl := Option.some.inj hp
 exact ⟨.inr rfl, res1 rfl rfl ⟨rfl, S33.back⟩⟩

theorem w_slices_IndexFunc_impl_ResStep_impl_ResStep {Ha : GH} {wa : World} (hs : Sl Ha wa) (v0 : Value) (a0 : List ResStep) (p0 : RSl Ha eResStep 4 v0 a0) (v1 : Value) (a1 : ResStep → Option Bool) (p1 : Fn_ResStep_to_B Tryz.prog Ha v1 a1) {r : Int} (hp : (PF.slices_IndexFunc_impl_ResStep_impl_ResStep a0 a1) = some r) :
  Calls Tryz.prog 263 #[v0, v1] wa (Sc Ha wa (Value.int .i64 r)) := by
 unfold PF.slices_IndexFunc_impl_ResStep_impl_ResStep at hp
 have S0 := St.init hs
 refine calls_go (N := 19) (args := [v0, v1]) Tryz.func263 rfl rfl rfl ?_
 refine FW.seq (FW.region ?_)
 refine FL.v (E.assign (v := Value.int .i64 0) rfl) ?_
 refine FL.nil (FW.seq (FW.seq (FW.region ?_)))
 refine FL.v (E.move (v := v0) rfl) ?_
 refine FL.v (E.lenP te27 rfl p0) ?_
 refine FL.v (E.move (v := Value.int .i64 0) rfl) ?_
 refine FL.nil ?_
 obtain ⟨q22, hq, hp⟩ := bndR hp
 refine FW.block ?_
 refine FW.mono (FW.forL (S := Unit) (X := Int) (fun (i22 : Nat) (s22 : Unit) f w => ∃ H : GH, St Ha wa H w [] ∧ Inc Ha H ∧ f 8 = Value.int .i64 ((i22 : Nat) : Int) ∧ f 0 = v0 ∧ f 1 = v1 ∧ f 7 = Value.int .i64 (len a0)) (fun q e f w => match q with | .go s22 => e = Exit.exit 0 ∧ (∃ H : GH, St Ha wa H w [] ∧ Inc Ha H) | .rt x => ((e = Exit.ret) ∧ (fun e f w => (e = Exit.normal ∨ e = Exit.ret) ∧ ∀ a, Fr (δ := []) 19 a f → ∃ v, (results Tryz.f263 a.tmps).run Tryz.prog w = .ok v w ∧ (Sc Ha wa (Value.int .i64 x)) (.returned v) w) e f w)) hq ⟨_, S0, (Inc.rfl _), rfl, rfl, rfl, rfl⟩ ?_ ?_) ?_
 ·
  clear hp hq
  rintro i22 y21 s22 f55 w54 ⟨H51, S52, i53, k56, k57, k58, k59⟩ hx22 o79 hp
  refine FW.seq (FW.region ?_)
  refine FL.v (E.lssT k56 k59 (lss_len hx22)) ?_
  refine FL.nil (FW.seq ?_)
  refine FW.condT rfl rfl ?_
  refine FW.skip (FW.seq (FW.block (FW.seq (FW.region ?_))))
  refine FL.v (E.move k56) ?_
  refine FL.v (E.assign (v := Value.int .i64 ((i22 : Nat) : Int)) rfl) ?_
  refine FL.nil (FW.seq (FW.region ?_))
  refine FL.v (E.move k58) ?_
  refine FL.v (E.move k57) ?_
  refine FL.v (E.move (v := Value.int .i64 ((i22 : Nat) : Int)) rfl) ?_
  obtain ⟨p60, cs61, pt62, l63, at64, rel65⟩ := p0.at (ix_nat hx22)
  obtain ⟨v66, rfl, h67⟩ := eResStep_open rel65
  refine FL.v (E.indexAddr te27 rfl rfl pt62) ?_
  refine FL.v (E.load rfl (run_loadA Tryz.isAgg98 Tryz.sizeOf98 ((at64.mono i53).now S52.sl) rfl)) ?_
  obtain ⟨r68, hr69, hp⟩ := bnd hp
  obtain ⟨fi73, cs74, hv75, he76, hc77⟩ := (p1.mono i53) H51 w54 (Inc.rfl _) S52.sl y21 v66 (h67.mono i53) r68 hr69
  refine FL.call rfl rfl rfl (E.callV he76 (Eq.trans rfl hv75) (appA (A1 rfl) cs74)) hc77 ?_
  rintro e w70 ⟨rfl, r71⟩
  refine ⟨_, rfl, ?_⟩
  have S72 := S52.call r71
  refine FL.nil ?_
  rcases ifB hp with ⟨c78, hp⟩ | ⟨c78, hp⟩
  ·
   refine FW.condT rfl c78 ?_
   refine FW.seq (FW.region ?_)
   refine FL.v (E.move (v := Value.int .i64 ((i22 : Nat) : Int)) rfl) ?_
   refine FL.v (E.assign (v := Value.int .i64 ((i22 : Nat) : Int)) rfl) ?_
   refine FL.nil ?_
   refine FW.ret ?_
   obtain rfl := Option.some.inj hp
   exact ⟨nofun, rfl, ⟨.inr rfl, res1 rfl rfl ⟨rfl, S72.back⟩⟩⟩
  ·
   refine FW.condF rfl c78 ?_
   refine FW.skip (FW.region ?_)
   refine FL.v (E.add k56 rfl) ?_
   refine FL.v (E.move (v := Value.int .i64 (wr (((i22 : Nat) : Int) + 1))) rfl) ?_
   refine FL.nil ?_
   obtain rfl := Option.some.inj hp
   exact ⟨rfl, ⟨_, S72, i53, (nat_succ rfl (lt_of_get hx22) (p0.mono i53).le), k57, k58, k59⟩⟩
 ·
  clear hp hq
  rintro s22 f89 w88 ⟨H85, S86, i87, k90, k91, k92, k93⟩
  refine FW.seq (FW.region ?_)
  refine FL.v (E.lss k90 k93) ?_
  refine FL.nil (FW.seq ?_)
  refine FW.condF rfl dlt_len ?_
  refine FW.exit ?_
  exact ⟨nofun, rfl, ⟨_, S86, i87⟩⟩
 ·
  clear hq
  intro e f84 w83 hD
  rcases q22 with s22 | x22
  ·
   obtain ⟨rfl, hD⟩ := hD
   obtain ⟨H80, S81, i82⟩ := hD
   replace hp := el_go hp
   refine FW.seq (FW.region ?_)
   refine FL.v (E.assign (v := Value.int .i64 (-1)) rfl) ?_
   refine FL.nil ?_
   refine FW.ret ?_
   obtain rfl := Option.some.inj hp
   exact ⟨.inr rfl, res1 rfl rfl ⟨rfl, S81.back⟩⟩
  ·
   obtain ⟨he, hL⟩ := hD
   replace hp := el_rt hp
   obtain rfl := Option.some.inj hp
   subst he
   exact hL

theorem w_impl_firstWith_1 {Ha : GH} {wa : World} (hs : Sl Ha wa) (a0 : ResStep) (v0_0 : Value) (p0_0 : RSl Ha eI 1 v0_0 a0.clause) (q0 : Addr) (b0 : List Int) (u0_0 : Value) (g0_0 : RSl Ha eI 1 u0_0 b0) (c0 : CAt Ha q0 [u0_0]) {r : Bool} (hp : (PF.impl_firstWith_1 a0 b0) = some r) :
  Calls Tryz.prog 264 #[Value.agg #[v0_0, Value.int .i64 a0.left, Value.int .i64 a0.right, Value.int .i64 a0.pivot], Value.pointer (some q0)] wa (Sc Ha wa (Value.bool r)) := by
 unfold PF.impl_firstWith_1 at hp
 have S0 := St.init hs
 refine calls_go (N := 8) (args := [Value.agg #[v0_0, Value.int .i64 a0.left, Value.int .i64 a0.right, Value.int .i64 a0.pivot], Value.pointer (some q0)]) Tryz.func264 rfl rfl rfl ?_
 refine FW.seq (FW.region ?_)
 obtain ⟨b21, w22, run23, S24⟩ := S0.box (P := Tryz.prog) 98 [v0_0, Value.int .i64 a0.left, Value.int .i64 a0.right, Value.int .i64 a0.pivot] (v := Value.agg #[v0_0, Value.int .i64 a0.left, Value.int .i64 a0.right, Value.int .i64 a0.pivot]) rfl (ones_cons p0_0.one (ones_cons rfl (ones_cons rfl (ones_cons rfl ones_nil))))
 refine FL.v (E.box rfl run23) ?_
 obtain ⟨H25, S26, i27, at28⟩ := S24.sealBox (i := 0) (l' := []) rfl rfl
 refine FL.v (E.assign (v := Value.bool false) rfl) ?_
 refine FL.nil (FW.seq (FW.region ?_))
 refine FL.v (E.fieldAddr tf98_0 rfl) ?_
 refine FL.v (E.load rfl (run_load1 Tryz.isAgg25 (at28.now S26.sl) rfl)) ?_
 refine FL.v (E.load rfl (run_load0 Tryz.isAgg25 ((c0.mono i27).now S26.sl) rfl)) ?_
 obtain ⟨r29, hr30, hp⟩ := bnd hp
 refine FL.call rfl rfl rfl (E.call Tryz.call262 (A2 rfl rfl)) (w_slices_Equal_int_int S26.sl v0_0 a0.clause (p0_0.mono i27) u0_0 b0 (g0_0.mono i27) hr30) ?_
 rintro e w31 ⟨rfl, r32⟩
 refine ⟨_, rfl, ?_⟩
 have S33 := S26.call r32
 refine FL.v (E.assign (v := Value.bool r29) rfl) ?_
 refine FL.nil ?_
 refine FW.ret ?_
 obtain rfl := Option.some.inj hp
 exact ⟨.inr rfl, res1 rfl rfl ⟨rfl, S33.back⟩⟩

theorem w_impl_firstWith {Ha : GH} {wa : World} (hs : Sl Ha wa) (v0 : Value) (a0 : List ResStep) (p0 : RSl Ha eResStep 4 v0 a0) (v1 : Value) (a1 : List Int) (p1 : RSl Ha eI 1 v1 a1) {r : Int} (hp : (PF.impl_firstWith a0 a1) = some r) :
  Calls Tryz.prog 183 #[v0, v1] wa (Sc Ha wa (Value.int .i64 r)) := by
 unfold PF.impl_firstWith at hp
 have S0 := St.init hs
 refine calls_go (N := 8) (args := [v0, v1]) Tryz.func183 rfl rfl rfl ?_
 refine FW.seq (FW.region ?_)
 obtain ⟨b21, w22, run23, S24⟩ := S0.box (P := Tryz.prog) 25 [v1] (v := v1) p1.cells (ones_cons p1.one ones_nil)
 refine FL.v (E.box rfl run23) ?_
 obtain ⟨H25, S26, i27, at28⟩ := S24.sealBox (i := 0) (l' := []) rfl rfl
 refine FL.v (E.assign (v := Value.int .i64 0) rfl) ?_
 refine FL.nil (FW.seq (FW.region ?_))
 refine FL.v (E.move (v := v0) rfl) ?_
 refine FL.v (E.makeFunc A0 (A1 rfl)) ?_
 obtain ⟨r29, hr30, hp⟩ := bnd hp
 refine FL.call rfl rfl rfl (E.call Tryz.call263 (A2 rfl rfl)) (w_slices_IndexFunc_impl_ResStep_impl_ResStep S26.sl v0 a0 (p0.mono i27) (Value.func (.func 264) #[] #[Value.pointer (some ⟨b21, 0, none⟩)]) (fun x0 => PF.impl_firstWith_1 x0 a1) (fun H2 w2 hi2 hs2 x0 y0_0 z0_0 r hr => ⟨264, #[Value.pointer (some ⟨b21, 0, none⟩)], rfl, Tryz.call264, w_impl_firstWith_1 hs2 x0 y0_0 z0_0 ⟨b21, 0, none⟩ a1 v1 ((p1.mono i27).mono hi2) (at28.mono hi2) hr⟩) hr30) ?_
 rintro e w31 ⟨rfl, r32⟩
 refine ⟨_, rfl, ?_⟩
 have S33 := S26.call r32
 refine FL.v (E.assign (v := Value.int .i64 r29) rfl) ?_
 refine FL.nil ?_
 refine FW.ret ?_
 obtain rfl := Option.some.inj hp
 exact ⟨.inr rfl, res1 rfl rfl ⟨rfl, S33.back⟩⟩

@[reducible] def p_impl_closure_derive (Ha : GH) (wa : World) (r : ((List ResStep) × Bool)) : Ending → World → Prop :=
 fun e w' => ∃ H' : GH, ∃ v0 : Value, ∃ n0 : Nat, ∃ c0 : List Value, e = .returned (Value.tuple #[v0, Value.bool r.2]) ∧ St Ha wa H' w' [.row 98 4 v0 n0 c0] ∧ Els (up wa.heap.size H') eResStep 4 c0 r.1 ∧ (bl c0).Nodup
set_option maxHeartbeats 4000000 in
theorem w_impl_closure_derive {Ha : GH} {wa : World} (hs : Sl Ha wa) (q0P : Addr) (a0 : closure) (v0P_0 : Value) (v0P_1 : Value) (p0P_0 : RSl Ha (eN .u16) 1 v0P_0 a0.masks) (p0P_1 : MAt (K := Int) (V := Int) Ha (Value.int .u16) (Value.int .i64) v0P_1 a0.rounds) (c0P : CAt Ha q0P [v0P_0, v0P_1, Value.int .i64 a0.last]) (a1 : Cnf) (v1_1 : Value) (p1_1 : RSl Ha (eL eI 1) 1 v1_1 a1.clauses) (v2 : Value) (a2 : List Int) (p2 : RSl Ha eI 1 v2 a2) {r : ((List ResStep) × Bool)} (hp : (PF.impl_closure_derive a0 a1 a2) = some r) :
  Calls Tryz.prog 87 #[Value.pointer (some q0P), Value.agg #[Value.int .i64 a1.vars, v1_1], v2] wa (p_impl_closure_derive Ha wa r) := by
 unfold PF.impl_closure_derive at hp
 have S0 := St.init hs
 refine calls_go (N := 60) (args := [Value.pointer (some q0P), Value.agg #[Value.int .i64 a1.vars, v1_1], v2]) Tryz.func87 rfl rfl rfl ?_
 refine FW.seq (FW.region ?_)
 obtain ⟨b21, w22, run23, S24⟩ := S0.box (P := Tryz.prog) 92 [Value.pointer (some q0P)] (v := Value.pointer (some q0P)) rfl (ones_cons rfl ones_nil)
 refine FL.v (E.box rfl run23) ?_
 obtain ⟨H25, S26, i27, at28⟩ := S24.sealBox (i := 0) (l' := []) rfl rfl
 obtain ⟨b29, w30, run31, S32⟩ := S26.box (P := Tryz.prog) 30 [Value.int .i64 a1.vars, v1_1] (v := Value.agg #[Value.int .i64 a1.vars, v1_1]) rfl (ones_cons rfl (ones_cons p1_1.one ones_nil))
 refine FL.v (E.box rfl run31) ?_
 obtain ⟨H33, S34, i35, at36⟩ := S32.sealBox (i := 0) (l' := []) rfl rfl
 refine FL.v (E.assign (v := Value.slice none 0 0) rfl) ?_
 refine FL.v (E.assign (v := Value.bool false) rfl) ?_
 refine FL.nil (FW.seq (FW.region ?_))
 refine FL.v (E.load rfl (run_load0 Tryz.isAgg92 ((at28.mono i35).now S34.sl) rfl)) ?_
 refine FL.v (E.move (v := v2) rfl) ?_
 obtain ⟨r37, hr38, hp⟩ := bnd hp
 refine FL.call rfl rfl rfl (E.call Tryz.call178 (A2 rfl rfl)) (w_impl_closure_needs S34.sl q0P a0 v0P_0 v0P_1 (p0P_0.mono (i27.tr i35)) (p0P_1.mono (i27.tr i35)) (c0P.mono (i27.tr i35)) v2 a2 (p2.mono (i27.tr i35)) hr38) ?_
 rintro e w40 ⟨H39, v43, n44, cs45, rfl, r42, els46⟩
 refine ⟨_, rfl, ?_⟩
 have S41 := S34.join (l' := [.row 182 4 v43 n44 cs45]) r42 rfl
 refine FL.v (E.assign (v := v43) rfl) ?_
 refine FL.nil (FW.seq (FW.seq (FW.region ?_)))
 refine FL.v (E.move (v := v43) rfl) ?_
 refine FL.v (E.lenO te178 rfl S41 (i := 0) rfl els46 (by decide)) ?_
 refine FL.v (E.gtr rfl rfl) ?_
 refine FL.nil ?_
 rcases ifB hp with ⟨c47, hp⟩ | ⟨c47, hp⟩
 ·
  refine FW.condT rfl c47 ?_
  refine FW.seq (FW.region ?_)
  refine FL.v (E.assign (v := Value.slice none 0 0) rfl) ?_
  refine FL.v (E.assign (v := Value.bool false) rfl) ?_
  refine FL.nil ?_
  refine FW.ret ?_
  obtain rfl := Option.some.inj hp
  exact ⟨.inr rfl, res2 rfl rfl rfl ⟨_, _, _, _, rfl, ((S41.nil 98 4).sel [0] (by decide) rfl), Els.nil, List.nodup_nil⟩⟩
 ·
  refine FW.condF rfl c47 ?_
  refine FW.skip (FW.seq (FW.region ?_))
  refine FL.v (E.move (v := v43) rfl) ?_
  refine FL.v (E.makeFunc A0 (A1 rfl)) ?_
  obtain ⟨r48, hr49, hp⟩ := bnd hp
  refine FL.call rfl rfl rfl (E.call Tryz.call179 (A2 rfl rfl)) (w_slices_SortFunc_impl_sourced_impl_sourced (L := []) S41 r37 els46 (Value.func (.func 180) #[] #[Value.pointer (some ⟨b21, 0, none⟩)]) (fun x0 x1 => PF.impl_closure_derive_1 x0 x1 a0) (fun H2 w2 hi2 hs2 x0 y0_0 z0_0 y0_1 z0_1 y0_2 z0_2 x1 y1_0 z1_0 y1_1 z1_1 y1_2 z1_2 r hr => ⟨180, #[Value.pointer (some ⟨b21, 0, none⟩)], rfl, Tryz.call180, w_impl_closure_derive_1 hs2 x0 y0_0 z0_0 y0_1 z0_1 y0_2 z0_2 x1 y1_0 z1_0 y1_1 z1_1 y1_2 z1_2 ⟨b21, 0, none⟩ a0 q0P v0P_0 v0P_1 ((p0P_0.mono ((i27.tr i35).tr r42.run.inc)).mono hi2) ((p0P_1.mono ((i27.tr i35).tr r42.run.inc)).mono hi2) ((c0P.mono ((i27.tr i35).tr r42.run.inc)).mono hi2) ((at28.mono (i35.tr r42.run.inc)).mono hi2) hr⟩) hr49) ?_
  rintro e w51 ⟨H50, cs54, rfl, ⟨S52, i53⟩, els55⟩
  refine ⟨_, rfl, ?_⟩
  have S52 : St Ha wa H50 w51 [.row 182 4 v43 n44 cs54] := S52
  refine FL.nil (FW.seq (FW.region ?_))
  refine FL.v (E.assign (v := Value.slice none 0 0) rfl) ?_
  refine FL.nil (FW.seq (FW.seq (FW.region ?_)))
  refine FL.v (E.move (v := v43) rfl) ?_
  refine FL.v (E.lenO te178 rfl S52 (i := 0) rfl els55 (by decide)) ?_
  refine FL.v (E.move (v := Value.int .i64 0) rfl) ?_
  refine FL.nil ?_
  obtain ⟨m56, hchk57, hp⟩ := bnd hp
  obtain ⟨q57, hq, hp⟩ := bndR hp
  refine FW.block ?_
  refine FW.mono (FW.forR (S := (List ResStep)) (X := Empty) (fun (i57 : Nat) (s57 : (List ResStep)) f w => ∃ H : GH, ∃ v58 : Value, ∃ n59 : Nat, ∃ cs60 : List Value, St Ha wa H w [.row 182 4 v43 n44 cs54, .row 98 4 v58 n59 cs60] ∧ Inc H50 H ∧ Els (up wa.heap.size H) eResStep 4 cs60 s57 ∧ (bl cs60).Nodup ∧ f 24 = Value.int .i64 ((i57 : Nat) : Int) ∧ f 4 = Value.pointer (some ⟨b29, 0, none⟩) ∧ f 9 = v58 ∧ f 22 = v43 ∧ f 23 = Value.int .i64 (len r48)) (fun (q : Rs (List ResStep) Empty) e f w => match q with | .go s57 => e = Exit.exit 0 ∧ (∃ H : GH, ∃ v58 : Value, ∃ n59 : Nat, ∃ cs60 : List Value, St Ha wa H w [.row 182 4 v43 n44 cs54, .row 98 4 v58 n59 cs60] ∧ Inc H50 H ∧ Els (up wa.heap.size H) eResStep 4 cs60 s57 ∧ (bl cs60).Nodup ∧ f 9 = v58) | .rt x => x.elim) hq ⟨_, _, _, _, ((S52.nil 98 4).sel [1, 0] (by decide) rfl), (Inc.rfl _), Els.nil, List.nodup_nil, rfl, rfl, rfl, rfl, rfl⟩ ?_ ?_) ?_
  ·
   clear hp hq
   rintro i57 s57 f205 w204 ⟨H201, v58, n59, cs60, S202, i203, els61, nd62, k206, k207, k208, k209, k210⟩ hi57 hj57 o339 hp
   refine FW.seq (FW.region ?_)
   refine FL.v (E.lssT k206 k210 (lss_chk hj57 hchk57)) ?_
   refine FL.nil (FW.seq ?_)
   refine FW.condT rfl rfl ?_
   refine FW.skip (FW.seq (FW.block (FW.seq (FW.region ?_))))
   obtain ⟨x217, hx218, hp⟩ := bnd hp
   obtain ⟨p211, cs212, pt213, l214, at215, rel216⟩ := S202.row_at (i := 0) rfl els55 (by decide) hx218
   obtain ⟨v219, v221, v223, rfl, h220, h222, h224⟩ := esourced_open rel216
   refine FL.v (E.indexAddr te178 k209 k206 pt213) ?_
   refine FL.v (E.load rfl (run_loadA Tryz.isAgg182 Tryz.sizeOf182 at215 rfl)) ?_
   obtain ⟨b225, w226, run227, S228⟩ := S202.alloc (P := Tryz.prog) 182 [Value.slice none 0 0, Value.slice none 0 0, Value.slice none 0 0, Value.int .i64 0] Tryz.zeroValue182 rfl (ones_cons rfl (ones_cons rfl (ones_cons rfl (ones_cons rfl ones_nil))))
   refine FL.v (E.alloc run227) ?_
   obtain ⟨w229, run230, S231⟩ := S228.store0 (P := Tryz.prog) (t := 182) (i := 0) (cs' := [v219, v221, v223, Value.int .i64 x217.v]) (l' := [.box b225 182 [v219, v221, v223, Value.int .i64 x217.v], .row 182 4 v43 n44 cs54, .row 98 4 v58 n59 cs60]) (v := Value.agg #[v219, v221, v223, Value.int .i64 x217.v]) (c := [v219, v221, v223, Value.int .i64 x217.v]) rfl Tryz.sizeOf182 rfl rfl (ones_cons h220.one (ones_cons h222.one (ones_cons h224.one (ones_cons rfl ones_nil)))) (Nat.le_of_ble_eq_true rfl) rfl rfl
   refine FL.act rfl rfl (E.store rfl rfl run230) ?_
   obtain ⟨H232, S233, i234, at235⟩ := S231.sealBox (i := 0) (l' := [.row 182 4 v43 n44 cs54, .row 98 4 v58 n59 cs60]) rfl rfl
   refine FL.nil (FW.seq (FW.region ?_))
   refine FL.v (E.fieldAddr tf182_0 rfl) ?_
   refine FL.v (E.load rfl (run_load1 Tryz.isAgg25 (at235.now S233.sl) rfl)) ?_
   obtain ⟨r236, hr237, hp⟩ := bnd hp
   refine FL.call rfl rfl rfl (E.call Tryz.call181 (A1 rfl)) (w_slices_Clone_int_int S233.sl v219 x217.clause (h220.mono (i203.tr i234)) hr237) ?_
   rintro e w239 ⟨H238, v242, n243, cs244, rfl, r241, els245⟩
   refine ⟨_, rfl, ?_⟩
   have els245 := els245.mono (up_le S233.size)
   have S240 := S233.join (l' := [.row 3 1 v242 n243 cs244, .row 182 4 v43 n44 cs54, .row 98 4 v58 n59 cs60]) r241 rfl
   refine FL.v (E.build (B2 rfl rfl) (run_build _ 98 #[(0, v242), (1, Value.int .i64 (-1))] #[v242, Value.int .i64 (-1), Value.int .i64 0, Value.int .i64 0] (by obtain ⟨_, _, rfl⟩ := S240.row_ln (i := 0) rfl; rfl))) ?_
   obtain ⟨b246, w247, run248, S249⟩ := S240.alloc (P := Tryz.prog) 98 [Value.slice none 0 0, Value.int .i64 0, Value.int .i64 0, Value.int .i64 0] Tryz.zeroValue98 rfl (ones_cons rfl (ones_cons rfl (ones_cons rfl (ones_cons rfl ones_nil))))
   refine FL.v (E.alloc run248) ?_
   obtain ⟨w250, run251, S252⟩ := S249.store0 (P := Tryz.prog) (t := 98) (i := 0) (cs' := [v242, Value.int .i64 (-1), Value.int .i64 0, Value.int .i64 0]) (l' := [.box b246 98 [v242, Value.int .i64 (-1), Value.int .i64 0, Value.int .i64 0], .row 3 1 v242 n243 cs244, .row 182 4 v43 n44 cs54, .row 98 4 v58 n59 cs60]) (v := Value.agg #[v242, Value.int .i64 (-1), Value.int .i64 0, Value.int .i64 0]) (c := [v242, Value.int .i64 (-1), Value.int .i64 0, Value.int .i64 0]) rfl Tryz.sizeOf98 rfl rfl (ones_cons (Ln.one (S249.row_ln (i := 1) rfl)) (ones_cons rfl (ones_cons rfl (ones_cons rfl ones_nil)))) (Nat.le_of_ble_eq_true rfl) rfl rfl
   refine FL.act rfl rfl (E.store rfl rfl run251) ?_
   refine FL.nil (FW.seq (FW.seq (FW.region ?_)))
   refine FL.v (E.fieldAddr tf182_3 rfl) ?_
   refine FL.v (E.load rfl (run_load1 Tryz.isAgg3 ((at235.mono r241.run.inc).now S252.sl) rfl)) ?_
   refine FL.v (E.eql rfl rfl) ?_
   refine FL.nil ?_
   rcases ifB hp with ⟨c253, hp⟩ | ⟨c253, hp⟩
   ·
    refine FW.condT rfl c253 ?_
    refine FW.region ?_
    refine FL.v (E.fieldAddr tf30_1 k207) ?_
    refine FL.v (E.load rfl (run_load1 Tryz.isAgg22 ((at36.mono ((((r42.run.inc.tr i53).tr i203).tr i234).tr r241.run.inc)).now S252.sl) rfl)) ?_
    refine FL.v (E.fieldAddr tf182_0 rfl) ?_
    refine FL.v (E.load rfl (run_load1 Tryz.isAgg25 ((at235.mono r241.run.inc).now S252.sl) rfl)) ?_
    obtain ⟨r254, hr255, hp⟩ := bnd hp
    refine FL.call rfl rfl rfl (E.call Tryz.call182 (A2 rfl rfl)) (w_impl_indexOf S252.sl v1_1 a1.clauses (p1_1.mono ((((((i27.tr i35).tr r42.run.inc).tr i53).tr i203).tr i234).tr r241.run.inc)) v219 x217.clause (h220.mono ((i203.tr i234).tr r241.run.inc)) hr255) ?_
    rintro e w256 ⟨rfl, r257⟩
    refine ⟨_, rfl, ?_⟩
    have S258 := S252.call r257
    refine FL.v (E.fieldAddr tf98_2 rfl) ?_
    obtain ⟨w259, run260, S261⟩ := S258.store (P := Tryz.prog) (t := 3) (i := 0) (j := 2) (cs' := [v242, Value.int .i64 (-1), Value.int .i64 r254, Value.int .i64 0]) (l' := [.box b246 98 [v242, Value.int .i64 (-1), Value.int .i64 r254, Value.int .i64 0], .row 3 1 v242 n243 cs244, .row 182 4 v43 n44 cs54, .row 98 4 v58 n59 cs60]) (v := Value.int .i64 r254) (c := [Value.int .i64 r254]) rfl Tryz.sizeOf3 rfl rfl (ones_cons rfl ones_nil) (Nat.le_of_ble_eq_true rfl) rfl rfl
    refine FL.act rfl rfl (E.store rfl rfl run260) ?_
    refine FL.nil (FW.region ?_)
    refine FL.v (E.move k208) ?_
    refine FL.v (E.load rfl (run_loadA Tryz.isAgg98 Tryz.sizeOf98 (S261.box_now (i := 0) rfl) rfl)) ?_
    obtain ⟨H262, S263, i264, h265, nv266⟩ := S261.sealRowU (i := 1) (l' := [.box b246 98 [v242, Value.int .i64 (-1), Value.int .i64 r254, Value.int .i64 0], .row 182 4 v43 n44 cs54, .row 98 4 v58 n59 cs60]) rfl els245 (by decide) rfl
    obtain ⟨v267, w268, run269, S270⟩ := S263.buildSlice (P := Tryz.prog) te27 [Value.agg #[v242, Value.int .i64 (-1), Value.int .i64 r254, Value.int .i64 0]] (parts := #[(0, Value.agg #[v242, Value.int .i64 (-1), Value.int .i64 r254, Value.int .i64 0])]) (cells := [v242, Value.int .i64 (-1), Value.int .i64 r254, Value.int .i64 0]) rfl (szs_cons rfl szs_nil) (fc_cons rfl fc_nil) (ones_cons h265.one (ones_cons rfl (ones_cons rfl (ones_cons rfl ones_nil)))) (Nat.le_of_ble_eq_true rfl)
    have els271 : Els (up wa.heap.size H262) eResStep 4 [v242, Value.int .i64 (-1), Value.int .i64 r254, Value.int .i64 0] [(ResStep.mk r236 (-1) r254 0)] := (Els.snoc (H := (up wa.heap.size H262)) (E := eResStep) (k := 4) (c := [v242, Value.int .i64 (-1), Value.int .i64 r254, Value.int .i64 0]) (x := (ResStep.mk r236 (-1) r254 0)) Els.nil rfl ⟨_, rfl, h265⟩)
    have nd272 : (bl [v242, Value.int .i64 (-1), Value.int .i64 r254, Value.int .i64 0]).Nodup := by exact nd_one v242
    refine FL.v (E.buildSlice (B1 rfl) run269) ?_
    obtain ⟨xs273, hz274, hp⟩ := bnd hp
    obtain ⟨v275, w278, n276, cs277, run279, S280, els281, ce282⟩ := S270.appendO (P := Tryz.prog) te27 (i := 3) (j := 0) rfl (els61.mono (up_mono ((i234.tr r241.run.inc).tr i264))) rfl els271 hz274
    have S280 : St Ha wa H262 w278 [.row 98 4 v267 1 [v242, Value.int .i64 (-1), Value.int .i64 r254, Value.int .i64 0], .box b246 98 [v242, Value.int .i64 (-1), Value.int .i64 r254, Value.int .i64 0], .row 182 4 v43 n44 cs54, .row 98 4 v275 n276 cs277] := S280
    have nd283 : (bl cs277).Nodup := by rw [ce282]; exact nd_app nd62 nd272 (Els.dom (els61.mono (upI.tr (i234.tr r241.run.inc)))) (by exact nv266)
    have S284 : St Ha wa H262 w278 [.box b246 98 [v242, Value.int .i64 (-1), Value.int .i64 r254, Value.int .i64 0], .row 182 4 v43 n44 cs54, .row 98 4 v275 n276 cs277] := S280.drop 0
    refine FL.v (E.append rfl rfl run279) ?_
    refine FL.v (E.assign (v := v275) rfl) ?_
    refine FL.nil (FW.region ?_)
    refine FL.v (E.add k206 rfl) ?_
    refine FL.v (E.move (v := Value.int .i64 (wr (((i57 : Nat) : Int) + 1))) rfl) ?_
    refine FL.nil ?_
    obtain rfl := Option.some.inj hp
    exact ⟨rfl, ⟨_, _, _, _, (S284.sel [1, 2] (by decide) rfl), (((i203.tr i234).tr r241.run.inc).tr i264), els281, nd283, (nat_succ rfl hj57 (chk_le hchk57)), k207, rfl, k209, k210⟩⟩
   ·
    refine FW.condF rfl c253 ?_
    refine FW.seq (FW.region ?_)
    refine FL.v (E.move k208) ?_
    refine FL.v (E.fieldAddr tf182_1 rfl) ?_
    refine FL.v (E.load rfl (run_load1 Tryz.isAgg25 ((at235.mono r241.run.inc).now S252.sl) rfl)) ?_
    obtain ⟨H285, S286, i287, ns290, nv289⟩ := S252.sealRowN (i := 3) (l' := [.box b246 98 [v242, Value.int .i64 (-1), Value.int .i64 0, Value.int .i64 0], .row 3 1 v242 n243 cs244, .row 182 4 v43 n44 cs54]) rfl (els61.mono (up_mono (i234.tr r241.run.inc))) nd62 (by decide) rfl
    have h288 := ns290.rsl
    obtain ⟨r291, hr292, hp⟩ := bnd hp
    refine FL.call rfl rfl rfl (E.call Tryz.call183 (A2 rfl rfl)) (w_impl_firstWith S286.sl v58 s57 (h288.mono upI) v221 x217.a (h222.mono (((i203.tr i234).tr r241.run.inc).tr i287)) hr292) ?_
    rintro e w293 ⟨rfl, r294⟩
    refine ⟨_, rfl, ?_⟩
    have r294 := Run.lend i287 S252.sl r294
    have S295 := S252.call r294
    refine FL.v (E.fieldAddr tf98_1 rfl) ?_
    obtain ⟨w296, run297, S298⟩ := S295.store (P := Tryz.prog) (t := 3) (i := 0) (j := 1) (cs' := [v242, Value.int .i64 r291, Value.int .i64 0, Value.int .i64 0]) (l' := [.box b246 98 [v242, Value.int .i64 r291, Value.int .i64 0, Value.int .i64 0], .row 3 1 v242 n243 cs244, .row 182 4 v43 n44 cs54, .row 98 4 v58 n59 cs60]) (v := Value.int .i64 r291) (c := [Value.int .i64 r291]) rfl Tryz.sizeOf3 rfl rfl (ones_cons rfl ones_nil) (Nat.le_of_ble_eq_true rfl) rfl rfl
    refine FL.act rfl rfl (E.store rfl rfl run297) ?_
    refine FL.nil (FW.seq (FW.region ?_))
    refine FL.v (E.move k208) ?_
    refine FL.v (E.fieldAddr tf182_2 rfl) ?_
    refine FL.v (E.load rfl (run_load1 Tryz.isAgg25 ((at235.mono r241.run.inc).now S298.sl) rfl)) ?_
    obtain ⟨H299, S300, i301, ns304, nv303⟩ := S298.sealRowN (i := 3) (l' := [.box b246 98 [v242, Value.int .i64 r291, Value.int .i64 0, Value.int .i64 0], .row 3 1 v242 n243 cs244, .row 182 4 v43 n44 cs54]) rfl (els61.mono (up_mono (i234.tr r241.run.inc))) nd62 (by decide) rfl
    have h302 := ns304.rsl
    obtain ⟨r305, hr306, hp⟩ := bnd hp
    refine FL.call rfl rfl rfl (E.call Tryz.call183 (A2 rfl rfl)) (w_impl_firstWith S300.sl v58 s57 (h302.mono upI) v223 x217.b (h224.mono (((i203.tr i234).tr r241.run.inc).tr i301)) hr306) ?_
    rintro e w307 ⟨rfl, r308⟩
    refine ⟨_, rfl, ?_⟩
    have r308 := Run.lend i301 S298.sl r308
    have S309 := S298.call r308
    refine FL.v (E.fieldAddr tf98_2 rfl) ?_
    obtain ⟨w310, run311, S312⟩ := S309.store (P := Tryz.prog) (t := 3) (i := 0) (j := 2) (cs' := [v242, Value.int .i64 r291, Value.int .i64 r305, Value.int .i64 0]) (l' := [.box b246 98 [v242, Value.int .i64 r291, Value.int .i64 r305, Value.int .i64 0], .row 3 1 v242 n243 cs244, .row 182 4 v43 n44 cs54, .row 98 4 v58 n59 cs60]) (v := Value.int .i64 r305) (c := [Value.int .i64 r305]) rfl Tryz.sizeOf3 rfl rfl (ones_cons rfl ones_nil) (Nat.le_of_ble_eq_true rfl) rfl rfl
    refine FL.act rfl rfl (E.store rfl rfl run311) ?_
    refine FL.nil (FW.region ?_)
    refine FL.v (E.fieldAddr tf182_3 rfl) ?_
    refine FL.v (E.load rfl (run_load1 Tryz.isAgg3 ((at235.mono r241.run.inc).now S312.sl) rfl)) ?_
    refine FL.v (E.fieldAddr tf98_3 rfl) ?_
    obtain ⟨w313, run314, S315⟩ := S312.store (P := Tryz.prog) (t := 3) (i := 0) (j := 3) (cs' := [v242, Value.int .i64 r291, Value.int .i64 r305, Value.int .i64 x217.v]) (l' := [.box b246 98 [v242, Value.int .i64 r291, Value.int .i64 r305, Value.int .i64 x217.v], .row 3 1 v242 n243 cs244, .row 182 4 v43 n44 cs54, .row 98 4 v58 n59 cs60]) (v := Value.int .i64 x217.v) (c := [Value.int .i64 x217.v]) rfl Tryz.sizeOf3 rfl rfl (ones_cons rfl ones_nil) (Nat.le_of_ble_eq_true rfl) rfl rfl
    refine FL.act rfl rfl (E.store rfl rfl run314) ?_
    refine FL.nil (FW.region ?_)
    refine FL.v (E.move k208) ?_
    refine FL.v (E.load rfl (run_loadA Tryz.isAgg98 Tryz.sizeOf98 (S315.box_now (i := 0) rfl) rfl)) ?_
    obtain ⟨H316, S317, i318, h319, nv320⟩ := S315.sealRowU (i := 1) (l' := [.box b246 98 [v242, Value.int .i64 r291, Value.int .i64 r305, Value.int .i64 x217.v], .row 182 4 v43 n44 cs54, .row 98 4 v58 n59 cs60]) rfl els245 (by decide) rfl
    obtain ⟨v321, w322, run323, S324⟩ := S317.buildSlice (P := Tryz.prog) te27 [Value.agg #[v242, Value.int .i64 r291, Value.int .i64 r305, Value.int .i64 x217.v]] (parts := #[(0, Value.agg #[v242, Value.int .i64 r291, Value.int .i64 r305, Value.int .i64 x217.v])]) (cells := [v242, Value.int .i64 r291, Value.int .i64 r305, Value.int .i64 x217.v]) rfl (szs_cons rfl szs_nil) (fc_cons rfl fc_nil) (ones_cons h319.one (ones_cons rfl (ones_cons rfl (ones_cons rfl ones_nil)))) (Nat.le_of_ble_eq_true rfl)
    have els325 : Els (up wa.heap.size H316) eResStep 4 [v242, Value.int .i64 r291, Value.int .i64 r305, Value.int .i64 x217.v] [(ResStep.mk r236 r291 r305 x217.v)] := (Els.snoc (H := (up wa.heap.size H316)) (E := eResStep) (k := 4) (c := [v242, Value.int .i64 r291, Value.int .i64 r305, Value.int .i64 x217.v]) (x := (ResStep.mk r236 r291 r305 x217.v)) Els.nil rfl ⟨_, rfl, h319⟩)
    have nd326 : (bl [v242, Value.int .i64 r291, Value.int .i64 r305, Value.int .i64 x217.v]).Nodup := by exact nd_one v242
    refine FL.v (E.buildSlice (B1 rfl) run323) ?_
    obtain ⟨xs327, hz328, hp⟩ := bnd hp
    obtain ⟨v329, w332, n330, cs331, run333, S334, els335, ce336⟩ := S324.appendO (P := Tryz.prog) te27 (i := 3) (j := 0) rfl (els61.mono (up_mono ((i234.tr r241.run.inc).tr i318))) rfl els325 hz328
    have S334 : St Ha wa H316 w332 [.row 98 4 v321 1 [v242, Value.int .i64 r291, Value.int .i64 r305, Value.int .i64 x217.v], .box b246 98 [v242, Value.int .i64 r291, Value.int .i64 r305, Value.int .i64 x217.v], .row 182 4 v43 n44 cs54, .row 98 4 v329 n330 cs331] := S334
    have nd337 : (bl cs331).Nodup := by rw [ce336]; exact nd_app nd62 nd326 (Els.dom (els61.mono (upI.tr (i234.tr r241.run.inc)))) (by exact nv320)
    have S338 : St Ha wa H316 w332 [.box b246 98 [v242, Value.int .i64 r291, Value.int .i64 r305, Value.int .i64 x217.v], .row 182 4 v43 n44 cs54, .row 98 4 v329 n330 cs331] := S334.drop 0
    refine FL.v (E.append rfl rfl run333) ?_
    refine FL.v (E.assign (v := v329) rfl) ?_
    refine FL.nil (FW.region ?_)
    refine FL.v (E.add k206 rfl) ?_
    refine FL.v (E.move (v := Value.int .i64 (wr (((i57 : Nat) : Int) + 1))) rfl) ?_
    refine FL.nil ?_
    obtain rfl := Option.some.inj hp
    exact ⟨rfl, ⟨_, _, _, _, (S338.sel [1, 2] (by decide) rfl), (((i203.tr i234).tr r241.run.inc).tr i318), els335, nd337, (nat_succ rfl hj57 (chk_le hchk57)), k207, rfl, k209, k210⟩⟩
  ·
   clear hp hq
   rintro s57 f350 w349 ⟨H346, v58, n59, cs60, S347, i348, els61, nd62, k351, k352, k353, k354, k355⟩
   refine FW.seq (FW.region ?_)
   refine FL.v (E.lss k351 k355) ?_
   refine FL.nil (FW.seq ?_)
   refine FW.condF rfl (dlt_maxchk hchk57) ?_
   refine FW.exit ?_
   exact ⟨nofun, rfl, ⟨_, _, _, _, S347, i348, els61, nd62, k353⟩⟩
  ·
   clear hq
   intro e f344 w343 hD
   rcases q57 with s57 | x57
   ·
    obtain ⟨rfl, hD⟩ := hD
    obtain ⟨H340, v58, n59, cs60, S341, i342, els61, nd62, k345⟩ := hD
    replace hp := el_go hp
    refine FW.seq (FW.region ?_)
    refine FL.v (E.move k345) ?_
    refine FL.v (E.assign (v := v58) rfl) ?_
    refine FL.v (E.assign (v := Value.bool true) rfl) ?_
    refine FL.nil ?_
    refine FW.ret ?_
    obtain rfl := Option.some.inj hp
    exact ⟨.inr rfl, res2 rfl rfl rfl ⟨_, _, _, _, rfl, (S341.sel [1] (by decide) rfl), els61, nd62⟩⟩
   ·
    exact x57.elim

@[reducible] def p_impl_NarrowDerivation (Ha : GH) (wa : World) (r : ((List ResStep) × Bool)) : Ending → World → Prop :=
 fun e w' => ∃ H' : GH, ∃ v0 : Value, ∃ n0 : Nat, ∃ c0 : List Value, e = .returned (Value.tuple #[v0, Value.bool r.2]) ∧ St Ha wa H' w' [.row 98 4 v0 n0 c0] ∧ Els (up wa.heap.size H') eResStep 4 c0 r.1 ∧ (bl c0).Nodup
set_option maxHeartbeats 4000000 in
theorem w_impl_NarrowDerivation {Ha : GH} {wa : World} (hs : Sl Ha wa) (a0 : Cnf) (v0_1 : Value) (p0_1 : RSl Ha (eL eI 1) 1 v0_1 a0.clauses) (a1 : Int) (v2 : Value) (a2 : List Int) (p2 : RSl Ha eI 1 v2 a2) {r : ((List ResStep) × Bool)} (hp : (PF.impl_NarrowDerivation a0 a1 a2) = some r) :
  Calls Tryz.prog 15 #[Value.agg #[Value.int .i64 a0.vars, v0_1], Value.int .i64 a1, v2] wa (p_impl_NarrowDerivation Ha wa r) := by
 unfold PF.impl_NarrowDerivation at hp
 have S0 := St.init hs
 refine calls_go (N := 33) (args := [Value.agg #[Value.int .i64 a0.vars, v0_1], Value.int .i64 a1, v2]) Tryz.func15 rfl rfl rfl ?_
 refine FW.seq (FW.region ?_)
 obtain ⟨b21, w22, run23, S24⟩ := S0.box (P := Tryz.prog) 30 [Value.int .i64 a0.vars, v0_1] (v := Value.agg #[Value.int .i64 a0.vars, v0_1]) rfl (ones_cons rfl (ones_cons p0_1.one ones_nil))
 refine FL.v (E.box rfl run23) ?_
 obtain ⟨H25, S26, i27, at28⟩ := S24.sealBox (i := 0) (l' := []) rfl rfl
 refine FL.v (E.assign (v := Value.slice none 0 0) rfl) ?_
 refine FL.v (E.assign (v := Value.bool false) rfl) ?_
 refine FL.nil (FW.seq (FW.seq (FW.region ?_)))
 refine FL.v (E.load rfl (run_loadA Tryz.isAgg30 Tryz.sizeOf30 (at28.now S26.sl) rfl)) ?_
 refine FL.v (E.move (v := Value.int .i64 a1) rfl) ?_
 obtain ⟨r29, hr30, hp⟩ := bnd hp
 refine FL.call rfl rfl rfl (E.call Tryz.call83 (A2 rfl rfl)) (w_impl_narrowOk S26.sl a0 v0_1 (p0_1.mono i27) a1 hr30) ?_
 rintro e w31 ⟨rfl, r32⟩
 refine ⟨_, rfl, ?_⟩
 have S33 := S26.call r32
 refine FL.v (E.not rfl) ?_
 refine FL.v (E.move (v := Value.bool (!r29)) rfl) ?_
 obtain ⟨t39, hqt39, hp⟩ := bnd hp
 refine FL.cut 6 (fun f w => ∃ H : GH, St Ha wa H w [] ∧ Inc H25 H ∧ f 1 = Value.int .i64 a1 ∧ f 2 = v2 ∧ f 3 = Value.pointer (some ⟨b21, 0, none⟩) ∧ f 19 = Value.bool t39) ?_ ?_
 ·
  clear hp; have hp := hqt39; clear hqt39
  rcases ifB hp with ⟨c45, hp⟩ | ⟨c45, hp⟩
  ·
   refine FL.skip (wF_no rfl rfl rfl c45) rfl ?_
   refine FL.skip (wF_no rfl rfl rfl c45) rfl ?_
   refine FL.skip (wF_no rfl rfl rfl c45) rfl ?_
   refine FL.skip (wF_no rfl rfl rfl c45) rfl ?_
   refine FL.skip (wF_no rfl rfl rfl c45) rfl ?_
   obtain rfl := Option.some.inj hp
   refine FL.v (E.pickT rfl c45 rfl) ?_
   exact FL.nil ⟨rfl, _, S33, (Inc.rfl _), rfl, rfl, rfl, rfl⟩
  ·
   refine FL.val (wF_yes rfl rfl rfl c45) rfl rfl (E.fieldAddr tf30_0 rfl) ?_
   refine FL.val (wF_yes rfl rfl rfl c45) rfl rfl (E.load rfl (run_load1 Tryz.isAgg3 (at28.now S33.sl) rfl)) ?_
   refine FL.val (wF_yes rfl rfl rfl c45) rfl rfl (E.move (v := v2) rfl) ?_
   obtain ⟨r46, hr47, hp⟩ := bnd hp
   refine FL.call (wF_yes rfl rfl rfl c45) rfl rfl (E.call Tryz.call84 (A2 rfl rfl)) (w_impl_IsClause S33.sl a0.vars v2 a2 (p2.mono i27) hr47) ?_
   rintro e w48 ⟨rfl, r49⟩
   refine ⟨_, rfl, ?_⟩
   have S50 := S33.call r49
   refine FL.val (wF_yes rfl rfl rfl c45) rfl rfl (E.not rfl) ?_
   obtain rfl := Option.some.inj hp
   refine FL.v (E.pickF rfl c45 rfl) ?_
   exact FL.nil ⟨rfl, _, S50, (Inc.rfl _), rfl, rfl, rfl, rfl⟩
 rintro f44 w43 ⟨H40, S41, i42, k51, k52, k53, k54⟩
 refine FL.nil ?_
 rcases ifB hp with ⟨c55, hp⟩ | ⟨c55, hp⟩
 ·
  refine FW.condT k54 c55 ?_
  refine FW.seq (FW.region ?_)
  refine FL.v (E.assign (v := Value.slice none 0 0) rfl) ?_
  refine FL.v (E.assign (v := Value.bool false) rfl) ?_
  refine FL.nil ?_
  refine FW.ret ?_
  obtain rfl := Option.some.inj hp
  exact ⟨.inr rfl, res2 rfl rfl rfl ⟨_, _, _, _, rfl, (S41.nil 98 4), Els.nil, List.nodup_nil⟩⟩
 ·
  refine FW.condF k54 c55 ?_
  refine FW.skip (FW.seq (FW.region ?_))
  refine FL.v (E.load k53 (run_loadA Tryz.isAgg30 Tryz.sizeOf30 ((at28.mono i42).now S41.sl) rfl)) ?_
  refine FL.v (E.move k51) ?_
  obtain ⟨r56, hr57, hp⟩ := bnd hp
  refine FL.call rfl rfl rfl (E.call Tryz.call85 (A2 rfl rfl)) (w_impl_closureOf S41.sl a0 v0_1 (p0_1.mono (i27.tr i42)) a1 hr57) ?_
  rintro e w59 ⟨H58, v62, rfl, r61, h63⟩
  refine ⟨_, rfl, ?_⟩
  have S60 := S41.call r61
  refine FL.v (E.assign (v := v62) rfl) ?_
  refine FL.nil (FW.seq (FW.seq ?_))
  obtain ⟨y64, hy65, hp⟩ := bnd hp
  rw [hy65] at h63
  obtain ⟨q66, rfl, v67, v70, h68, h71, at72⟩ := h63
  have nv69 : New H40 [v67] := New.of_up S41.sl h68.dom
  have h68 := h68.mono (up_le S41.size)
  refine FW.region ?_
  refine FL.v (E.move (v := Value.pointer (some q66)) rfl) ?_
  refine FL.v (E.move k52) ?_
  obtain ⟨r73, hr74, hp⟩ := bnd hp
  refine FL.call rfl rfl rfl (E.call Tryz.call86 (A2 rfl rfl)) (w_impl_closure_round S60.sl q66 y64 v67 v70 (h68.mono upI) h71 at72 v2 a2 (p2.mono ((i27.tr i42).tr r61.inc)) hr74) ?_
  rintro e w75 ⟨rfl, r76⟩
  refine ⟨_, rfl, ?_⟩
  have S77 := S60.call r76
  refine FL.v (E.lss rfl rfl) ?_
  refine FL.nil ?_
  rcases ifB hp with ⟨c78, hp⟩ | ⟨c78, hp⟩
  ·
   refine FW.condT rfl c78 ?_
   refine FW.seq (FW.region ?_)
   refine FL.v (E.assign (v := Value.slice none 0 0) rfl) ?_
   refine FL.v (E.assign (v := Value.bool false) rfl) ?_
   refine FL.nil ?_
   refine FW.ret ?_
   obtain rfl := Option.some.inj hp
   exact ⟨.inr rfl, res2 rfl rfl rfl ⟨_, _, _, _, rfl, (S77.nil 98 4), Els.nil, List.nodup_nil⟩⟩
  ·
   refine FW.condF rfl c78 ?_
   refine FW.skip (FW.seq (FW.region ?_))
   refine FL.v (E.move (v := Value.pointer (some q66)) rfl) ?_
   refine FL.v (E.load k53 (run_loadA Tryz.isAgg30 Tryz.sizeOf30 ((at28.mono (i42.tr r61.inc)).now S77.sl) rfl)) ?_
   refine FL.v (E.move k52) ?_
   obtain ⟨r79, hr80, hp⟩ := bnd hp
   refine FL.call rfl rfl rfl (E.call Tryz.call87 (A3 rfl rfl rfl)) (w_impl_closure_derive S77.sl q66 y64 v67 v70 (h68.mono upI) h71 at72 a0 v0_1 (p0_1.mono ((i27.tr i42).tr r61.inc)) v2 a2 (p2.mono ((i27.tr i42).tr r61.inc)) hr80) ?_
   rintro e w82 ⟨H81, v85, n86, cs87, rfl, r84, els88, nd89⟩
   refine ⟨_, rfl, ?_⟩
   have nv90 : New H58 cs87 := New.of_up S77.sl els88.dom
   have els88 := els88.mono (up_le S77.size)
   have S83 := S77.join (l' := [.row 98 4 v85 n86 cs87]) r84 rfl
   refine FL.v (E.extract (i := 0) rfl rfl) ?_
   refine FL.v (E.extract (i := 1) rfl rfl) ?_
   refine FL.v (E.assign (v := v85) rfl) ?_
   refine FL.v (E.assign (v := Value.bool r79.2) rfl) ?_
   refine FL.nil ?_
   refine FW.ret ?_
   obtain rfl := Option.some.inj hp
   exact ⟨.inr rfl, res2 rfl rfl rfl ⟨_, _, _, _, rfl, S83, els88, nd89⟩⟩

@[reducible] def p_impl_NarrowRefutation (Ha : GH) (wa : World) (r : ((List ResStep) × Bool)) : Ending → World → Prop :=
 fun e w' => ∃ H' : GH, ∃ v0 : Value, ∃ n0 : Nat, ∃ c0 : List Value, e = .returned (Value.tuple #[v0, Value.bool r.2]) ∧ St Ha wa H' w' [.row 98 4 v0 n0 c0] ∧ Els (up wa.heap.size H') eResStep 4 c0 r.1 ∧ (bl c0).Nodup
theorem w_impl_NarrowRefutation {Ha : GH} {wa : World} (hs : Sl Ha wa) (a0 : Cnf) (v0_1 : Value) (p0_1 : RSl Ha (eL eI 1) 1 v0_1 a0.clauses) {r : ((List ResStep) × Bool)} (hp : (PF.impl_NarrowRefutation a0) = some r) :
  Calls Tryz.prog 24 #[Value.agg #[Value.int .i64 a0.vars, v0_1]] wa (p_impl_NarrowRefutation Ha wa r) := by
 unfold PF.impl_NarrowRefutation at hp
 have S0 := St.init hs
 refine calls_go (N := 18) (args := [Value.agg #[Value.int .i64 a0.vars, v0_1]]) Tryz.func24 rfl rfl rfl ?_
 refine FW.seq (FW.region ?_)
 obtain ⟨b21, w22, run23, S24⟩ := S0.box (P := Tryz.prog) 30 [Value.int .i64 a0.vars, v0_1] (v := Value.agg #[Value.int .i64 a0.vars, v0_1]) rfl (ones_cons rfl (ones_cons p0_1.one ones_nil))
 refine FL.v (E.box rfl run23) ?_
 obtain ⟨H25, S26, i27, at28⟩ := S24.sealBox (i := 0) (l' := []) rfl rfl
 refine FL.v (E.assign (v := Value.slice none 0 0) rfl) ?_
 refine FL.v (E.assign (v := Value.bool false) rfl) ?_
 refine FL.nil (FW.seq (FW.region ?_))
 refine FL.v (E.load rfl (run_loadA Tryz.isAgg30 Tryz.sizeOf30 (at28.now S26.sl) rfl)) ?_
 obtain ⟨r29, hr30, hp⟩ := bnd hp
 refine FL.call rfl rfl rfl (E.call Tryz.call75 (A1 rfl)) (w_impl_LeastWidth S26.sl a0 v0_1 (p0_1.mono i27) hr30) ?_
 rintro e w31 ⟨rfl, r32⟩
 refine ⟨_, rfl, ?_⟩
 have S33 := S26.call r32
 refine FL.v (E.move (v := Value.tuple #[Value.int .i64 r29.1, Value.bool r29.2]) rfl) ?_
 refine FL.v (E.extract (i := 0) rfl rfl) ?_
 refine FL.v (E.extract (i := 1) rfl rfl) ?_
 refine FL.v (E.assign (v := Value.int .i64 r29.1) rfl) ?_
 refine FL.v (E.assign (v := Value.bool r29.2) rfl) ?_
 refine FL.nil (FW.seq (FW.seq (FW.region ?_)))
 refine FL.v (E.move (v := Value.bool r29.2) rfl) ?_
 refine FL.v (E.not rfl) ?_
 refine FL.nil ?_
 rcases ifB hp with ⟨c34, hp⟩ | ⟨c34, hp⟩
 ·
  refine FW.condT rfl c34 ?_
  refine FW.seq (FW.region ?_)
  refine FL.v (E.assign (v := Value.slice none 0 0) rfl) ?_
  refine FL.v (E.assign (v := Value.bool false) rfl) ?_
  refine FL.nil ?_
  refine FW.ret ?_
  obtain rfl := Option.some.inj hp
  exact ⟨.inr rfl, res2 rfl rfl rfl ⟨_, _, _, _, rfl, (S33.nil 98 4), Els.nil, List.nodup_nil⟩⟩
 ·
  refine FW.condF rfl c34 ?_
  refine FW.skip (FW.seq (FW.region ?_))
  refine FL.v (E.load rfl (run_loadA Tryz.isAgg30 Tryz.sizeOf30 (at28.now S33.sl) rfl)) ?_
  refine FL.v (E.move (v := Value.int .i64 r29.1) rfl) ?_
  obtain ⟨r35, hr36, hp⟩ := bnd hp
  refine FL.call rfl rfl rfl (E.call Tryz.call15 (A3 rfl rfl rfl)) (w_impl_NarrowDerivation S33.sl a0 v0_1 (p0_1.mono i27) r29.1 _ [] (RSl.nil _ _ _) hr36) ?_
  rintro e w38 ⟨H37, v41, n42, cs43, rfl, r40, els44, nd45⟩
  refine ⟨_, rfl, ?_⟩
  have nv46 : New H25 cs43 := New.of_up S33.sl els44.dom
  have els44 := els44.mono (up_le S33.size)
  have S39 := S33.join (l' := [.row 98 4 v41 n42 cs43]) r40 rfl
  refine FL.v (E.extract (i := 0) rfl rfl) ?_
  refine FL.v (E.extract (i := 1) rfl rfl) ?_
  refine FL.v (E.assign (v := v41) rfl) ?_
  refine FL.v (E.assign (v := Value.bool r35.2) rfl) ?_
  refine FL.nil ?_
  refine FW.ret ?_
  obtain rfl := Option.some.inj hp
  exact ⟨.inr rfl, res2 rfl rfl rfl ⟨_, _, _, _, rfl, S39, els44, nd45⟩⟩

set_option maxHeartbeats 4000000 in
theorem w_laws_eqIntS {Ha : GH} {wa : World} (hs : Sl Ha wa) (v0 : Value) (a0 : List Int) (p0 : RSl Ha eI 1 v0 a0) (v1 : Value) (a1 : List Int) (p1 : RSl Ha eI 1 v1 a1) {r : Bool} (hp : (PF.laws_eqIntS a0 a1) = some r) :
  Calls Tryz.prog 18 #[v0, v1] wa (Sc Ha wa (Value.bool r)) := by
 unfold PF.laws_eqIntS at hp
 have S0 := St.init hs
 refine calls_go (N := 26) (args := [v0, v1]) Tryz.func18 rfl rfl rfl ?_
 refine FW.seq (FW.region ?_)
 refine FL.v (E.assign (v := Value.bool false) rfl) ?_
 refine FL.nil (FW.seq (FW.seq (FW.region ?_)))
 refine FL.v (E.move (v := v0) rfl) ?_
 refine FL.v (E.lenP te25 rfl p0) ?_
 refine FL.v (E.move (v := v1) rfl) ?_
 refine FL.v (E.lenP te25 rfl p1) ?_
 refine FL.v (E.neq rfl rfl) ?_
 refine FL.nil ?_
 rcases ifB hp with ⟨c21, hp⟩ | ⟨c21, hp⟩
 ·
  refine FW.condT rfl c21 ?_
  refine FW.seq (FW.region ?_)
  refine FL.v (E.assign (v := Value.bool false) rfl) ?_
  refine FL.nil ?_
  refine FW.ret ?_
  obtain rfl := Option.some.inj hp
  exact ⟨.inr rfl, res1 rfl rfl ⟨rfl, S0.back⟩⟩
 ·
  refine FW.condF rfl c21 ?_
  refine FW.skip (FW.seq (FW.seq (FW.region ?_)))
  refine FL.v (E.assign (v := Value.int .i64 0) rfl) ?_
  refine FL.nil ?_
  obtain ⟨q23, hq, hp⟩ := bndR hp
  refine FW.block ?_
  refine FW.mono (FW.forL (S := Unit) (X := Bool) (fun (i23 : Nat) (s23 : Unit) f w => ∃ H : GH, St Ha wa H w [] ∧ Inc Ha H ∧ f 5 = Value.int .i64 ((i23 : Nat) : Int) ∧ f 0 = v0 ∧ f 1 = v1) (fun q e f w => match q with | .go s23 => e = Exit.exit 0 ∧ (∃ H : GH, St Ha wa H w [] ∧ Inc Ha H) | .rt x => ((e = Exit.ret) ∧ (fun e f w => (e = Exit.normal ∨ e = Exit.ret) ∧ ∀ a, Fr (δ := []) 26 a f → ∃ v, (results Tryz.f18 a.tmps).run Tryz.prog w = .ok v w ∧ (Sc Ha wa (Value.bool x)) (.returned v) w) e f w)) hq ⟨_, S0, (Inc.rfl _), rfl, rfl, rfl⟩ ?_ ?_) ?_
  ·
   clear hp hq
   rintro i23 y22 s23 f55 w54 ⟨H51, S52, i53, k56, k57, k58⟩ hx23 o78 hp
   refine FW.seq (FW.seq (FW.region ?_))
   refine FL.v (E.move k56) ?_
   refine FL.v (E.move k57) ?_
   refine FL.v (E.lenP te25 rfl p0) ?_
   refine FL.v (E.lssT rfl rfl (lss_len hx23)) ?_
   refine FL.nil ?_
   refine FW.condT rfl rfl ?_
   refine FW.skip (FW.seq (FW.block (FW.seq ?_)))
   refine FW.draw (fun w' => Run w54.heap.size H51 w54 H51 w') (by kernel_rfl) (by kernel_rfl) (run_drew S52.sl) ?_
   refine FD.val rfl rfl rfl (fun w' hw' => (E.move k57)) ?_
   refine FD.val rfl rfl rfl (fun w' hw' => (E.move k56)) ?_
   obtain ⟨p60, cs61, pt62, l63, at64, rel65⟩ := p0.at (ix_nat hx23)
   obtain rfl := eI_open rel65
   refine FD.val rfl rfl rfl (fun w' hw' => (E.indexAddr te25 rfl rfl pt62)) ?_
   refine FD.val rfl rfl rfl (fun w' hw' => (E.load rfl (run_load0 Tryz.isAgg3 ((at64.mono i53).now (S52.call hw').sl) rfl))) ?_
   refine FD.val rfl rfl rfl (fun w' hw' => (E.move k58)) ?_
   refine FD.val rfl rfl rfl (fun w' hw' => (E.move k56)) ?_
   obtain ⟨x72, hx73, hp⟩ := bnd hp
   obtain ⟨p66, cs67, pt68, l69, at70, rel71⟩ := p1.at hx73
   obtain rfl := eI_open rel71
   refine FD.val rfl rfl rfl (fun w' hw' => (E.indexAddr te25 rfl rfl pt68)) ?_
   refine FD.val rfl rfl rfl (fun w' hw' => (E.load rfl (run_load0 Tryz.isAgg3 ((at70.mono i53).now (S52.call hw').sl) rfl))) ?_
   refine FD.val rfl rfl rfl (fun w' hw' => (E.neq rfl rfl)) ?_
   refine FD.nil ?_
   intro w74 r76
   have S75 := S52.call r76
   rcases ifB hp with ⟨c77, hp⟩ | ⟨c77, hp⟩
   ·
    refine FW.condT rfl c77 ?_
    refine FW.seq (FW.region ?_)
    refine FL.v (E.assign (v := Value.bool false) rfl) ?_
    refine FL.nil ?_
    refine FW.ret ?_
    obtain rfl := Option.some.inj hp
    exact ⟨nofun, rfl, ⟨.inr rfl, res1 rfl rfl ⟨rfl, S75.back⟩⟩⟩
   ·
    refine FW.condF rfl c77 ?_
    refine FW.skip (FW.region ?_)
    refine FL.v (E.move k56) ?_
    refine FL.v (E.add rfl rfl) ?_
    refine FL.v (E.assign (v := Value.int .i64 (wr (((i23 : Nat) : Int) + 1))) rfl) ?_
    refine FL.nil ?_
    obtain rfl := Option.some.inj hp
    exact ⟨rfl, ⟨_, S75, i53, (nat_succ rfl (lt_of_get hx23) (p0.mono i53).le), k57, k58⟩⟩
  ·
   clear hp hq
   rintro s23 f88 w87 ⟨H84, S85, i86, k89, k90, k91⟩
   refine FW.seq (FW.seq (FW.region ?_))
   refine FL.v (E.move k89) ?_
   refine FL.v (E.move k90) ?_
   refine FL.v (E.lenP te25 rfl p0) ?_
   refine FL.v (E.lss rfl rfl) ?_
   refine FL.nil ?_
   refine FW.condF rfl dlt_len ?_
   refine FW.exit ?_
   exact ⟨nofun, rfl, ⟨_, S85, i86⟩⟩
  ·
   clear hq
   intro e f83 w82 hD
   rcases q23 with s23 | x23
   ·
    obtain ⟨rfl, hD⟩ := hD
    obtain ⟨H79, S80, i81⟩ := hD
    replace hp := el_go hp
    refine FW.seq (FW.region ?_)
    refine FL.v (E.assign (v := Value.bool true) rfl) ?_
    refine FL.nil ?_
    refine FW.ret ?_
    obtain rfl := Option.some.inj hp
    exact ⟨.inr rfl, res1 rfl rfl ⟨rfl, S80.back⟩⟩
   ·
    obtain ⟨he, hL⟩ := hD
    replace hp := el_rt hp
    obtain rfl := Option.some.inj hp
    subst he
    exact hL

set_option maxHeartbeats 4000000 in
theorem w_laws_eqResStep {Ha : GH} {wa : World} (hs : Sl Ha wa) (a0 : ResStep) (v0_0 : Value) (p0_0 : RSl Ha eI 1 v0_0 a0.clause) (a1 : ResStep) (v1_0 : Value) (p1_0 : RSl Ha eI 1 v1_0 a1.clause) {r : Bool} (hp : (PF.laws_eqResStep a0 a1) = some r) :
  Calls Tryz.prog 88 #[Value.agg #[v0_0, Value.int .i64 a0.left, Value.int .i64 a0.right, Value.int .i64 a0.pivot], Value.agg #[v1_0, Value.int .i64 a1.left, Value.int .i64 a1.right, Value.int .i64 a1.pivot]] wa (Sc Ha wa (Value.bool r)) := by
 unfold PF.laws_eqResStep at hp
 have S0 := St.init hs
 refine calls_go (N := 26) (args := [Value.agg #[v0_0, Value.int .i64 a0.left, Value.int .i64 a0.right, Value.int .i64 a0.pivot], Value.agg #[v1_0, Value.int .i64 a1.left, Value.int .i64 a1.right, Value.int .i64 a1.pivot]]) Tryz.func88 rfl rfl rfl ?_
 refine FW.seq (FW.region ?_)
 obtain ⟨b21, w22, run23, S24⟩ := S0.box (P := Tryz.prog) 98 [v0_0, Value.int .i64 a0.left, Value.int .i64 a0.right, Value.int .i64 a0.pivot] (v := Value.agg #[v0_0, Value.int .i64 a0.left, Value.int .i64 a0.right, Value.int .i64 a0.pivot]) rfl (ones_cons p0_0.one (ones_cons rfl (ones_cons rfl (ones_cons rfl ones_nil))))
 refine FL.v (E.box rfl run23) ?_
 obtain ⟨H25, S26, i27, at28⟩ := S24.sealBox (i := 0) (l' := []) rfl rfl
 obtain ⟨b29, w30, run31, S32⟩ := S26.box (P := Tryz.prog) 98 [v1_0, Value.int .i64 a1.left, Value.int .i64 a1.right, Value.int .i64 a1.pivot] (v := Value.agg #[v1_0, Value.int .i64 a1.left, Value.int .i64 a1.right, Value.int .i64 a1.pivot]) rfl (ones_cons p1_0.one (ones_cons rfl (ones_cons rfl (ones_cons rfl ones_nil))))
 refine FL.v (E.box rfl run31) ?_
 obtain ⟨H33, S34, i35, at36⟩ := S32.sealBox (i := 0) (l' := []) rfl rfl
 refine FL.v (E.assign (v := Value.bool false) rfl) ?_
 refine FL.nil (FW.seq (FW.seq (FW.region ?_)))
 refine FL.v (E.fieldAddr tf98_0 rfl) ?_
 refine FL.v (E.load rfl (run_load1 Tryz.isAgg25 ((at28.mono i35).now S34.sl) rfl)) ?_
 refine FL.v (E.fieldAddr tf98_0 rfl) ?_
 refine FL.v (E.load rfl (run_load1 Tryz.isAgg25 (at36.now S34.sl) rfl)) ?_
 obtain ⟨r37, hr38, hp⟩ := bnd hp
 refine FL.call rfl rfl rfl (E.call Tryz.call18 (A2 rfl rfl)) (w_laws_eqIntS S34.sl v0_0 a0.clause (p0_0.mono (i27.tr i35)) v1_0 a1.clause (p1_0.mono (i27.tr i35)) hr38) ?_
 rintro e w39 ⟨rfl, r40⟩
 refine ⟨_, rfl, ?_⟩
 have S41 := S34.call r40
 refine FL.v (E.not rfl) ?_
 refine FL.nil ?_
 rcases ifB hp with ⟨c42, hp⟩ | ⟨c42, hp⟩
 ·
  refine FW.condT rfl c42 ?_
  refine FW.seq (FW.region ?_)
  refine FL.v (E.assign (v := Value.bool false) rfl) ?_
  refine FL.nil ?_
  refine FW.ret ?_
  obtain rfl := Option.some.inj hp
  exact ⟨.inr rfl, res1 rfl rfl ⟨rfl, S41.back⟩⟩
 ·
  refine FW.condF rfl c42 ?_
  refine FW.skip (FW.seq (FW.seq (FW.region ?_)))
  refine FL.v (E.fieldAddr tf98_1 rfl) ?_
  refine FL.v (E.load rfl (run_load1 Tryz.isAgg3 ((at28.mono i35).now S41.sl) rfl)) ?_
  refine FL.v (E.fieldAddr tf98_1 rfl) ?_
  refine FL.v (E.load rfl (run_load1 Tryz.isAgg3 (at36.now S41.sl) rfl)) ?_
  refine FL.v (E.neq rfl rfl) ?_
  refine FL.nil ?_
  rcases ifB hp with ⟨c43, hp⟩ | ⟨c43, hp⟩
  ·
   refine FW.condT rfl c43 ?_
   refine FW.seq (FW.region ?_)
   refine FL.v (E.assign (v := Value.bool false) rfl) ?_
   refine FL.nil ?_
   refine FW.ret ?_
   obtain rfl := Option.some.inj hp
   exact ⟨.inr rfl, res1 rfl rfl ⟨rfl, S41.back⟩⟩
  ·
   refine FW.condF rfl c43 ?_
   refine FW.skip (FW.seq (FW.seq (FW.region ?_)))
   refine FL.v (E.fieldAddr tf98_2 rfl) ?_
   refine FL.v (E.load rfl (run_load1 Tryz.isAgg3 ((at28.mono i35).now S41.sl) rfl)) ?_
   refine FL.v (E.fieldAddr tf98_2 rfl) ?_
   refine FL.v (E.load rfl (run_load1 Tryz.isAgg3 (at36.now S41.sl) rfl)) ?_
   refine FL.v (E.neq rfl rfl) ?_
   refine FL.nil ?_
   rcases ifB hp with ⟨c44, hp⟩ | ⟨c44, hp⟩
   ·
    refine FW.condT rfl c44 ?_
    refine FW.seq (FW.region ?_)
    refine FL.v (E.assign (v := Value.bool false) rfl) ?_
    refine FL.nil ?_
    refine FW.ret ?_
    obtain rfl := Option.some.inj hp
    exact ⟨.inr rfl, res1 rfl rfl ⟨rfl, S41.back⟩⟩
   ·
    refine FW.condF rfl c44 ?_
    refine FW.skip (FW.seq (FW.seq (FW.region ?_)))
    refine FL.v (E.fieldAddr tf98_3 rfl) ?_
    refine FL.v (E.load rfl (run_load1 Tryz.isAgg3 ((at28.mono i35).now S41.sl) rfl)) ?_
    refine FL.v (E.fieldAddr tf98_3 rfl) ?_
    refine FL.v (E.load rfl (run_load1 Tryz.isAgg3 (at36.now S41.sl) rfl)) ?_
    refine FL.v (E.neq rfl rfl) ?_
    refine FL.nil ?_
    rcases ifB hp with ⟨c45, hp⟩ | ⟨c45, hp⟩
    ·
     refine FW.condT rfl c45 ?_
     refine FW.seq (FW.region ?_)
     refine FL.v (E.assign (v := Value.bool false) rfl) ?_
     refine FL.nil ?_
     refine FW.ret ?_
     obtain rfl := Option.some.inj hp
     exact ⟨.inr rfl, res1 rfl rfl ⟨rfl, S41.back⟩⟩
    ·
     refine FW.condF rfl c45 ?_
     refine FW.skip (FW.seq (FW.region ?_))
     refine FL.v (E.assign (v := Value.bool true) rfl) ?_
     refine FL.nil ?_
     refine FW.ret ?_
     obtain rfl := Option.some.inj hp
     exact ⟨.inr rfl, res1 rfl rfl ⟨rfl, S41.back⟩⟩

set_option maxHeartbeats 4000000 in
theorem w_laws_eqResStepS {Ha : GH} {wa : World} (hs : Sl Ha wa) (v0 : Value) (a0 : List ResStep) (p0 : RSl Ha eResStep 4 v0 a0) (v1 : Value) (a1 : List ResStep) (p1 : RSl Ha eResStep 4 v1 a1) {r : Bool} (hp : (PF.laws_eqResStepS a0 a1) = some r) :
  Calls Tryz.prog 16 #[v0, v1] wa (Sc Ha wa (Value.bool r)) := by
 unfold PF.laws_eqResStepS at hp
 have S0 := St.init hs
 refine calls_go (N := 27) (args := [v0, v1]) Tryz.func16 rfl rfl rfl ?_
 refine FW.seq (FW.region ?_)
 refine FL.v (E.assign (v := Value.bool false) rfl) ?_
 refine FL.nil (FW.seq (FW.seq (FW.region ?_)))
 refine FL.v (E.move (v := v0) rfl) ?_
 refine FL.v (E.lenP te27 rfl p0) ?_
 refine FL.v (E.move (v := v1) rfl) ?_
 refine FL.v (E.lenP te27 rfl p1) ?_
 refine FL.v (E.neq rfl rfl) ?_
 refine FL.nil ?_
 rcases ifB hp with ⟨c21, hp⟩ | ⟨c21, hp⟩
 ·
  refine FW.condT rfl c21 ?_
  refine FW.seq (FW.region ?_)
  refine FL.v (E.assign (v := Value.bool false) rfl) ?_
  refine FL.nil ?_
  refine FW.ret ?_
  obtain rfl := Option.some.inj hp
  exact ⟨.inr rfl, res1 rfl rfl ⟨rfl, S0.back⟩⟩
 ·
  refine FW.condF rfl c21 ?_
  refine FW.skip (FW.seq (FW.seq (FW.region ?_)))
  refine FL.v (E.assign (v := Value.int .i64 0) rfl) ?_
  refine FL.nil ?_
  obtain ⟨q23, hq, hp⟩ := bndR hp
  refine FW.block ?_
  refine FW.mono (FW.forL (S := Unit) (X := Bool) (fun (i23 : Nat) (s23 : Unit) f w => ∃ H : GH, St Ha wa H w [] ∧ Inc Ha H ∧ f 5 = Value.int .i64 ((i23 : Nat) : Int) ∧ f 0 = v0 ∧ f 1 = v1) (fun q e f w => match q with | .go s23 => e = Exit.exit 0 ∧ (∃ H : GH, St Ha wa H w [] ∧ Inc Ha H) | .rt x => ((e = Exit.ret) ∧ (fun e f w => (e = Exit.normal ∨ e = Exit.ret) ∧ ∀ a, Fr (δ := []) 27 a f → ∃ v, (results Tryz.f16 a.tmps).run Tryz.prog w = .ok v w ∧ (Sc Ha wa (Value.bool x)) (.returned v) w) e f w)) hq ⟨_, S0, (Inc.rfl _), rfl, rfl, rfl⟩ ?_ ?_) ?_
  ·
   clear hp hq
   rintro i23 y22 s23 f61 w60 ⟨H57, S58, i59, k62, k63, k64⟩ hx23 o90 hp
   refine FW.seq (FW.seq (FW.region ?_))
   refine FL.v (E.move k62) ?_
   refine FL.v (E.move k63) ?_
   refine FL.v (E.lenP te27 rfl p0) ?_
   refine FL.v (E.lssT rfl rfl (lss_len hx23)) ?_
   refine FL.nil ?_
   refine FW.condT rfl rfl ?_
   refine FW.skip (FW.seq (FW.block (FW.seq ?_)))
   refine FW.draw (fun w' => Run w60.heap.size H57 w60 H57 w') (by kernel_rfl) (by kernel_rfl) (run_drew S58.sl) ?_
   refine FD.val rfl rfl rfl (fun w' hw' => (E.move k63)) ?_
   refine FD.val rfl rfl rfl (fun w' hw' => (E.move k62)) ?_
   obtain ⟨p66, cs67, pt68, l69, at70, rel71⟩ := p0.at (ix_nat hx23)
   obtain ⟨v72, rfl, h73⟩ := eResStep_open rel71
   refine FD.val rfl rfl rfl (fun w' hw' => (E.indexAddr te27 rfl rfl pt68)) ?_
   refine FD.val rfl rfl rfl (fun w' hw' => (E.load rfl (run_loadA Tryz.isAgg98 Tryz.sizeOf98 ((at70.mono i59).now (S58.call hw').sl) rfl))) ?_
   refine FD.val rfl rfl rfl (fun w' hw' => (E.move k64)) ?_
   refine FD.val rfl rfl rfl (fun w' hw' => (E.move k62)) ?_
   obtain ⟨x80, hx81, hp⟩ := bnd hp
   obtain ⟨p74, cs75, pt76, l77, at78, rel79⟩ := p1.at hx81
   obtain ⟨v82, rfl, h83⟩ := eResStep_open rel79
   refine FD.val rfl rfl rfl (fun w' hw' => (E.indexAddr te27 rfl rfl pt76)) ?_
   refine FD.val rfl rfl rfl (fun w' hw' => (E.load rfl (run_loadA Tryz.isAgg98 Tryz.sizeOf98 ((at78.mono i59).now (S58.call hw').sl) rfl))) ?_
   obtain ⟨r84, hr85, hp⟩ := bnd hp
   refine FD.call rfl rfl rfl (fun w' hw' => (E.call Tryz.call88 (A2 rfl rfl))) (fun w' hw' => Calls.cls hw' (w_laws_eqResStep (S58.call hw').sl y22 v72 (h73.mono i59) x80 v82 (h83.mono i59) hr85)) ?_
   refine FD.val rfl rfl rfl (fun w' hw' => (E.not rfl)) ?_
   refine FD.nil ?_
   intro w86 r88
   have S87 := S58.call r88
   rcases ifB hp with ⟨c89, hp⟩ | ⟨c89, hp⟩
   ·
    refine FW.condT rfl c89 ?_
    refine FW.seq (FW.region ?_)
    refine FL.v (E.assign (v := Value.bool false) rfl) ?_
    refine FL.nil ?_
    refine FW.ret ?_
    obtain rfl := Option.some.inj hp
    exact ⟨nofun, rfl, ⟨.inr rfl, res1 rfl rfl ⟨rfl, S87.back⟩⟩⟩
   ·
    refine FW.condF rfl c89 ?_
    refine FW.skip (FW.region ?_)
    refine FL.v (E.move k62) ?_
    refine FL.v (E.add rfl rfl) ?_
    refine FL.v (E.assign (v := Value.int .i64 (wr (((i23 : Nat) : Int) + 1))) rfl) ?_
    refine FL.nil ?_
    obtain rfl := Option.some.inj hp
    exact ⟨rfl, ⟨_, S87, i59, (nat_succ rfl (lt_of_get hx23) (p0.mono i59).le), k63, k64⟩⟩
  ·
   clear hp hq
   rintro s23 f100 w99 ⟨H96, S97, i98, k101, k102, k103⟩
   refine FW.seq (FW.seq (FW.region ?_))
   refine FL.v (E.move k101) ?_
   refine FL.v (E.move k102) ?_
   refine FL.v (E.lenP te27 rfl p0) ?_
   refine FL.v (E.lss rfl rfl) ?_
   refine FL.nil ?_
   refine FW.condF rfl dlt_len ?_
   refine FW.exit ?_
   exact ⟨nofun, rfl, ⟨_, S97, i98⟩⟩
  ·
   clear hq
   intro e f95 w94 hD
   rcases q23 with s23 | x23
   ·
    obtain ⟨rfl, hD⟩ := hD
    obtain ⟨H91, S92, i93⟩ := hD
    replace hp := el_go hp
    refine FW.seq (FW.region ?_)
    refine FL.v (E.assign (v := Value.bool true) rfl) ?_
    refine FL.nil ?_
    refine FW.ret ?_
    obtain rfl := Option.some.inj hp
    exact ⟨.inr rfl, res1 rfl rfl ⟨rfl, S92.back⟩⟩
   ·
    obtain ⟨he, hL⟩ := hD
    replace hp := el_rt hp
    obtain rfl := Option.some.inj hp
    subst he
    exact hL

set_option maxHeartbeats 4000000 in
theorem w_laws_eqIntSS {Ha : GH} {wa : World} (hs : Sl Ha wa) (v0 : Value) (a0 : List (List Int)) (p0 : RSl Ha (eL eI 1) 1 v0 a0) (v1 : Value) (a1 : List (List Int)) (p1 : RSl Ha (eL eI 1) 1 v1 a1) {r : Bool} (hp : (PF.laws_eqIntSS a0 a1) = some r) :
  Calls Tryz.prog 89 #[v0, v1] wa (Sc Ha wa (Value.bool r)) := by
 unfold PF.laws_eqIntSS at hp
 have S0 := St.init hs
 refine calls_go (N := 27) (args := [v0, v1]) Tryz.func89 rfl rfl rfl ?_
 refine FW.seq (FW.region ?_)
 refine FL.v (E.assign (v := Value.bool false) rfl) ?_
 refine FL.nil (FW.seq (FW.seq (FW.region ?_)))
 refine FL.v (E.move (v := v0) rfl) ?_
 refine FL.v (E.lenP te22 rfl p0) ?_
 refine FL.v (E.move (v := v1) rfl) ?_
 refine FL.v (E.lenP te22 rfl p1) ?_
 refine FL.v (E.neq rfl rfl) ?_
 refine FL.nil ?_
 rcases ifB hp with ⟨c21, hp⟩ | ⟨c21, hp⟩
 ·
  refine FW.condT rfl c21 ?_
  refine FW.seq (FW.region ?_)
  refine FL.v (E.assign (v := Value.bool false) rfl) ?_
  refine FL.nil ?_
  refine FW.ret ?_
  obtain rfl := Option.some.inj hp
  exact ⟨.inr rfl, res1 rfl rfl ⟨rfl, S0.back⟩⟩
 ·
  refine FW.condF rfl c21 ?_
  refine FW.skip (FW.seq (FW.seq (FW.region ?_)))
  refine FL.v (E.assign (v := Value.int .i64 0) rfl) ?_
  refine FL.nil ?_
  obtain ⟨q23, hq, hp⟩ := bndR hp
  refine FW.block ?_
  refine FW.mono (FW.forL (S := Unit) (X := Bool) (fun (i23 : Nat) (s23 : Unit) f w => ∃ H : GH, St Ha wa H w [] ∧ Inc Ha H ∧ f 5 = Value.int .i64 ((i23 : Nat) : Int) ∧ f 0 = v0 ∧ f 1 = v1) (fun q e f w => match q with | .go s23 => e = Exit.exit 0 ∧ (∃ H : GH, St Ha wa H w [] ∧ Inc Ha H) | .rt x => ((e = Exit.ret) ∧ (fun e f w => (e = Exit.normal ∨ e = Exit.ret) ∧ ∀ a, Fr (δ := []) 27 a f → ∃ v, (results Tryz.f89 a.tmps).run Tryz.prog w = .ok v w ∧ (Sc Ha wa (Value.bool x)) (.returned v) w) e f w)) hq ⟨_, S0, (Inc.rfl _), rfl, rfl, rfl⟩ ?_ ?_) ?_
  ·
   clear hp hq
   rintro i23 y22 s23 f61 w60 ⟨H57, S58, i59, k62, k63, k64⟩ hx23 o90 hp
   refine FW.seq (FW.seq (FW.region ?_))
   refine FL.v (E.move k62) ?_
   refine FL.v (E.move k63) ?_
   refine FL.v (E.lenP te22 rfl p0) ?_
   refine FL.v (E.lssT rfl rfl (lss_len hx23)) ?_
   refine FL.nil ?_
   refine FW.condT rfl rfl ?_
   refine FW.skip (FW.seq (FW.block (FW.seq ?_)))
   refine FW.draw (fun w' => Run w60.heap.size H57 w60 H57 w') (by kernel_rfl) (by kernel_rfl) (run_drew S58.sl) ?_
   refine FD.val rfl rfl rfl (fun w' hw' => (E.move k63)) ?_
   refine FD.val rfl rfl rfl (fun w' hw' => (E.move k62)) ?_
   obtain ⟨p66, cs67, pt68, l69, at70, rel71⟩ := p0.at (ix_nat hx23)
   obtain ⟨v72, rfl, h73⟩ := eL_open rel71
   refine FD.val rfl rfl rfl (fun w' hw' => (E.indexAddr te22 rfl rfl pt68)) ?_
   refine FD.val rfl rfl rfl (fun w' hw' => (E.load rfl (run_load0 Tryz.isAgg25 ((at70.mono i59).now (S58.call hw').sl) rfl))) ?_
   refine FD.val rfl rfl rfl (fun w' hw' => (E.move k64)) ?_
   refine FD.val rfl rfl rfl (fun w' hw' => (E.move k62)) ?_
   obtain ⟨x80, hx81, hp⟩ := bnd hp
   obtain ⟨p74, cs75, pt76, l77, at78, rel79⟩ := p1.at hx81
   obtain ⟨v82, rfl, h83⟩ := eL_open rel79
   refine FD.val rfl rfl rfl (fun w' hw' => (E.indexAddr te22 rfl rfl pt76)) ?_
   refine FD.val rfl rfl rfl (fun w' hw' => (E.load rfl (run_load0 Tryz.isAgg25 ((at78.mono i59).now (S58.call hw').sl) rfl))) ?_
   obtain ⟨r84, hr85, hp⟩ := bnd hp
   refine FD.call rfl rfl rfl (fun w' hw' => (E.call Tryz.call18 (A2 rfl rfl))) (fun w' hw' => Calls.cls hw' (w_laws_eqIntS (S58.call hw').sl v72 y22 (h73.mono i59) v82 x80 (h83.mono i59) hr85)) ?_
   refine FD.val rfl rfl rfl (fun w' hw' => (E.not rfl)) ?_
   refine FD.nil ?_
   intro w86 r88
   have S87 := S58.call r88
   rcases ifB hp with ⟨c89, hp⟩ | ⟨c89, hp⟩
   ·
    refine FW.condT rfl c89 ?_
    refine FW.seq (FW.region ?_)
    refine FL.v (E.assign (v := Value.bool false) rfl) ?_
    refine FL.nil ?_
    refine FW.ret ?_
    obtain rfl := Option.some.inj hp
    exact ⟨nofun, rfl, ⟨.inr rfl, res1 rfl rfl ⟨rfl, S87.back⟩⟩⟩
   ·
    refine FW.condF rfl c89 ?_
    refine FW.skip (FW.region ?_)
    refine FL.v (E.move k62) ?_
    refine FL.v (E.add rfl rfl) ?_
    refine FL.v (E.assign (v := Value.int .i64 (wr (((i23 : Nat) : Int) + 1))) rfl) ?_
    refine FL.nil ?_
    obtain rfl := Option.some.inj hp
    exact ⟨rfl, ⟨_, S87, i59, (nat_succ rfl (lt_of_get hx23) (p0.mono i59).le), k63, k64⟩⟩
  ·
   clear hp hq
   rintro s23 f100 w99 ⟨H96, S97, i98, k101, k102, k103⟩
   refine FW.seq (FW.seq (FW.region ?_))
   refine FL.v (E.move k101) ?_
   refine FL.v (E.move k102) ?_
   refine FL.v (E.lenP te22 rfl p0) ?_
   refine FL.v (E.lss rfl rfl) ?_
   refine FL.nil ?_
   refine FW.condF rfl dlt_len ?_
   refine FW.exit ?_
   exact ⟨nofun, rfl, ⟨_, S97, i98⟩⟩
  ·
   clear hq
   intro e f95 w94 hD
   rcases q23 with s23 | x23
   ·
    obtain ⟨rfl, hD⟩ := hD
    obtain ⟨H91, S92, i93⟩ := hD
    replace hp := el_go hp
    refine FW.seq (FW.region ?_)
    refine FL.v (E.assign (v := Value.bool true) rfl) ?_
    refine FL.nil ?_
    refine FW.ret ?_
    obtain rfl := Option.some.inj hp
    exact ⟨.inr rfl, res1 rfl rfl ⟨rfl, S92.back⟩⟩
   ·
    obtain ⟨he, hL⟩ := hD
    replace hp := el_rt hp
    obtain rfl := Option.some.inj hp
    subst he
    exact hL

theorem w_laws_eqCnf {Ha : GH} {wa : World} (hs : Sl Ha wa) (a0 : Cnf) (v0_1 : Value) (p0_1 : RSl Ha (eL eI 1) 1 v0_1 a0.clauses) (a1 : Cnf) (v1_1 : Value) (p1_1 : RSl Ha (eL eI 1) 1 v1_1 a1.clauses) {r : Bool} (hp : (PF.laws_eqCnf a0 a1) = some r) :
  Calls Tryz.prog 17 #[Value.agg #[Value.int .i64 a0.vars, v0_1], Value.agg #[Value.int .i64 a1.vars, v1_1]] wa (Sc Ha wa (Value.bool r)) := by
 unfold PF.laws_eqCnf at hp
 have S0 := St.init hs
 refine calls_go (N := 16) (args := [Value.agg #[Value.int .i64 a0.vars, v0_1], Value.agg #[Value.int .i64 a1.vars, v1_1]]) Tryz.func17 rfl rfl rfl ?_
 refine FW.seq (FW.region ?_)
 obtain ⟨b21, w22, run23, S24⟩ := S0.box (P := Tryz.prog) 30 [Value.int .i64 a0.vars, v0_1] (v := Value.agg #[Value.int .i64 a0.vars, v0_1]) rfl (ones_cons rfl (ones_cons p0_1.one ones_nil))
 refine FL.v (E.box rfl run23) ?_
 obtain ⟨H25, S26, i27, at28⟩ := S24.sealBox (i := 0) (l' := []) rfl rfl
 obtain ⟨b29, w30, run31, S32⟩ := S26.box (P := Tryz.prog) 30 [Value.int .i64 a1.vars, v1_1] (v := Value.agg #[Value.int .i64 a1.vars, v1_1]) rfl (ones_cons rfl (ones_cons p1_1.one ones_nil))
 refine FL.v (E.box rfl run31) ?_
 obtain ⟨H33, S34, i35, at36⟩ := S32.sealBox (i := 0) (l' := []) rfl rfl
 refine FL.v (E.assign (v := Value.bool false) rfl) ?_
 refine FL.nil (FW.seq (FW.seq (FW.region ?_)))
 refine FL.v (E.fieldAddr tf30_0 rfl) ?_
 refine FL.v (E.load rfl (run_load1 Tryz.isAgg3 ((at28.mono i35).now S34.sl) rfl)) ?_
 refine FL.v (E.fieldAddr tf30_0 rfl) ?_
 refine FL.v (E.load rfl (run_load1 Tryz.isAgg3 (at36.now S34.sl) rfl)) ?_
 refine FL.v (E.neq rfl rfl) ?_
 refine FL.nil ?_
 rcases ifB hp with ⟨c37, hp⟩ | ⟨c37, hp⟩
 ·
  refine FW.condT rfl c37 ?_
  refine FW.seq (FW.region ?_)
  refine FL.v (E.assign (v := Value.bool false) rfl) ?_
  refine FL.nil ?_
  refine FW.ret ?_
  obtain rfl := Option.some.inj hp
  exact ⟨.inr rfl, res1 rfl rfl ⟨rfl, S34.back⟩⟩
 ·
  refine FW.condF rfl c37 ?_
  refine FW.skip (FW.seq (FW.seq (FW.region ?_)))
  refine FL.v (E.fieldAddr tf30_1 rfl) ?_
  refine FL.v (E.load rfl (run_load1 Tryz.isAgg22 ((at28.mono i35).now S34.sl) rfl)) ?_
  refine FL.v (E.fieldAddr tf30_1 rfl) ?_
  refine FL.v (E.load rfl (run_load1 Tryz.isAgg22 (at36.now S34.sl) rfl)) ?_
  obtain ⟨r38, hr39, hp⟩ := bnd hp
  refine FL.call rfl rfl rfl (E.call Tryz.call89 (A2 rfl rfl)) (w_laws_eqIntSS S34.sl v0_1 a0.clauses (p0_1.mono (i27.tr i35)) v1_1 a1.clauses (p1_1.mono (i27.tr i35)) hr39) ?_
  rintro e w40 ⟨rfl, r41⟩
  refine ⟨_, rfl, ?_⟩
  have S42 := S34.call r41
  refine FL.v (E.not rfl) ?_
  refine FL.nil ?_
  rcases ifB hp with ⟨c43, hp⟩ | ⟨c43, hp⟩
  ·
   refine FW.condT rfl c43 ?_
   refine FW.seq (FW.region ?_)
   refine FL.v (E.assign (v := Value.bool false) rfl) ?_
   refine FL.nil ?_
   refine FW.ret ?_
   obtain rfl := Option.some.inj hp
   exact ⟨.inr rfl, res1 rfl rfl ⟨rfl, S42.back⟩⟩
  ·
   refine FW.condF rfl c43 ?_
   refine FW.skip (FW.seq (FW.region ?_))
   refine FL.v (E.assign (v := Value.bool true) rfl) ?_
   refine FL.nil ?_
   refine FW.ret ?_
   obtain rfl := Option.some.inj hp
   exact ⟨.inr rfl, res1 rfl rfl ⟨rfl, S42.back⟩⟩

theorem w_laws_markIntS {H0 Ha : GH} {w0 wa : World} {l : List MO} (S0 : St H0 w0 Ha wa l) (hs0 : Sl H0 w0) (v0 : Value) (a0 : List Int) (p0 : RSl (up w0.heap.size Ha) eI 1 v0 a0) (a1 : Int) :
  Calls Tryz.prog 20 #[v0, Value.int .i64 a1] wa (M1 H0 w0 Ha l eI 1 v0 (PF.laws_markIntS a0 a1)) := by
 obtain ⟨c0, n0, hc0⟩ := p0.nest eI_flat (by decide)
 have hln := p0.ln
 have hle := p0.le
 refine calls_go (N := 19) (args := [v0, Value.int .i64 a1]) Tryz.func20 rfl rfl rfl ?_
 refine FW.seq (FW.region ?_)
 refine FL.v (E.assign (v := Value.int .i64 0) rfl) ?_
 refine FL.nil (FW.seq (FW.seq (FW.region ?_)))
 refine FL.v (E.assign (v := Value.int .i64 0) rfl) ?_
 refine FL.nil (FW.block ?_)
 refine FW.mono (FW.mark (F := fun y m => (m, (wr (m + 1)))) (a0 := a0) (k0 := a1) (fun (i : Nat) (xs : List Int) (k : Int) f w => ∃ (H : GH) (c : List Value), St H0 w0 H w l ∧ Nest (up w0.heap.size H) eI 1 v0 xs c ∧ bl c = bl c0 ∧ (∀ b, b ∉ bl [v0] → b ∉ bl c0 → H b = Ha b) ∧ f 0 = v0 ∧ f 1 = Value.int .i64 k ∧ f 5 = Value.int .i64 ((i : Nat) : Int)) (fun e f w => e = Exit.exit 0 ∧ ∃ (H : GH) (c : List Value), St H0 w0 H w l ∧ Nest (up w0.heap.size H) eI 1 v0 (markFrom (fun y m => (m, (wr (m + 1)))) a0 a1).1 c ∧ bl c = bl c0 ∧ (∀ b, b ∉ bl [v0] → b ∉ bl c0 → H b = Ha b) ∧ f 0 = v0 ∧ f 1 = Value.int .i64 (markFrom (fun y m => (m, (wr (m + 1)))) a0 a1).2) ⟨_, _, S0, n0, rfl, fun _ _ _ => rfl, rfl, rfl, rfl⟩ ?_ ?_) ?_
 ·
  rintro i y xs m f1 w1 ⟨H1, c1, S1, n1, hb, ho, kv, kk, kc⟩ hx hy
  obtain ⟨p, hpt, wr0, hB, hr, nd⟩ := n1.begin hy (by decide)
  have hci := eI_open hr
  have rd := wr0.opens hci
  refine FW.seq (FW.seq (FW.region ?_))
  refine FL.v (E.move kc) ?_
  refine FL.v (E.move kv) ?_
  refine FL.v (E.len te25 rfl hln) ?_
  refine FL.v (E.lssT rfl rfl (lss_len hx)) ?_
  refine FL.nil ?_
  refine FW.condT rfl rfl ?_
  refine FW.skip (FW.seq (FW.block (FW.seq (FW.region ?_))))
  refine FL.v (E.move kv) ?_
  refine FL.v (E.move kc) ?_
  refine FL.v (E.move kk) ?_
  refine FL.v (E.indexAddr te25 rfl rfl hpt) ?_
  obtain ⟨w21, H22, run24, S23, wr25, o26⟩ := rd.poke0 (P := Tryz.prog) (t := 3) (u := Value.int .i64 m) S1 hs0 hB rfl rfl rfl Tryz.sizeOf3 rfl rfl (c2 := [Value.int .i64 m]) rfl
  refine FL.act rfl rfl (E.store rfl rfl run24) ?_
  refine FL.nil (FW.region ?_)
  refine FL.v (E.move kk) ?_
  refine FL.v (E.add rfl rfl) ?_
  refine FL.v (E.assign (v := Value.int .i64 (wr (m + 1))) rfl) ?_
  refine FL.nil (FW.region ?_)
  refine FL.v (E.move kc) ?_
  refine FL.v (E.add rfl rfl) ?_
  refine FL.v (E.assign (v := Value.int .i64 (wr (((i : Nat) : Int) + 1))) rfl) ?_
  refine FL.nil ?_
  obtain ⟨c2, n2, hb2, ho2⟩ := n1.round eI_flat.loc hy (by decide) hpt wr25 (y' := m) rfl
  exact ⟨rfl, _, _, S23, n2, hb2.trans hb, fun b q1 q2 => (ho2 b q1 (by rw [hb]; exact q2)).trans (ho b q1 q2), kv, rfl, nat_succ rfl (lt_of_get hx) hle⟩
 ·
  rintro f1 w1 ⟨H1, c1, S1, n1, hb, ho, kv, kk, kc⟩
  refine FW.seq (FW.seq (FW.region ?_))
  refine FL.v (E.move kc) ?_
  refine FL.v (E.move kv) ?_
  refine FL.v (E.len te25 rfl hln) ?_
  refine FL.v (E.lss rfl rfl) ?_
  refine FL.nil ?_
  refine FW.condF rfl dlt_len ?_
  refine FW.exit ?_
  exact ⟨nofun, rfl, _, _, S1, n1, hb, ho, kv, kk⟩
 ·
  rintro e f2 w2 ⟨rfl, H2, c2, S2, n2, hb, ho, kv, kk⟩
  refine FW.seq (FW.region ?_)
  refine FL.v (E.move kk) ?_
  refine FL.v (E.assign (v := Value.int .i64 ((markFrom (fun y m => (m, (wr (m + 1)))) a0 a1).2)) rfl) ?_
  refine FL.nil ?_
  refine FW.ret ?_
  exact ⟨.inr rfl, res1 rfl rfl ⟨_, rfl, S2, n2.rsl, fun b q => ho b q (by rw [hc0]; simp)⟩⟩

theorem w_laws_markIntSS {H0 Ha : GH} {w0 wa : World} {l : List MO} (S0 : St H0 w0 Ha wa l) (hs0 : Sl H0 w0) (v0 : Value) (a0 : List (List Int)) (c0 : List Value) (n0 : Nest (up w0.heap.size Ha) (eL eI 1) 1 v0 a0 c0) (a1 : Int) :
  Calls Tryz.prog 90 #[v0, Value.int .i64 a1] wa (M2 H0 w0 Ha l (eL eI 1) 1 v0 c0 (PF.laws_markIntSS a0 a1)) := by
 have hln := n0.rsl.ln
 have hle := n0.rsl.le
 refine calls_go (N := 19) (args := [v0, Value.int .i64 a1]) Tryz.func90 rfl rfl rfl ?_
 refine FW.seq (FW.region ?_)
 refine FL.v (E.assign (v := Value.int .i64 0) rfl) ?_
 refine FL.nil (FW.seq (FW.seq (FW.region ?_)))
 refine FL.v (E.assign (v := Value.int .i64 0) rfl) ?_
 refine FL.nil (FW.block ?_)
 refine FW.mono (FW.mark (F := fun y m => ((PF.laws_markIntS y m).1, (PF.laws_markIntS y m).2)) (a0 := a0) (k0 := a1) (fun (i : Nat) (xs : List (List Int)) (k : Int) f w => ∃ (H : GH) (c : List Value), St H0 w0 H w l ∧ Nest (up w0.heap.size H) (eL eI 1) 1 v0 xs c ∧ bl c = bl c0 ∧ (∀ b, b ∉ bl [v0] → b ∉ bl c0 → H b = Ha b) ∧ f 0 = v0 ∧ f 1 = Value.int .i64 k ∧ f 5 = Value.int .i64 ((i : Nat) : Int)) (fun e f w => e = Exit.exit 0 ∧ ∃ (H : GH) (c : List Value), St H0 w0 H w l ∧ Nest (up w0.heap.size H) (eL eI 1) 1 v0 (markFrom (fun y m => ((PF.laws_markIntS y m).1, (PF.laws_markIntS y m).2)) a0 a1).1 c ∧ bl c = bl c0 ∧ (∀ b, b ∉ bl [v0] → b ∉ bl c0 → H b = Ha b) ∧ f 0 = v0 ∧ f 1 = Value.int .i64 (markFrom (fun y m => ((PF.laws_markIntS y m).1, (PF.laws_markIntS y m).2)) a0 a1).2) ⟨_, _, S0, n0, rfl, fun _ _ _ => rfl, rfl, rfl, rfl⟩ ?_ ?_) ?_
 ·
  rintro i y xs m f1 w1 ⟨H1, c1, S1, n1, hb, ho, kv, kk, kc⟩ hx hy
  obtain ⟨p, hpt, wr0, hB, hr, nd⟩ := n1.begin hy (by decide)
  obtain ⟨u0, hci, hu0⟩ := eL_open hr
  have rd := wr0.opens hci
  refine FW.seq (FW.seq (FW.region ?_))
  refine FL.v (E.move kc) ?_
  refine FL.v (E.move kv) ?_
  refine FL.v (E.len te22 rfl hln) ?_
  refine FL.v (E.lssT rfl rfl (lss_len hx)) ?_
  refine FL.nil ?_
  refine FW.condT rfl rfl ?_
  refine FW.skip (FW.seq (FW.block (FW.region ?_)))
  refine FL.v (E.move kv) ?_
  refine FL.v (E.move kc) ?_
  refine FL.v (E.indexAddr te22 rfl rfl hpt) ?_
  refine FL.v (E.load rfl (run_load0 Tryz.isAgg25 (rd.now S1.sl) rfl)) ?_
  refine FL.v (E.move kk) ?_
  refine FL.call rfl rfl rfl (E.call Tryz.call20 (A2 rfl rfl)) (w_laws_markIntS S1 hs0 u0 y hu0 m) ?_
  rintro e w22 ⟨H21, rfl, S23, h24, o25⟩
  refine ⟨_, rfl, ?_⟩
  have wr26 := rd.inner (j := 0) rfl o25
  refine FL.v (E.assign (v := Value.int .i64 ((PF.laws_markIntS y m).2)) rfl) ?_
  refine FL.nil (FW.region ?_)
  refine FL.v (E.move kc) ?_
  refine FL.v (E.add rfl rfl) ?_
  refine FL.v (E.assign (v := Value.int .i64 (wr (((i : Nat) : Int) + 1))) rfl) ?_
  refine FL.nil ?_
  obtain ⟨c2, n2, hb2, ho2⟩ := n1.round (eL_loc eI_flat) hy (by decide) hpt wr26 (y' := (PF.laws_markIntS y m).1) ⟨_, rfl, h24⟩
  exact ⟨rfl, _, _, S23, n2, hb2.trans hb, fun b q1 q2 => (ho2 b q1 (by rw [hb]; exact q2)).trans (ho b q1 q2), kv, rfl, nat_succ rfl (lt_of_get hx) hle⟩
 ·
  rintro f1 w1 ⟨H1, c1, S1, n1, hb, ho, kv, kk, kc⟩
  refine FW.seq (FW.seq (FW.region ?_))
  refine FL.v (E.move kc) ?_
  refine FL.v (E.move kv) ?_
  refine FL.v (E.len te22 rfl hln) ?_
  refine FL.v (E.lss rfl rfl) ?_
  refine FL.nil ?_
  refine FW.condF rfl dlt_len ?_
  refine FW.exit ?_
  exact ⟨nofun, rfl, _, _, S1, n1, hb, ho, kv, kk⟩
 ·
  rintro e f2 w2 ⟨rfl, H2, c2, S2, n2, hb, ho, kv, kk⟩
  refine FW.seq (FW.region ?_)
  refine FL.v (E.move kk) ?_
  refine FL.v (E.assign (v := Value.int .i64 ((markFrom (fun y m => ((PF.laws_markIntS y m).1, (PF.laws_markIntS y m).2)) a0 a1).2)) rfl) ?_
  refine FL.nil ?_
  refine FW.ret ?_
  exact ⟨.inr rfl, res1 rfl rfl ⟨_, _, rfl, S2, n2, hb, fun b q1 q2 => weak (F := fun b => b ∉ bl [v0] ∧ b ∉ bl c0) (fun b q => ho b q.1 q.2) b ⟨q1, q2⟩⟩⟩

@[reducible] def p_laws_markCnf (H0 : GH) (w0 : World) (Ha : GH) (l : List MO) (v0 : Value) (c0 : List Value) (r : Cnf × Int) : Ending → World → Prop := fun e w' =>
 ∃ (H' : GH) (c' : List Value), e = .returned (.int .i64 r.2) ∧ St H0 w0 H' w' l ∧ Nest (up w0.heap.size H') (eL eI 1) 1 v0 r.1.clauses c' ∧ bl c' = bl c0 ∧ ∀ b, b ∉ bl [v0] → b ∉ bl c0 → ∀ o, Ha b = some o → H' b = some o
theorem w_laws_markCnf {H0 Ha : GH} {w0 wa : World} {l : List MO} (S0 : St H0 w0 Ha wa l) (hs0 : Sl H0 w0) (a0 : Cnf) (v0 : Value) (c0 : List Value) (n0 : Nest (up w0.heap.size Ha) (eL eI 1) 1 v0 a0.clauses c0) (a1 : Int) :
  Calls Tryz.prog 19 #[.agg #[Value.int .i64 a0.vars, v0], Value.int .i64 a1] wa (p_laws_markCnf H0 w0 Ha l v0 c0 (PF.laws_markCnf a0 a1)) := by
 refine calls_go (N := 10) (args := [.agg #[Value.int .i64 a0.vars, v0], Value.int .i64 a1]) Tryz.func19 rfl rfl rfl ?_
 refine FW.seq (FW.region ?_)
 obtain ⟨b21, w22, run23, S24⟩ := S0.box (P := Tryz.prog) 30 [Value.int .i64 a0.vars, v0] (v := Value.agg #[Value.int .i64 a0.vars, v0]) rfl (ones_cons rfl (ones_cons n0.rsl.one ones_nil))
 refine FL.v (E.box rfl run23) ?_
 obtain ⟨H25, S26, i27, at28⟩ := S24.sealBox (i := 0) (l' := l) rfl rfl
 refine FL.v (E.assign (v := Value.int .i64 0) rfl) ?_
 refine FL.nil (FW.seq (FW.region ?_))
 refine FL.v (E.fieldAddr tf30_1 rfl) ?_
 refine FL.v (E.load rfl (run_load1 Tryz.isAgg22 (at28.now S26.sl) rfl)) ?_
 refine FL.v (E.move (v := Value.int .i64 a1) rfl) ?_
 refine FL.call rfl rfl rfl (E.call Tryz.call90 (A2 rfl rfl)) (w_laws_markIntSS S26 hs0 v0 a0.clauses c0 (n0.mono (up_mono i27)) a1) ?_
 rintro e w30 ⟨H29, c34, rfl, S31, h32, hb35, o33⟩
 refine ⟨_, rfl, ?_⟩
 refine FL.v (E.assign (v := Value.int .i64 ((PF.laws_markIntSS a0.clauses a1).2)) rfl) ?_
 refine FL.nil (FW.seq (FW.region ?_))
 refine FL.v (E.move (v := Value.int .i64 ((PF.laws_markIntSS a0.clauses a1).2)) rfl) ?_
 refine FL.v (E.assign (v := Value.int .i64 ((PF.laws_markIntSS a0.clauses a1).2)) rfl) ?_
 refine FL.nil ?_
 refine FW.ret ?_
 exact ⟨.inr rfl, res1 rfl rfl ⟨_, _, rfl, S31, h32, hb35, fun b q1 q2 o ho => o33 b q1 q2 o (i27 b o ho)⟩⟩

theorem w_laws_markResStepS {H0 Ha : GH} {w0 wa : World} {l : List MO} (S0 : St H0 w0 Ha wa l) (hs0 : Sl H0 w0) (v0 : Value) (a0 : List ResStep) (c0 : List Value) (n0 : Nest (up w0.heap.size Ha) eResStep 4 v0 a0 c0) (a1 : Int) :
  Calls Tryz.prog 21 #[v0, Value.int .i64 a1] wa (M2 H0 w0 Ha l eResStep 4 v0 c0 (PF.laws_markResStepS a0 a1)) := by
 have hln := n0.rsl.ln
 have hle := n0.rsl.le
 refine calls_go (N := 41) (args := [v0, Value.int .i64 a1]) Tryz.func21 rfl rfl rfl ?_
 refine FW.seq (FW.region ?_)
 refine FL.v (E.assign (v := Value.int .i64 0) rfl) ?_
 refine FL.nil (FW.seq (FW.seq (FW.region ?_)))
 refine FL.v (E.assign (v := Value.int .i64 0) rfl) ?_
 refine FL.nil (FW.block ?_)
 refine FW.mono (FW.mark (F := fun y m => ((ResStep.mk ((PF.laws_markIntS y.clause m).1) ((PF.laws_markIntS y.clause m).2) (wr ((PF.laws_markIntS y.clause m).2 + 1)) (wr ((wr ((PF.laws_markIntS y.clause m).2 + 1)) + 1))), (wr ((wr ((wr ((PF.laws_markIntS y.clause m).2 + 1)) + 1)) + 1)))) (a0 := a0) (k0 := a1) (fun (i : Nat) (xs : List ResStep) (k : Int) f w => ∃ (H : GH) (c : List Value), St H0 w0 H w l ∧ Nest (up w0.heap.size H) eResStep 4 v0 xs c ∧ bl c = bl c0 ∧ (∀ b, b ∉ bl [v0] → b ∉ bl c0 → H b = Ha b) ∧ f 0 = v0 ∧ f 1 = Value.int .i64 k ∧ f 5 = Value.int .i64 ((i : Nat) : Int)) (fun e f w => e = Exit.exit 0 ∧ ∃ (H : GH) (c : List Value), St H0 w0 H w l ∧ Nest (up w0.heap.size H) eResStep 4 v0 (markFrom (fun y m => ((ResStep.mk ((PF.laws_markIntS y.clause m).1) ((PF.laws_markIntS y.clause m).2) (wr ((PF.laws_markIntS y.clause m).2 + 1)) (wr ((wr ((PF.laws_markIntS y.clause m).2 + 1)) + 1))), (wr ((wr ((wr ((PF.laws_markIntS y.clause m).2 + 1)) + 1)) + 1)))) a0 a1).1 c ∧ bl c = bl c0 ∧ (∀ b, b ∉ bl [v0] → b ∉ bl c0 → H b = Ha b) ∧ f 0 = v0 ∧ f 1 = Value.int .i64 (markFrom (fun y m => ((ResStep.mk ((PF.laws_markIntS y.clause m).1) ((PF.laws_markIntS y.clause m).2) (wr ((PF.laws_markIntS y.clause m).2 + 1)) (wr ((wr ((PF.laws_markIntS y.clause m).2 + 1)) + 1))), (wr ((wr ((wr ((PF.laws_markIntS y.clause m).2 + 1)) + 1)) + 1)))) a0 a1).2) ⟨_, _, S0, n0, rfl, fun _ _ _ => rfl, rfl, rfl, rfl⟩ ?_ ?_) ?_
 ·
  rintro i y xs m f1 w1 ⟨H1, c1, S1, n1, hb, ho, kv, kk, kc⟩ hx hy
  obtain ⟨p, hpt, wr0, hB, hr, nd⟩ := n1.begin hy (by decide)
  obtain ⟨u0, hci, hu0⟩ := eResStep_open hr
  have rd := wr0.opens hci
  refine FW.seq (FW.seq (FW.region ?_))
  refine FL.v (E.move kc) ?_
  refine FL.v (E.move kv) ?_
  refine FL.v (E.len te27 rfl hln) ?_
  refine FL.v (E.lssT rfl rfl (lss_len hx)) ?_
  refine FL.nil ?_
  refine FW.condT rfl rfl ?_
  refine FW.skip (FW.seq (FW.block (FW.seq (FW.region ?_))))
  refine FL.v (E.move kv) ?_
  refine FL.v (E.move kc) ?_
  refine FL.v (E.indexAddr te27 rfl rfl hpt) ?_
  refine FL.v (E.fieldAddr tf98_0 rfl) ?_
  refine FL.v (E.load rfl (run_load1 Tryz.isAgg25 (rd.now S1.sl) rfl)) ?_
  refine FL.v (E.move kk) ?_
  refine FL.call rfl rfl rfl (E.call Tryz.call20 (A2 rfl rfl)) (w_laws_markIntS S1 hs0 u0 y.clause hu0 m) ?_
  rintro e w22 ⟨H21, rfl, S23, h24, o25⟩
  refine ⟨_, rfl, ?_⟩
  have wr26 := rd.inner (j := 0) rfl o25
  refine FL.v (E.assign (v := Value.int .i64 ((PF.laws_markIntS y.clause m).2)) rfl) ?_
  refine FL.nil (FW.seq (FW.region ?_))
  refine FL.v (E.move kv) ?_
  refine FL.v (E.move kc) ?_
  refine FL.v (E.move (v := Value.int .i64 ((PF.laws_markIntS y.clause m).2)) rfl) ?_
  refine FL.v (E.indexAddr te27 rfl rfl hpt) ?_
  refine FL.v (E.fieldAddr tf98_1 rfl) ?_
  obtain ⟨w27, H28, run30, S29, wr31, o32⟩ := wr26.poke (P := Tryz.prog) (t := 3) (u := Value.int .i64 ((PF.laws_markIntS y.clause m).2)) S23 hs0 hB (j := 1) rfl rfl rfl Tryz.sizeOf3 rfl rfl (c2 := [u0, Value.int .i64 ((PF.laws_markIntS y.clause m).2), Value.int .i64 y.right, Value.int .i64 y.pivot]) rfl
  have h33 := wr26.kept (j := 0) rfl h24 eI_flat o32
  refine FL.act rfl rfl (E.store rfl rfl run30) ?_
  refine FL.nil (FW.seq (FW.region ?_))
  refine FL.v (E.move (v := Value.int .i64 ((PF.laws_markIntS y.clause m).2)) rfl) ?_
  refine FL.v (E.add rfl rfl) ?_
  refine FL.v (E.assign (v := Value.int .i64 (wr ((PF.laws_markIntS y.clause m).2 + 1))) rfl) ?_
  refine FL.nil (FW.seq (FW.region ?_))
  refine FL.v (E.move kv) ?_
  refine FL.v (E.move kc) ?_
  refine FL.v (E.move (v := Value.int .i64 (wr ((PF.laws_markIntS y.clause m).2 + 1))) rfl) ?_
  refine FL.v (E.indexAddr te27 rfl rfl hpt) ?_
  refine FL.v (E.fieldAddr tf98_2 rfl) ?_
  obtain ⟨w34, H35, run37, S36, wr38, o39⟩ := wr31.poke (P := Tryz.prog) (t := 3) (u := Value.int .i64 (wr ((PF.laws_markIntS y.clause m).2 + 1))) S29 hs0 hB (j := 2) rfl rfl rfl Tryz.sizeOf3 rfl rfl (c2 := [u0, Value.int .i64 ((PF.laws_markIntS y.clause m).2), Value.int .i64 (wr ((PF.laws_markIntS y.clause m).2 + 1)), Value.int .i64 y.pivot]) rfl
  have h40 := wr31.kept (j := 0) rfl h33 eI_flat o39
  refine FL.act rfl rfl (E.store rfl rfl run37) ?_
  refine FL.nil (FW.seq (FW.region ?_))
  refine FL.v (E.move (v := Value.int .i64 (wr ((PF.laws_markIntS y.clause m).2 + 1))) rfl) ?_
  refine FL.v (E.add rfl rfl) ?_
  refine FL.v (E.assign (v := Value.int .i64 (wr ((wr ((PF.laws_markIntS y.clause m).2 + 1)) + 1))) rfl) ?_
  refine FL.nil (FW.seq (FW.region ?_))
  refine FL.v (E.move kv) ?_
  refine FL.v (E.move kc) ?_
  refine FL.v (E.move (v := Value.int .i64 (wr ((wr ((PF.laws_markIntS y.clause m).2 + 1)) + 1))) rfl) ?_
  refine FL.v (E.indexAddr te27 rfl rfl hpt) ?_
  refine FL.v (E.fieldAddr tf98_3 rfl) ?_
  obtain ⟨w41, H42, run44, S43, wr45, o46⟩ := wr38.poke (P := Tryz.prog) (t := 3) (u := Value.int .i64 (wr ((wr ((PF.laws_markIntS y.clause m).2 + 1)) + 1))) S36 hs0 hB (j := 3) rfl rfl rfl Tryz.sizeOf3 rfl rfl (c2 := [u0, Value.int .i64 ((PF.laws_markIntS y.clause m).2), Value.int .i64 (wr ((PF.laws_markIntS y.clause m).2 + 1)), Value.int .i64 (wr ((wr ((PF.laws_markIntS y.clause m).2 + 1)) + 1))]) rfl
  have h47 := wr38.kept (j := 0) rfl h40 eI_flat o46
  refine FL.act rfl rfl (E.store rfl rfl run44) ?_
  refine FL.nil (FW.region ?_)
  refine FL.v (E.move (v := Value.int .i64 (wr ((wr ((PF.laws_markIntS y.clause m).2 + 1)) + 1))) rfl) ?_
  refine FL.v (E.add rfl rfl) ?_
  refine FL.v (E.assign (v := Value.int .i64 (wr ((wr ((wr ((PF.laws_markIntS y.clause m).2 + 1)) + 1)) + 1))) rfl) ?_
  refine FL.nil (FW.region ?_)
  refine FL.v (E.move kc) ?_
  refine FL.v (E.add rfl rfl) ?_
  refine FL.v (E.assign (v := Value.int .i64 (wr (((i : Nat) : Int) + 1))) rfl) ?_
  refine FL.nil ?_
  obtain ⟨c2, n2, hb2, ho2⟩ := n1.round eResStep_loc hy (by decide) hpt wr45 (y' := (ResStep.mk ((PF.laws_markIntS y.clause m).1) ((PF.laws_markIntS y.clause m).2) (wr ((PF.laws_markIntS y.clause m).2 + 1)) (wr ((wr ((PF.laws_markIntS y.clause m).2 + 1)) + 1)))) ⟨_, rfl, h47⟩
  exact ⟨rfl, _, _, S43, n2, hb2.trans hb, fun b q1 q2 => (ho2 b q1 (by rw [hb]; exact q2)).trans (ho b q1 q2), kv, rfl, nat_succ rfl (lt_of_get hx) hle⟩
 ·
  rintro f1 w1 ⟨H1, c1, S1, n1, hb, ho, kv, kk, kc⟩
  refine FW.seq (FW.seq (FW.region ?_))
  refine FL.v (E.move kc) ?_
  refine FL.v (E.move kv) ?_
  refine FL.v (E.len te27 rfl hln) ?_
  refine FL.v (E.lss rfl rfl) ?_
  refine FL.nil ?_
  refine FW.condF rfl dlt_len ?_
  refine FW.exit ?_
  exact ⟨nofun, rfl, _, _, S1, n1, hb, ho, kv, kk⟩
 ·
  rintro e f2 w2 ⟨rfl, H2, c2, S2, n2, hb, ho, kv, kk⟩
  refine FW.seq (FW.region ?_)
  refine FL.v (E.move kk) ?_
  refine FL.v (E.assign (v := Value.int .i64 ((markFrom (fun y m => ((ResStep.mk ((PF.laws_markIntS y.clause m).1) ((PF.laws_markIntS y.clause m).2) (wr ((PF.laws_markIntS y.clause m).2 + 1)) (wr ((wr ((PF.laws_markIntS y.clause m).2 + 1)) + 1))), (wr ((wr ((wr ((PF.laws_markIntS y.clause m).2 + 1)) + 1)) + 1)))) a0 a1).2)) rfl) ?_
  refine FL.nil ?_
  refine FW.ret ?_
  exact ⟨.inr rfl, res1 rfl rfl ⟨_, _, rfl, S2, n2, hb, fun b q1 q2 => weak (F := fun b => b ∉ bl [v0] ∧ b ∉ bl c0) (fun b q => ho b q.1 q.2) b ⟨q1, q2⟩⟩⟩

theorem w_laws_heldIntS {Ha : GH} {wa : World} (hs : Sl Ha wa) (v0 : Value) (a0 : List Int) (p0 : RSl Ha eI 1 v0 a0) (a1 : Int) {r : Int} (hp : (PF.laws_heldIntS a0 a1) = some r) :
  Calls Tryz.prog 91 #[v0, Value.int .i64 a1] wa (Sc Ha wa (Value.int .i64 r)) := by
 unfold PF.laws_heldIntS at hp
 have S0 := St.init hs
 refine calls_go (N := 21) (args := [v0, Value.int .i64 a1]) Tryz.func91 rfl rfl rfl ?_
 refine FW.seq (FW.region ?_)
 refine FL.v (E.assign (v := Value.int .i64 0) rfl) ?_
 refine FL.nil (FW.seq (FW.seq (FW.region ?_)))
 refine FL.v (E.assign (v := Value.int .i64 0) rfl) ?_
 refine FL.nil ?_
 obtain ⟨q22, hq, hp⟩ := bndR hp
 refine FW.block ?_
 refine FW.mono (FW.forL (S := Int) (X := Int) (fun (i22 : Nat) (s22 : Int) f w => ∃ H : GH, St Ha wa H w [] ∧ Inc Ha H ∧ f 5 = Value.int .i64 ((i22 : Nat) : Int) ∧ f 0 = v0 ∧ f 1 = Value.int .i64 s22) (fun q e f w => match q with | .go s22 => e = Exit.exit 0 ∧ (∃ H : GH, St Ha wa H w [] ∧ Inc Ha H ∧ f 1 = Value.int .i64 s22) | .rt x => ((e = Exit.ret) ∧ (fun e f w => (e = Exit.normal ∨ e = Exit.ret) ∧ ∀ a, Fr (δ := []) 21 a f → ∃ v, (results Tryz.f91 a.tmps).run Tryz.prog w = .ok v w ∧ (Sc Ha wa (Value.int .i64 x)) (.returned v) w) e f w)) hq ⟨_, S0, (Inc.rfl _), rfl, rfl, rfl⟩ ?_ ?_) ?_
 ·
  clear hp hq
  rintro i22 y21 s22 f42 w41 ⟨H38, S39, i40, k43, k44, k45⟩ hx22 o53 hp
  refine FW.seq (FW.seq (FW.region ?_))
  refine FL.v (E.move k43) ?_
  refine FL.v (E.move k44) ?_
  refine FL.v (E.lenP te25 rfl p0) ?_
  refine FL.v (E.lssT rfl rfl (lss_len hx22)) ?_
  refine FL.nil ?_
  refine FW.condT rfl rfl ?_
  refine FW.skip (FW.seq (FW.block (FW.seq (FW.seq (FW.region ?_)))))
  refine FL.v (E.move k44) ?_
  refine FL.v (E.move k43) ?_
  obtain ⟨p46, cs47, pt48, l49, at50, rel51⟩ := p0.at (ix_nat hx22)
  obtain rfl := eI_open rel51
  refine FL.v (E.indexAddr te25 rfl rfl pt48) ?_
  refine FL.v (E.load rfl (run_load0 Tryz.isAgg3 ((at50.mono i40).now S39.sl) rfl)) ?_
  refine FL.v (E.move k45) ?_
  refine FL.v (E.neq rfl rfl) ?_
  refine FL.nil ?_
  rcases ifB hp with ⟨c52, hp⟩ | ⟨c52, hp⟩
  ·
   refine FW.condT rfl c52 ?_
   refine FW.seq (FW.region ?_)
   refine FL.v (E.assign (v := Value.int .i64 (-1)) rfl) ?_
   refine FL.nil ?_
   refine FW.ret ?_
   obtain rfl := Option.some.inj hp
   exact ⟨nofun, rfl, ⟨.inr rfl, res1 rfl rfl ⟨rfl, S39.back⟩⟩⟩
  ·
   refine FW.condF rfl c52 ?_
   refine FW.skip (FW.region ?_)
   refine FL.v (E.move k45) ?_
   refine FL.v (E.add rfl rfl) ?_
   refine FL.v (E.assign (v := Value.int .i64 (wr (s22 + 1))) rfl) ?_
   refine FL.nil (FW.region ?_)
   refine FL.v (E.move k43) ?_
   refine FL.v (E.add rfl rfl) ?_
   refine FL.v (E.assign (v := Value.int .i64 (wr (((i22 : Nat) : Int) + 1))) rfl) ?_
   refine FL.nil ?_
   obtain rfl := Option.some.inj hp
   exact ⟨rfl, ⟨_, S39, i40, (nat_succ rfl (lt_of_get hx22) (p0.mono i40).le), k44, rfl⟩⟩
 ·
  clear hp hq
  rintro s22 f64 w63 ⟨H60, S61, i62, k65, k66, k67⟩
  refine FW.seq (FW.seq (FW.region ?_))
  refine FL.v (E.move k65) ?_
  refine FL.v (E.move k66) ?_
  refine FL.v (E.lenP te25 rfl p0) ?_
  refine FL.v (E.lss rfl rfl) ?_
  refine FL.nil ?_
  refine FW.condF rfl dlt_len ?_
  refine FW.exit ?_
  exact ⟨nofun, rfl, ⟨_, S61, i62, k67⟩⟩
 ·
  clear hq
  intro e f58 w57 hD
  rcases q22 with s22 | x22
  ·
   obtain ⟨rfl, hD⟩ := hD
   obtain ⟨H54, S55, i56, k59⟩ := hD
   replace hp := el_go hp
   refine FW.seq (FW.region ?_)
   refine FL.v (E.move k59) ?_
   refine FL.v (E.assign (v := Value.int .i64 s22) rfl) ?_
   refine FL.nil ?_
   refine FW.ret ?_
   obtain rfl := Option.some.inj hp
   exact ⟨.inr rfl, res1 rfl rfl ⟨rfl, S55.back⟩⟩
  ·
   obtain ⟨he, hL⟩ := hD
   replace hp := el_rt hp
   obtain rfl := Option.some.inj hp
   subst he
   exact hL

set_option maxHeartbeats 4000000 in
theorem w_laws_heldResStepS {Ha : GH} {wa : World} (hs : Sl Ha wa) (v0 : Value) (a0 : List ResStep) (p0 : RSl Ha eResStep 4 v0 a0) (a1 : Int) {r : Int} (hp : (PF.laws_heldResStepS a0 a1) = some r) :
  Calls Tryz.prog 22 #[v0, Value.int .i64 a1] wa (Sc Ha wa (Value.int .i64 r)) := by
 unfold PF.laws_heldResStepS at hp
 have S0 := St.init hs
 refine calls_go (N := 49) (args := [v0, Value.int .i64 a1]) Tryz.func22 rfl rfl rfl ?_
 refine FW.seq (FW.region ?_)
 refine FL.v (E.assign (v := Value.int .i64 0) rfl) ?_
 refine FL.nil (FW.seq (FW.seq (FW.region ?_)))
 refine FL.v (E.assign (v := Value.int .i64 0) rfl) ?_
 refine FL.nil ?_
 obtain ⟨q22, hq, hp⟩ := bndR hp
 refine FW.block ?_
 refine FW.mono (FW.forL (S := Int) (X := Int) (fun (i22 : Nat) (s22 : Int) f w => ∃ H : GH, St Ha wa H w [] ∧ Inc Ha H ∧ f 5 = Value.int .i64 ((i22 : Nat) : Int) ∧ f 0 = v0 ∧ f 1 = Value.int .i64 s22) (fun q e f w => match q with | .go s22 => e = Exit.exit 0 ∧ (∃ H : GH, St Ha wa H w [] ∧ Inc Ha H ∧ f 1 = Value.int .i64 s22) | .rt x => ((e = Exit.ret) ∧ (fun e f w => (e = Exit.normal ∨ e = Exit.ret) ∧ ∀ a, Fr (δ := []) 49 a f → ∃ v, (results Tryz.f22 a.tmps).run Tryz.prog w = .ok v w ∧ (Sc Ha wa (Value.int .i64 x)) (.returned v) w) e f w)) hq ⟨_, S0, (Inc.rfl _), rfl, rfl, rfl⟩ ?_ ?_) ?_
 ·
  clear hp hq
  rintro i22 y21 s22 f76 w75 ⟨H72, S73, i74, k77, k78, k79⟩ hx22 o121 hp
  refine FW.seq (FW.seq (FW.region ?_))
  refine FL.v (E.move k77) ?_
  refine FL.v (E.move k78) ?_
  refine FL.v (E.lenP te27 rfl p0) ?_
  refine FL.v (E.lssT rfl rfl (lss_len hx22)) ?_
  refine FL.nil ?_
  refine FW.condT rfl rfl ?_
  refine FW.skip (FW.seq (FW.block (FW.seq (FW.region ?_))))
  refine FL.v (E.move k78) ?_
  refine FL.v (E.move k77) ?_
  obtain ⟨p80, cs81, pt82, l83, at84, rel85⟩ := p0.at (ix_nat hx22)
  obtain ⟨v86, rfl, h87⟩ := eResStep_open rel85
  refine FL.v (E.indexAddr te27 rfl rfl pt82) ?_
  refine FL.v (E.fieldAddr tf98_0 rfl) ?_
  refine FL.v (E.load rfl (run_load1 Tryz.isAgg25 ((at84.mono i74).now S73.sl) rfl)) ?_
  refine FL.v (E.move k79) ?_
  obtain ⟨r88, hr89, hp⟩ := bnd hp
  refine FL.call rfl rfl rfl (E.call Tryz.call91 (A2 rfl rfl)) (w_laws_heldIntS S73.sl v86 y21.clause (h87.mono i74) s22 hr89) ?_
  rintro e w90 ⟨rfl, r91⟩
  refine ⟨_, rfl, ?_⟩
  have S92 := S73.call r91
  refine FL.v (E.assign (v := Value.int .i64 r88) rfl) ?_
  refine FL.nil (FW.seq (FW.seq (FW.region ?_)))
  refine FL.v (E.move (v := Value.int .i64 r88) rfl) ?_
  refine FL.v (E.lss rfl rfl) ?_
  refine FL.nil ?_
  rcases ifB hp with ⟨c93, hp⟩ | ⟨c93, hp⟩
  ·
   refine FW.condT rfl c93 ?_
   refine FW.seq (FW.region ?_)
   refine FL.v (E.assign (v := Value.int .i64 (-1)) rfl) ?_
   refine FL.nil ?_
   refine FW.ret ?_
   obtain rfl := Option.some.inj hp
   exact ⟨nofun, rfl, ⟨.inr rfl, res1 rfl rfl ⟨rfl, S92.back⟩⟩⟩
  ·
   refine FW.condF rfl c93 ?_
   refine FW.skip (FW.seq (FW.seq (FW.region ?_)))
   refine FL.v (E.move k78) ?_
   refine FL.v (E.move k77) ?_
   obtain ⟨p94, cs95, pt96, l97, at98, rel99⟩ := p0.at (ix_nat hx22)
   obtain ⟨v100, rfl, h101⟩ := eResStep_open rel99
   refine FL.v (E.indexAddr te27 rfl rfl pt96) ?_
   refine FL.v (E.fieldAddr tf98_1 rfl) ?_
   refine FL.v (E.load rfl (run_load1 Tryz.isAgg3 ((at98.mono i74).now S92.sl) rfl)) ?_
   refine FL.v (E.move (v := Value.int .i64 r88) rfl) ?_
   refine FL.v (E.neq rfl rfl) ?_
   refine FL.nil ?_
   rcases ifB hp with ⟨c102, hp⟩ | ⟨c102, hp⟩
   ·
    refine FW.condT rfl c102 ?_
    refine FW.seq (FW.region ?_)
    refine FL.v (E.assign (v := Value.int .i64 (-1)) rfl) ?_
    refine FL.nil ?_
    refine FW.ret ?_
    obtain rfl := Option.some.inj hp
    exact ⟨nofun, rfl, ⟨.inr rfl, res1 rfl rfl ⟨rfl, S92.back⟩⟩⟩
   ·
    refine FW.condF rfl c102 ?_
    refine FW.skip (FW.seq (FW.region ?_))
    refine FL.v (E.move (v := Value.int .i64 r88) rfl) ?_
    refine FL.v (E.add rfl rfl) ?_
    refine FL.v (E.assign (v := Value.int .i64 (wr (r88 + 1))) rfl) ?_
    refine FL.nil (FW.seq (FW.seq (FW.region ?_)))
    refine FL.v (E.move k78) ?_
    refine FL.v (E.move k77) ?_
    obtain ⟨p103, cs104, pt105, l106, at107, rel108⟩ := p0.at (ix_nat hx22)
    obtain ⟨v109, rfl, h110⟩ := eResStep_open rel108
    refine FL.v (E.indexAddr te27 rfl rfl pt105) ?_
    refine FL.v (E.fieldAddr tf98_2 rfl) ?_
    refine FL.v (E.load rfl (run_load1 Tryz.isAgg3 ((at107.mono i74).now S92.sl) rfl)) ?_
    refine FL.v (E.move (v := Value.int .i64 (wr (r88 + 1))) rfl) ?_
    refine FL.v (E.neq rfl rfl) ?_
    refine FL.nil ?_
    rcases ifB hp with ⟨c111, hp⟩ | ⟨c111, hp⟩
    ·
     refine FW.condT rfl c111 ?_
     refine FW.seq (FW.region ?_)
     refine FL.v (E.assign (v := Value.int .i64 (-1)) rfl) ?_
     refine FL.nil ?_
     refine FW.ret ?_
     obtain rfl := Option.some.inj hp
     exact ⟨nofun, rfl, ⟨.inr rfl, res1 rfl rfl ⟨rfl, S92.back⟩⟩⟩
    ·
     refine FW.condF rfl c111 ?_
     refine FW.skip (FW.seq (FW.region ?_))
     refine FL.v (E.move (v := Value.int .i64 (wr (r88 + 1))) rfl) ?_
     refine FL.v (E.add rfl rfl) ?_
     refine FL.v (E.assign (v := Value.int .i64 (wr ((wr (r88 + 1)) + 1))) rfl) ?_
     refine FL.nil (FW.seq (FW.seq (FW.region ?_)))
     refine FL.v (E.move k78) ?_
     refine FL.v (E.move k77) ?_
     obtain ⟨p112, cs113, pt114, l115, at116, rel117⟩ := p0.at (ix_nat hx22)
     obtain ⟨v118, rfl, h119⟩ := eResStep_open rel117
     refine FL.v (E.indexAddr te27 rfl rfl pt114) ?_
     refine FL.v (E.fieldAddr tf98_3 rfl) ?_
     refine FL.v (E.load rfl (run_load1 Tryz.isAgg3 ((at116.mono i74).now S92.sl) rfl)) ?_
     refine FL.v (E.move (v := Value.int .i64 (wr ((wr (r88 + 1)) + 1))) rfl) ?_
     refine FL.v (E.neq rfl rfl) ?_
     refine FL.nil ?_
     rcases ifB hp with ⟨c120, hp⟩ | ⟨c120, hp⟩
     ·
      refine FW.condT rfl c120 ?_
      refine FW.seq (FW.region ?_)
      refine FL.v (E.assign (v := Value.int .i64 (-1)) rfl) ?_
      refine FL.nil ?_
      refine FW.ret ?_
      obtain rfl := Option.some.inj hp
      exact ⟨nofun, rfl, ⟨.inr rfl, res1 rfl rfl ⟨rfl, S92.back⟩⟩⟩
     ·
      refine FW.condF rfl c120 ?_
      refine FW.skip (FW.region ?_)
      refine FL.v (E.move (v := Value.int .i64 (wr ((wr (r88 + 1)) + 1))) rfl) ?_
      refine FL.v (E.add rfl rfl) ?_
      refine FL.v (E.assign (v := Value.int .i64 (wr ((wr ((wr (r88 + 1)) + 1)) + 1))) rfl) ?_
      refine FL.nil (FW.region ?_)
      refine FL.v (E.move k77) ?_
      refine FL.v (E.add rfl rfl) ?_
      refine FL.v (E.assign (v := Value.int .i64 (wr (((i22 : Nat) : Int) + 1))) rfl) ?_
      refine FL.nil ?_
      obtain rfl := Option.some.inj hp
      exact ⟨rfl, ⟨_, S92, i74, (nat_succ rfl (lt_of_get hx22) (p0.mono i74).le), k78, rfl⟩⟩
 ·
  clear hp hq
  rintro s22 f132 w131 ⟨H128, S129, i130, k133, k134, k135⟩
  refine FW.seq (FW.seq (FW.region ?_))
  refine FL.v (E.move k133) ?_
  refine FL.v (E.move k134) ?_
  refine FL.v (E.lenP te27 rfl p0) ?_
  refine FL.v (E.lss rfl rfl) ?_
  refine FL.nil ?_
  refine FW.condF rfl dlt_len ?_
  refine FW.exit ?_
  exact ⟨nofun, rfl, ⟨_, S129, i130, k135⟩⟩
 ·
  clear hq
  intro e f126 w125 hD
  rcases q22 with s22 | x22
  ·
   obtain ⟨rfl, hD⟩ := hD
   obtain ⟨H122, S123, i124, k127⟩ := hD
   replace hp := el_go hp
   refine FW.seq (FW.region ?_)
   refine FL.v (E.move k127) ?_
   refine FL.v (E.assign (v := Value.int .i64 s22) rfl) ?_
   refine FL.nil ?_
   refine FW.ret ?_
   obtain rfl := Option.some.inj hp
   exact ⟨.inr rfl, res1 rfl rfl ⟨rfl, S123.back⟩⟩
  ·
   obtain ⟨he, hL⟩ := hD
   replace hp := el_rt hp
   obtain rfl := Option.some.inj hp
   subst he
   exact hL

set_option maxHeartbeats 4000000 in
theorem w_laws_FnExactNarrowRefutation {Ha : GH} {wa : World} (hs : Sl Ha wa) (a0 : Cnf) (v0_1 : Value) (p0_1 : RSl Ha (eL eI 1) 1 v0_1 a0.clauses) {r : Bool} (hp : (PF.laws_FnExactNarrowRefutation a0) = some r) :
  Calls Tryz.prog 4 #[Value.agg #[Value.int .i64 a0.vars, v0_1]] wa (Sc Ha wa (Value.bool r)) := by
 unfold PF.laws_FnExactNarrowRefutation at hp
 have S0 := St.init hs
 refine calls_go (N := 96) (args := [Value.agg #[Value.int .i64 a0.vars, v0_1]]) Tryz.func4 rfl rfl rfl ?_
 refine FW.seq (FW.region ?_)
 obtain ⟨w21, run22, S23, z24⟩ := S0.boxB (P := Tryz.prog) 24 [Value.int .i64 a0.vars, v0_1] (v := Value.agg #[Value.int .i64 a0.vars, v0_1]) rfl (ones_cons rfl (ones_cons p0_1.one ones_nil))
 refine FL.v (E.box rfl run22) ?_
 obtain ⟨H25, S26, i27, at28⟩ := S23.sealBoxB (i := 0) (l' := []) rfl rfl
 refine FL.v (E.assign (v := Value.bool false) rfl) ?_
 refine FL.nil (FW.seq (FW.region ?_))
 refine FL.v (E.assign (v := Value.int .i64 1048576) rfl) ?_
 refine FL.nil (FW.seq (FW.region ?_))
 refine FL.v (E.load rfl (run_loadA Tryz.isAgg24 Tryz.sizeOf24 ((at28.mono sgI).now S26.sl) rfl)) ?_
 refine FL.v (E.move (v := Value.int .i64 1048576) rfl) ?_
 obtain ⟨r29, hr30, hp⟩ := bnd hp
 refine FL.call rfl rfl rfl (E.call Tryz.call11 (A2 rfl rfl)) (w_laws_szCnf S26.sl a0 v0_1 (p0_1.mono i27) 1048576 hr30) ?_
 rintro e w31 ⟨rfl, r32⟩
 refine ⟨_, rfl, ?_⟩
 have S33 := S26.call r32
 have z34 := r32.bel.size
 refine FL.v (E.assign (v := Value.int .i64 r29) rfl) ?_
 refine FL.nil (FW.seq (FW.seq (FW.region ?_)))
 refine FL.v (E.move (v := Value.int .i64 r29) rfl) ?_
 refine FL.v (E.lss rfl rfl) ?_
 refine FL.nil ?_
 rcases ifB hp with ⟨c35, hp⟩ | ⟨c35, hp⟩
 ·
  refine FW.condT rfl c35 ?_
  refine FW.seq (FW.region ?_)
  refine FL.v (E.assign (v := Value.bool true) rfl) ?_
  refine FL.nil ?_
  refine FW.ret ?_
  obtain rfl := Option.some.inj hp
  exact ⟨.inr rfl, res1 rfl rfl ⟨rfl, S33.back⟩⟩
 ·
  refine FW.condF rfl c35 ?_
  refine FW.skip (FW.seq (FW.region ?_))
  refine FL.v (E.load rfl (run_loadA Tryz.isAgg24 Tryz.sizeOf24 ((at28.mono sgI).now S33.sl) rfl)) ?_
  obtain ⟨r36, hr37, hp⟩ := bnd hp
  refine FL.call rfl rfl rfl (E.call Tryz.call13 (A1 rfl)) (w_laws_toCnf S33.sl a0 v0_1 (p0_1.mono i27) hr37) ?_
  rintro e w39 ⟨H38, v42, rfl, r41, ⟨c45, ns44⟩⟩
  refine ⟨_, rfl, ?_⟩
  have h43 := ns44.rsl
  have nv46 : New H25 c45 := New.of_up S33.sl (fun b hb => ns44.dom b (.inr hb))
  have nv47 : New H25 [v42] := New.of_up S33.sl h43.dom
  have S40 := S33.call r41
  have z48 := r41.bel.size
  have h43 := h43.mono (sg_of S40.sl)
  have ns44 := ns44.mono (sg_of S40.sl)
  obtain ⟨r49, hr50, hp⟩ := bnd hp
  refine FL.call rfl rfl rfl (E.call Tryz.call23 (A1 rfl)) (w_spec_NarrowRefutation S40.sl r36 v42 (h43.mono sgI) hr50) ?_
  rintro e w52 ⟨H51, v55, n56, cs57, rfl, r54, els58, nd59⟩
  refine ⟨_, rfl, ?_⟩
  have nv60 : New H38 cs57 := New.of_up S40.sl els58.dom
  obtain ⟨H61, r62, i63, ns66, nv65⟩ := r54.sealRowN (i := 0) (l' := []) rfl els58 nd59 (by decide) rfl
  have h64 := ns66.rsl
  have S53 := S40.call r62.run
  have z67 := r62.run.bel.size
  have h64 := h64.mono (sg_of S53.sl)
  have ns66 := ns66.mono (sg_of S53.sl)
  refine FL.v (E.move (v := Value.tuple #[v55, Value.bool r49.2]) rfl) ?_
  refine FL.v (E.extract (i := 0) rfl rfl) ?_
  refine FL.v (E.extract (i := 1) rfl rfl) ?_
  refine FL.v (E.assign (v := v55) rfl) ?_
  refine FL.v (E.assign (v := Value.bool r49.2) rfl) ?_
  refine FL.nil (FW.seq (FW.region ?_))
  refine FL.v (E.load rfl (run_loadA Tryz.isAgg24 Tryz.sizeOf24 ((at28.mono (sgI.tr (r41.inc.tr r62.run.inc))).now S53.sl) rfl)) ?_
  obtain ⟨r68, hr69, hp⟩ := bnd hp
  refine FL.call rfl rfl rfl (E.call Tryz.call13 (A1 rfl)) (w_laws_toCnf S53.sl a0 v0_1 (p0_1.mono ((i27.tr r41.inc).tr r62.run.inc)) hr69) ?_
  rintro e w71 ⟨H70, v74, rfl, r73, ⟨c77, ns76⟩⟩
  refine ⟨_, rfl, ?_⟩
  have h75 := ns76.rsl
  have nv78 : New H61 c77 := New.of_up S53.sl (fun b hb => ns76.dom b (.inr hb))
  have nv79 : New H61 [v74] := New.of_up S53.sl h75.dom
  have S72 := S53.call r73
  have z80 := r73.bel.size
  have h75 := h75.mono (sg_of S72.sl)
  have ns76 := ns76.mono (sg_of S72.sl)
  obtain ⟨w81, run82, S83, z84⟩ := S72.allocB (P := Tryz.prog) 30 [Value.int .i64 0, Value.slice none 0 0] Tryz.zeroValue30 rfl (ones_cons rfl (ones_cons rfl ones_nil))
  refine FL.v (E.alloc run82) ?_
  obtain ⟨w85, run86, S87, z88⟩ := S83.store0B (P := Tryz.prog) (t := 30) (i := 0) (cs' := [Value.int .i64 r68.vars, v74]) (l' := [.box w71.heap.size 30 [Value.int .i64 r68.vars, v74]]) (v := Value.agg #[Value.int .i64 r68.vars, v74]) (c := [Value.int .i64 r68.vars, v74]) rfl Tryz.sizeOf30 rfl rfl (ones_cons rfl (ones_cons h75.one ones_nil)) (Nat.le_of_ble_eq_true rfl) rfl rfl
  refine FL.act rfl rfl (E.store rfl rfl run86) ?_
  obtain ⟨H89, S90, i91, at92⟩ := S87.sealBoxB (i := 0) (l' := []) rfl rfl
  refine FL.nil (FW.seq (FW.region ?_))
  refine FL.v (E.load rfl (run_loadA Tryz.isAgg30 Tryz.sizeOf30 ((at92.mono sgI).now S90.sl) rfl)) ?_
  obtain ⟨r93, hr94, hp⟩ := bnd hp
  refine FL.call rfl rfl rfl (E.call Tryz.call24 (A1 rfl)) (w_impl_NarrowRefutation S90.sl r68 v74 (h75.mono (sgI.tr i91)) hr94) ?_
  rintro e w96 ⟨H95, v99, n100, cs101, rfl, r98, els102, nd103⟩
  refine ⟨_, rfl, ?_⟩
  have nv104 : New H89 cs101 := New.of_up S90.sl els102.dom
  obtain ⟨H105, r106, i107, ns110, nv109⟩ := r98.sealRowN (i := 0) (l' := []) rfl els102 nd103 (by decide) rfl
  have h108 := ns110.rsl
  have S97 := S90.call r106.run
  have z111 := r106.run.bel.size
  have h108 := h108.mono (sg_of S97.sl)
  have ns110 := ns110.mono (sg_of S97.sl)
  refine FL.v (E.move (v := Value.tuple #[v99, Value.bool r93.2]) rfl) ?_
  refine FL.v (E.extract (i := 0) rfl rfl) ?_
  refine FL.v (E.extract (i := 1) rfl rfl) ?_
  refine FL.v (E.assign (v := v99) rfl) ?_
  refine FL.v (E.assign (v := Value.bool r93.2) rfl) ?_
  refine FL.nil (FW.seq (FW.seq (FW.region ?_)))
  refine FL.v (E.move (v := v99) rfl) ?_
  refine FL.v (E.move (v := v55) rfl) ?_
  obtain ⟨r112, hr113, hp⟩ := bnd hp
  refine FL.call rfl rfl rfl (E.call Tryz.call16 (A2 rfl rfl)) (w_laws_eqResStepS S97.sl v99 r93.1 (h108.mono sgI) v55 r49.1 (h64.mono (sgI.tr ((r73.inc.tr i91).tr r106.run.inc))) hr113) ?_
  rintro e w114 ⟨rfl, r115⟩
  refine ⟨_, rfl, ?_⟩
  have S116 := S97.call r115
  have z117 := r115.bel.size
  refine FL.v (E.not rfl) ?_
  refine FL.v (E.move (v := Value.bool (!r112)) rfl) ?_
  refine FL.cut 4 (fun f w => ∃ H : GH, St Ha wa H w [] ∧ Inc H105 H ∧ f 1 = Value.pointer (some ⟨wa.heap.size, 0, none⟩) ∧ f 4 = v55 ∧ f 5 = Value.bool r49.2 ∧ f 6 = Value.pointer (some ⟨w71.heap.size, 0, none⟩) ∧ f 7 = v99 ∧ f 8 = Value.bool r93.2 ∧ f 40 = Value.bool (bif (!r112) then true else (!(r93.2 == r49.2)))) ?_ ?_
  ·
   rcases bcase (!r112) with c124 | c124
   ·
    refine FL.skip (wF_no rfl rfl rfl c124) rfl ?_
    refine FL.skip (wF_no rfl rfl rfl c124) rfl ?_
    refine FL.skip (wF_no rfl rfl rfl c124) rfl ?_
    refine FL.v (E.pickT rfl c124 rfl) ?_
    exact FL.nil ⟨rfl, _, S116, (Inc.rfl _), rfl, rfl, rfl, rfl, rfl, rfl, (congrArg Value.bool (bifT c124).symm)⟩
   ·
    refine FL.val (wF_yes rfl rfl rfl c124) rfl rfl (E.move (v := Value.bool r93.2) rfl) ?_
    refine FL.val (wF_yes rfl rfl rfl c124) rfl rfl (E.move (v := Value.bool r49.2) rfl) ?_
    refine FL.val (wF_yes rfl rfl rfl c124) rfl rfl (E.neqB Tryz.runUnderlying4 rfl rfl) ?_
    refine FL.v (E.pickF rfl c124 rfl) ?_
    exact FL.nil ⟨rfl, _, S116, (Inc.rfl _), rfl, rfl, rfl, rfl, rfl, rfl, (congrArg Value.bool (bifF c124).symm)⟩
  rintro f123 w122 ⟨H119, S120, i121, k125, k126, k127, k128, k129, k130, k131⟩
  refine FL.nil ?_
  rcases ifB hp with ⟨c132, hp⟩ | ⟨c132, hp⟩
  ·
   refine FW.condT k131 c132 ?_
   refine FW.seq (FW.region ?_)
   refine FL.v (E.assign (v := Value.bool false) rfl) ?_
   refine FL.nil ?_
   refine FW.ret ?_
   obtain rfl := Option.some.inj hp
   exact ⟨.inr rfl, res1 rfl rfl ⟨rfl, S120.back⟩⟩
  ·
   refine FW.condF k131 c132 ?_
   refine FW.skip (FW.seq (FW.seq ?_))
   obtain ⟨r118, hr136, hp⟩ := bnd hp
   obtain ⟨r148, hr149, hp⟩ := bnd hp
   refine FW.drawB (Sl H119) (fun f w => ∃ H : GH, St Ha wa H w [] ∧ Inc H119 H ∧ f 1 = Value.pointer (some ⟨wa.heap.size, 0, none⟩) ∧ f 4 = v55 ∧ f 5 = Value.bool r49.2 ∧ f 6 = Value.pointer (some ⟨w71.heap.size, 0, none⟩) ∧ f 7 = v99 ∧ f 8 = Value.bool r93.2 ∧ f 45 = Value.bool (!r148)) (by kernel_rfl) S120.sl ?_ ?_
   ·
    intro w133 r134
    have S135 := S120.call r134
    refine FB.t (i := 0) (bs 5 1) rfl (SP.nil S135.sl) rfl (fun w' hw' => (E.load k128 (run_loadA Tryz.isAgg30 Tryz.sizeOf30 ((at92.mono (sgI.tr (r106.run.inc.tr i121))).now hw') rfl))) ?_
    refine FB.t (i := 1) (bs 5 3) rfl (SP.nil S135.sl) rfl (fun w' hw' => (E.load k125 (run_loadA Tryz.isAgg24 Tryz.sizeOf24 ((at28.mono (sgI.tr (((((r41.inc.tr r62.run.inc).tr r73.inc).tr i91).tr r106.run.inc).tr i121))).now hw') rfl))) ?_
    refine FB.all1 (i := 2) (by kernel_rfl) ?_
    ·
     refine FC.call (l' := (bs 5 7)) rfl (by kernel_rfl) rfl rfl rfl (E.call Tryz.call13 (A1 rfl)) (w_laws_toCnf S135.sl a0 v0_1 (p0_1.mono ((((((i27.tr r41.inc).tr r62.run.inc).tr r73.inc).tr i91).tr r106.run.inc).tr i121)) hr136) ?_
     rintro e w138 ⟨H137, v141, rfl, r140, ⟨c144, ns143⟩⟩
     refine ⟨_, rfl, ?_⟩
     have h142 := ns143.rsl
     have nv145 : New H119 c144 := New.of_up S135.sl (fun b hb => ns143.dom b (.inr hb))
     have nv146 : New H119 [v141] := New.of_up S135.sl h142.dom
     have S139 := S135.call r140
     have z147 := r140.bel.size
     have h142 := h142.mono (sg_of S139.sl)
     have ns143 := ns143.mono (sg_of S139.sl)
     refine ⟨(SP.nil (Sl.of_inc r140.inc S139.sl)), ?_⟩
     refine FB.all1 (i := 3) (by kernel_rfl) ?_
     ·
      refine FC.call (l' := (bs 5 15)) rfl (by kernel_rfl) rfl rfl rfl (E.call Tryz.call17 (A2 rfl rfl)) (w_laws_eqCnf S139.sl r68 v74 (h75.mono (sgI.tr (((i91.tr r106.run.inc).tr i121).tr r140.inc))) r118 v141 (h142.mono sgI) hr149) ?_
      rintro e w150 ⟨rfl, r151⟩
      refine ⟨_, rfl, ?_⟩
      have S152 := S139.call r151
      have z153 := r151.bel.size
      refine ⟨(SP.nil (Sl.of_inc r140.inc S152.sl)), ?_⟩
      refine FB.t (i := 4) (bs 5 31) rfl (SP.nil (Sl.of_inc r140.inc S152.sl)) rfl (fun w' hw' => (E.not rfl)) ?_
      exact FB.done (by kernel_rfl) ⟨_, S152, r140.inc, k125, k126, k127, k128, k129, k130, rfl⟩
   ·
    rintro f158 w157 ⟨H154, S155, i156, k159, k160, k161, k162, k163, k164, k165⟩
    rcases ifB hp with ⟨c166, hp⟩ | ⟨c166, hp⟩
    ·
     refine FW.condT k165 c166 ?_
     refine FW.seq (FW.region ?_)
     refine FL.v (E.assign (v := Value.bool false) rfl) ?_
     refine FL.nil ?_
     refine FW.ret ?_
     obtain rfl := Option.some.inj hp
     exact ⟨.inr rfl, res1 rfl rfl ⟨rfl, S155.back⟩⟩
    ·
     refine FW.condF k165 c166 ?_
     refine FW.skip (FW.seq (FW.region ?_))
     refine FL.v (E.assign (v := Value.int .i64 1) rfl) ?_
     refine FL.nil (FW.seq (FW.region ?_))
     refine FL.v (E.load k162 (run_loadA Tryz.isAgg30 Tryz.sizeOf30 ((at92.mono (sgI.tr ((r106.run.inc.tr i121).tr i156))).now S155.sl) rfl)) ?_
     refine FL.v (E.move (v := Value.int .i64 1) rfl) ?_
     refine FL.call rfl rfl rfl (E.call Tryz.call19 (A2 rfl rfl)) (w_laws_markCnf S155 hs r68 v74 c77 (ns76.mono (sg_up (by omega) (((i91.tr r106.run.inc).tr i121).tr i156))) 1) ?_
     rintro e w168 ⟨H167, c173, rfl, S169, ns175, hb174, o171⟩
     refine ⟨_, rfl, ?_⟩
     have o172 := (ns76.mono (sg_mono (hi := w71.heap.size) (((i91.tr r106.run.inc).tr i121).tr i156))).outside o171
     have ns175 := ns76.span (eL_loc eI_flat) (by omega) ns175 hb174
     have h170 := ns175.rsl
     have f176 := at28.mono ((sg_mono (lo := wa.heap.size) (hi := wa.heap.size + 1) ((((((r41.inc.tr r62.run.inc).tr r73.inc).tr i91).tr r106.run.inc).tr i121).tr i156)).tr (sg_keep o172 (by omega)))
     have f177 := h64.mono ((sg_mono (lo := w39.heap.size) (hi := w52.heap.size) ((((r73.inc.tr i91).tr r106.run.inc).tr i121).tr i156)).tr (sg_keep o172 (by omega)))
     have f178 := ns66.mono ((sg_mono (lo := w39.heap.size) (hi := w52.heap.size) ((((r73.inc.tr i91).tr r106.run.inc).tr i121).tr i156)).tr (sg_keep o172 (by omega)))
     have f179 := at92.mono ((sg_mono (lo := w71.heap.size) (hi := w71.heap.size + 1) ((r106.run.inc.tr i121).tr i156)).tr (sg_keep o172 (by omega)))
     have f180 := h108.mono ((sg_mono (lo := w85.heap.size) (hi := w96.heap.size) (i121.tr i156)).tr (sg_keep o172 (by omega)))
     have f181 := ns110.mono ((sg_mono (lo := w85.heap.size) (hi := w96.heap.size) (i121.tr i156)).tr (sg_keep o172 (by omega)))
     refine FL.v (E.assign (v := Value.int .i64 ((PF.laws_markCnf r68 1).2)) rfl) ?_
     refine FL.nil (FW.seq (FW.seq (FW.region ?_)))
     refine FL.v (E.move (v := Value.int .i64 ((PF.laws_markCnf r68 1).2)) rfl) ?_
     refine FL.v (E.lss rfl rfl) ?_
     refine FL.v (E.move (v := Value.bool (decide ((PF.laws_markCnf r68 1).2 < 0))) rfl) ?_
     obtain ⟨t182, hqt182, hp⟩ := bnd hp
     refine FL.cut 5 (fun f w => ∃ H : GH, St Ha wa H w [] ∧ Inc H167 H ∧ f 1 = Value.pointer (some ⟨wa.heap.size, 0, none⟩) ∧ f 4 = v55 ∧ f 5 = Value.bool r49.2 ∧ f 7 = v99 ∧ f 8 = Value.bool r93.2 ∧ f 56 = Value.bool t182) ?_ ?_
     ·
      clear hp; have hp := hqt182; clear hqt182
      rcases ifB hp with ⟨c188, hp⟩ | ⟨c188, hp⟩
      ·
       refine FL.skip (wF_no rfl rfl rfl c188) rfl ?_
       refine FL.skip (wF_no rfl rfl rfl c188) rfl ?_
       refine FL.skip (wF_no rfl rfl rfl c188) rfl ?_
       refine FL.skip (wF_no rfl rfl rfl c188) rfl ?_
       obtain rfl := Option.some.inj hp
       refine FL.v (E.pickT rfl c188 rfl) ?_
       exact FL.nil ⟨rfl, _, S169, (Inc.rfl _), k159, k160, k161, k163, k164, rfl⟩
      ·
       refine FL.val (wF_yes rfl rfl rfl c188) rfl rfl (E.move k163) ?_
       refine FL.val (wF_yes rfl rfl rfl c188) rfl rfl (E.move k160) ?_
       obtain ⟨r189, hr190, hp⟩ := bnd hp
       refine FL.call (wF_yes rfl rfl rfl c188) rfl rfl (E.call Tryz.call16 (A2 rfl rfl)) (w_laws_eqResStepS S169.sl v99 r93.1 (f180.mono sgI) v55 r49.1 (f177.mono sgI) hr190) ?_
       rintro e w191 ⟨rfl, r192⟩
       refine ⟨_, rfl, ?_⟩
       have S193 := S169.call r192
       have z194 := r192.bel.size
       refine FL.val (wF_yes rfl rfl rfl c188) rfl rfl (E.not rfl) ?_
       obtain rfl := Option.some.inj hp
       refine FL.v (E.pickF rfl c188 rfl) ?_
       exact FL.nil ⟨rfl, _, S193, (Inc.rfl _), k159, k160, k161, k163, k164, rfl⟩
     rintro f187 w186 ⟨H183, S184, i185, k195, k196, k197, k198, k199, k200⟩
     refine FL.v (E.move k200) ?_
     refine FL.cut 4 (fun f w => ∃ H : GH, St Ha wa H w [] ∧ Inc H183 H ∧ f 1 = Value.pointer (some ⟨wa.heap.size, 0, none⟩) ∧ f 4 = v55 ∧ f 5 = Value.bool r49.2 ∧ f 7 = v99 ∧ f 61 = Value.bool (bif t182 then true else (!(r93.2 == r49.2)))) ?_ ?_
     ·
      rcases bcase t182 with c206 | c206
      ·
       refine FL.skip (wF_no rfl rfl rfl c206) rfl ?_
       refine FL.skip (wF_no rfl rfl rfl c206) rfl ?_
       refine FL.skip (wF_no rfl rfl rfl c206) rfl ?_
       refine FL.v (E.pickT rfl c206 rfl) ?_
       exact FL.nil ⟨rfl, _, S184, (Inc.rfl _), k195, k196, k197, k198, (congrArg Value.bool (bifT c206).symm)⟩
      ·
       refine FL.val (wF_yes rfl rfl rfl c206) rfl rfl (E.move k199) ?_
       refine FL.val (wF_yes rfl rfl rfl c206) rfl rfl (E.move k197) ?_
       refine FL.val (wF_yes rfl rfl rfl c206) rfl rfl (E.neqB Tryz.runUnderlying4 rfl rfl) ?_
       refine FL.v (E.pickF rfl c206 rfl) ?_
       exact FL.nil ⟨rfl, _, S184, (Inc.rfl _), k195, k196, k197, k198, (congrArg Value.bool (bifF c206).symm)⟩
     rintro f205 w204 ⟨H201, S202, i203, k207, k208, k209, k210, k211⟩
     refine FL.nil ?_
     rcases ifB hp with ⟨c212, hp⟩ | ⟨c212, hp⟩
     ·
      refine FW.condT k211 c212 ?_
      refine FW.seq (FW.region ?_)
      refine FL.v (E.assign (v := Value.bool false) rfl) ?_
      refine FL.nil ?_
      refine FW.ret ?_
      obtain rfl := Option.some.inj hp
      exact ⟨.inr rfl, res1 rfl rfl ⟨rfl, S202.back⟩⟩
     ·
      refine FW.condF k211 c212 ?_
      refine FW.skip (FW.seq (FW.region ?_))
      refine FL.v (E.assign (v := Value.int .i64 1) rfl) ?_
      refine FL.nil (FW.seq (FW.region ?_))
      refine FL.v (E.move k210) ?_
      refine FL.v (E.move (v := Value.int .i64 1) rfl) ?_
      refine FL.call rfl rfl rfl (E.call Tryz.call21 (A2 rfl rfl)) (w_laws_markResStepS S202 hs v99 r93.1 cs101 (f181.mono (sg_up (by omega) (i185.tr i203))) 1) ?_
      rintro e w214 ⟨H213, c219, rfl, S215, ns221, hb220, o217⟩
      refine ⟨_, rfl, ?_⟩
      have o218 := (f181.mono (sg_mono (hi := w96.heap.size) (i185.tr i203))).outside o217
      have ns221 := f181.span eResStep_loc (by omega) ns221 hb220
      have h216 := ns221.rsl
      have f222 := f176.mono ((sg_mono (lo := wa.heap.size) (hi := wa.heap.size + 1) (i185.tr i203)).tr (sg_keep o218 (by omega)))
      have f223 := f177.mono ((sg_mono (lo := w39.heap.size) (hi := w52.heap.size) (i185.tr i203)).tr (sg_keep o218 (by omega)))
      have f224 := f178.mono ((sg_mono (lo := w39.heap.size) (hi := w52.heap.size) (i185.tr i203)).tr (sg_keep o218 (by omega)))
      refine FL.v (E.assign (v := Value.int .i64 ((PF.laws_markResStepS r93.1 1).2)) rfl) ?_
      refine FL.nil (FW.seq (FW.region ?_))
      refine FL.v (E.assign (v := Value.int .i64 1) rfl) ?_
      refine FL.nil (FW.seq (FW.region ?_))
      refine FL.v (E.move k210) ?_
      refine FL.v (E.move (v := Value.int .i64 1) rfl) ?_
      obtain ⟨r225, hr226, hp⟩ := bnd hp
      refine FL.call rfl rfl rfl (E.call Tryz.call22 (A2 rfl rfl)) (w_laws_heldResStepS S215.sl v99 ((PF.laws_markResStepS r93.1 1).1) (h216.mono sgI) 1 hr226) ?_
      rintro e w227 ⟨rfl, r228⟩
      refine ⟨_, rfl, ?_⟩
      have S229 := S215.call r228
      have z230 := r228.bel.size
      refine FL.v (E.assign (v := Value.int .i64 r225) rfl) ?_
      refine FL.nil (FW.seq (FW.seq (FW.region ?_)))
      refine FL.v (E.move (v := Value.int .i64 r225) rfl) ?_
      refine FL.v (E.lss rfl rfl) ?_
      refine FL.nil ?_
      rcases ifB hp with ⟨c231, hp⟩ | ⟨c231, hp⟩
      ·
       refine FW.condT rfl c231 ?_
       refine FW.seq (FW.region ?_)
       refine FL.v (E.assign (v := Value.bool false) rfl) ?_
       refine FL.nil ?_
       refine FW.ret ?_
       obtain rfl := Option.some.inj hp
       exact ⟨.inr rfl, res1 rfl rfl ⟨rfl, S229.back⟩⟩
      ·
       refine FW.condF rfl c231 ?_
       refine FW.skip (FW.seq (FW.seq (FW.region ?_)))
       refine FL.v (E.move (v := Value.int .i64 r225) rfl) ?_
       refine FL.v (E.move (v := Value.int .i64 ((PF.laws_markResStepS r93.1 1).2)) rfl) ?_
       refine FL.v (E.neq rfl rfl) ?_
       refine FL.nil ?_
       rcases ifB hp with ⟨c232, hp⟩ | ⟨c232, hp⟩
       ·
        refine FW.condT rfl c232 ?_
        refine FW.seq (FW.region ?_)
        refine FL.v (E.assign (v := Value.bool false) rfl) ?_
        refine FL.nil ?_
        refine FW.ret ?_
        obtain rfl := Option.some.inj hp
        exact ⟨.inr rfl, res1 rfl rfl ⟨rfl, S229.back⟩⟩
       ·
        refine FW.condF rfl c232 ?_
        refine FW.skip (FW.seq (FW.region ?_))
        refine FL.v (E.load k207 (run_loadA Tryz.isAgg24 Tryz.sizeOf24 ((f222.mono sgI).now S229.sl) rfl)) ?_
        obtain ⟨r233, hr234, hp⟩ := bnd hp
        refine FL.call rfl rfl rfl (E.call Tryz.call13 (A1 rfl)) (w_laws_toCnf S229.sl a0 v0_1 (p0_1.mono S215.inc) hr234) ?_
        rintro e w236 ⟨H235, v239, rfl, r238, ⟨c242, ns241⟩⟩
        refine ⟨_, rfl, ?_⟩
        have h240 := ns241.rsl
        have nv243 : New H213 c242 := New.of_up S229.sl (fun b hb => ns241.dom b (.inr hb))
        have nv244 : New H213 [v239] := New.of_up S229.sl h240.dom
        have S237 := S229.call r238
        have z245 := r238.bel.size
        have h240 := h240.mono (sg_of S237.sl)
        have ns241 := ns241.mono (sg_of S237.sl)
        obtain ⟨r246, hr247, hp⟩ := bnd hp
        refine FL.call rfl rfl rfl (E.call Tryz.call24 (A1 rfl)) (w_impl_NarrowRefutation S237.sl r233 v239 (h240.mono sgI) hr247) ?_
        rintro e w249 ⟨H248, v252, n253, cs254, rfl, r251, els255, nd256⟩
        refine ⟨_, rfl, ?_⟩
        have nv257 : New H235 cs254 := New.of_up S237.sl els255.dom
        obtain ⟨H258, r259, i260, ns263, nv262⟩ := r251.sealRowN (i := 0) (l' := []) rfl els255 nd256 (by decide) rfl
        have h261 := ns263.rsl
        have S250 := S237.call r259.run
        have z264 := r259.run.bel.size
        have h261 := h261.mono (sg_of S250.sl)
        have ns263 := ns263.mono (sg_of S250.sl)
        refine FL.v (E.move (v := Value.tuple #[v252, Value.bool r246.2]) rfl) ?_
        refine FL.v (E.extract (i := 0) rfl rfl) ?_
        refine FL.v (E.extract (i := 1) rfl rfl) ?_
        refine FL.v (E.assign (v := v252) rfl) ?_
        refine FL.v (E.assign (v := Value.bool r246.2) rfl) ?_
        refine FL.nil (FW.seq (FW.seq (FW.region ?_)))
        refine FL.v (E.move (v := v252) rfl) ?_
        refine FL.v (E.move k208) ?_
        obtain ⟨r265, hr266, hp⟩ := bnd hp
        refine FL.call rfl rfl rfl (E.call Tryz.call16 (A2 rfl rfl)) (w_laws_eqResStepS S250.sl v252 r246.1 (h261.mono sgI) v55 r49.1 (f223.mono (sgI.tr (r238.inc.tr r259.run.inc))) hr266) ?_
        rintro e w267 ⟨rfl, r268⟩
        refine ⟨_, rfl, ?_⟩
        have S269 := S250.call r268
        have z270 := r268.bel.size
        refine FL.v (E.not rfl) ?_
        refine FL.v (E.move (v := Value.bool (!r265)) rfl) ?_
        refine FL.cut 4 (fun f w => ∃ H : GH, St Ha wa H w [] ∧ Inc H258 H ∧ f 7 = v99 ∧ f 10 = Value.int .i64 ((PF.laws_markResStepS r93.1 1).2) ∧ f 87 = Value.bool (bif (!r265) then true else (!(r246.2 == r49.2)))) ?_ ?_
        ·
         rcases bcase (!r265) with c276 | c276
         ·
          refine FL.skip (wF_no rfl rfl rfl c276) rfl ?_
          refine FL.skip (wF_no rfl rfl rfl c276) rfl ?_
          refine FL.skip (wF_no rfl rfl rfl c276) rfl ?_
          refine FL.v (E.pickT rfl c276 rfl) ?_
          exact FL.nil ⟨rfl, _, S269, (Inc.rfl _), k210, rfl, (congrArg Value.bool (bifT c276).symm)⟩
         ·
          refine FL.val (wF_yes rfl rfl rfl c276) rfl rfl (E.move (v := Value.bool r246.2) rfl) ?_
          refine FL.val (wF_yes rfl rfl rfl c276) rfl rfl (E.move k209) ?_
          refine FL.val (wF_yes rfl rfl rfl c276) rfl rfl (E.neqB Tryz.runUnderlying4 rfl rfl) ?_
          refine FL.v (E.pickF rfl c276 rfl) ?_
          exact FL.nil ⟨rfl, _, S269, (Inc.rfl _), k210, rfl, (congrArg Value.bool (bifF c276).symm)⟩
        rintro f275 w274 ⟨H271, S272, i273, k277, k278, k279⟩
        refine FL.nil ?_
        rcases ifB hp with ⟨c280, hp⟩ | ⟨c280, hp⟩
        ·
         refine FW.condT k279 c280 ?_
         refine FW.seq (FW.region ?_)
         refine FL.v (E.assign (v := Value.bool false) rfl) ?_
         refine FL.nil ?_
         refine FW.ret ?_
         obtain rfl := Option.some.inj hp
         exact ⟨.inr rfl, res1 rfl rfl ⟨rfl, S272.back⟩⟩
        ·
         refine FW.condF k279 c280 ?_
         refine FW.skip (FW.seq (FW.region ?_))
         refine FL.v (E.assign (v := Value.int .i64 1) rfl) ?_
         refine FL.nil (FW.seq (FW.region ?_))
         refine FL.v (E.move k277) ?_
         refine FL.v (E.move (v := Value.int .i64 1) rfl) ?_
         obtain ⟨r281, hr282, hp⟩ := bnd hp
         refine FL.call rfl rfl rfl (E.call Tryz.call22 (A2 rfl rfl)) (w_laws_heldResStepS S272.sl v99 ((PF.laws_markResStepS r93.1 1).1) (h216.mono (sgI.tr ((r238.inc.tr r259.run.inc).tr i273))) 1 hr282) ?_
         rintro e w283 ⟨rfl, r284⟩
         refine ⟨_, rfl, ?_⟩
         have S285 := S272.call r284
         have z286 := r284.bel.size
         refine FL.v (E.assign (v := Value.int .i64 r281) rfl) ?_
         refine FL.nil (FW.seq (FW.seq (FW.region ?_)))
         refine FL.v (E.move (v := Value.int .i64 r281) rfl) ?_
         refine FL.v (E.lss rfl rfl) ?_
         refine FL.nil ?_
         rcases ifB hp with ⟨c287, hp⟩ | ⟨c287, hp⟩
         ·
          refine FW.condT rfl c287 ?_
          refine FW.seq (FW.region ?_)
          refine FL.v (E.assign (v := Value.bool false) rfl) ?_
          refine FL.nil ?_
          refine FW.ret ?_
          obtain rfl := Option.some.inj hp
          exact ⟨.inr rfl, res1 rfl rfl ⟨rfl, S285.back⟩⟩
         ·
          refine FW.condF rfl c287 ?_
          refine FW.skip (FW.seq (FW.seq (FW.region ?_)))
          refine FL.v (E.move (v := Value.int .i64 r281) rfl) ?_
          refine FL.v (E.move k278) ?_
          refine FL.v (E.neq rfl rfl) ?_
          refine FL.nil ?_
          rcases ifB hp with ⟨c288, hp⟩ | ⟨c288, hp⟩
          ·
           refine FW.condT rfl c288 ?_
           refine FW.seq (FW.region ?_)
           refine FL.v (E.assign (v := Value.bool false) rfl) ?_
           refine FL.nil ?_
           refine FW.ret ?_
           obtain rfl := Option.some.inj hp
           exact ⟨.inr rfl, res1 rfl rfl ⟨rfl, S285.back⟩⟩
          ·
           refine FW.condF rfl c288 ?_
           refine FW.skip (FW.seq (FW.region ?_))
           refine FL.v (E.assign (v := Value.bool true) rfl) ?_
           refine FL.nil ?_
           refine FW.ret ?_
           obtain rfl := Option.some.inj hp
           exact ⟨.inr rfl, res1 rfl rfl ⟨rfl, S285.back⟩⟩

end Go.Proofs
