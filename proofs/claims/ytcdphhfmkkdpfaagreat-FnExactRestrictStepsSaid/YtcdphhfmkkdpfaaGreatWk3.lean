/- Part of the walks and plain laws behind the claim: it proves helpers, under no condition beyond their own. -/
import Derived.Test.YtcdphhfmkkdpfaaGreatWk2
set_option linter.unusedVariables false
set_option maxRecDepth 100000
namespace Go.Proofs
open Go.Mr Go.Pu Go.PF Go.RowKit

theorem w_impl_openPart_1 {Ha : GH} {wa : World} (hs : Sl Ha wa) (a0 : Int) (q0 : Addr) (b0 : List Int) (u0_0 : Value) (g0_0 : RSl Ha eI 1 u0_0 b0) (c0 : CAt Ha q0 [u0_0]) {r : Bool} (hp : (PF.impl_openPart_1 a0 b0) = some r) :
    Calls Tryz.prog 207 #[Value.int .i64 a0, Value.pointer (some q0)] wa (Sc Ha wa (Value.bool r)) := by
  unfold PF.impl_openPart_1 at hp
  have S0 := St.init hs
  refine calls_go (N := 8) (args := [Value.int .i64 a0, Value.pointer (some q0)]) Tryz.func207 rfl rfl rfl ?_
  refine FW.seq ?_
  refine FW.region ?_
  refine FL.val rfl rfl rfl (E.assign (v := Value.bool false) rfl) ?_
  refine FL.nil ?_
  refine FW.seq ?_
  refine FW.region ?_
  refine FL.val rfl rfl rfl (E.load rfl (run_load0 Tryz.isAgg39 (c0.now S0.sl) rfl)) ?_
  refine FL.val rfl rfl rfl (E.move (v := Value.int .i64 a0) rfl) ?_
  refine FL.val rfl rfl rfl (E.neg rfl) ?_
  obtain ⟨r21, hr22, hp⟩ := bnd hp
  refine FL.call rfl rfl rfl (E.call Tryz.call162 (A2 rfl rfl)) (w_slices_Contains_int_int S0.sl u0_0 b0 g0_0 (wr (-a0)) hr22) ?_
  rintro e w23 ⟨rfl, r24⟩
  refine ⟨_, rfl, ?_⟩
  have S25 := S0.call r24
  refine FL.val rfl rfl rfl (E.assign (v := Value.bool r21) rfl) ?_
  refine FL.nil ?_
  refine FW.ret ?_
  obtain rfl := Option.some.inj hp
  exact ⟨.inr rfl, res1 rfl rfl ⟨rfl, S25.back⟩⟩

@[reducible] def p_impl_openPart (Ha : GH) (wa : World) (r : (List Int)) : Ending → World → Prop :=
  fun e w' => ∃ H' : GH, ∃ v0 : Value, ∃ n0 : Nat, ∃ c0 : List Value, e = .returned (v0) ∧ St Ha wa H' w' [.row 3 1 v0 n0 c0] ∧ Els (up wa.heap.size H') eI 1 c0 r
theorem w_impl_openPart {Ha : GH} {wa : World} (hs : Sl Ha wa) (v0 : Value) (a0 : List Int) (p0 : RSl Ha eI 1 v0 a0) (v1 : Value) (a1 : List Int) (p1 : RSl Ha eI 1 v1 a1) {r : (List Int)} (hp : (PF.impl_openPart a0 a1) = some r) :
    Calls Tryz.prog 144 #[v0, v1] wa (p_impl_openPart Ha wa r) := by
  unfold PF.impl_openPart at hp
  have S0 := St.init hs
  refine calls_go (N := 9) (args := [v0, v1]) Tryz.func144 rfl rfl rfl ?_
  refine FW.seq ?_
  refine FW.region ?_
  obtain ⟨b21, w22, run23, S24⟩ := S0.box (P := Tryz.prog) 39 [v1] (v := v1) p1.cells (ones_cons p1.one ones_nil)
  refine FL.val rfl rfl rfl (E.box rfl run23) ?_
  obtain ⟨H25, S26, i27, at28⟩ := S24.sealBox (i := 0) (l' := []) rfl rfl
  refine FL.val rfl rfl rfl (E.assign (v := Value.slice none 0 0) rfl) ?_
  refine FL.nil ?_
  refine FW.seq ?_
  refine FW.region ?_
  refine FL.val rfl rfl rfl (E.move (v := v0) rfl) ?_
  obtain ⟨r29, hr30, hp⟩ := bnd hp
  refine FL.call rfl rfl rfl (E.call Tryz.call160 (A1 rfl)) (w_slices_Clone_int_int S26.sl v0 a0 (p0.mono i27) hr30) ?_
  rintro e w32 ⟨H31, v35, n36, cs37, rfl, r34, els38⟩
  refine ⟨_, rfl, ?_⟩
  have els38 := els38.mono (up_le S26.size)
  have S33 := S26.join (l' := [.row 3 1 v35 n36 cs37]) r34 rfl
  refine FL.val rfl rfl rfl (E.makeFunc A0 (A1 rfl)) ?_
  obtain ⟨r39, hr40, hp⟩ := bnd hp
  refine FL.call rfl rfl rfl (E.call Tryz.call159 (A2 rfl rfl)) (w_slices_DeleteFunc_int_int (L := []) S33 r29 els38 (Value.func (.func 207) #[] #[Value.pointer (some ⟨b21, 0, none⟩)]) (fun x0 => PF.impl_openPart_1 x0 a1) (fun H2 w2 hi2 hs2 x0 r hr => ⟨207, #[Value.pointer (some ⟨b21, 0, none⟩)], rfl, Tryz.call207, w_impl_openPart_1 hs2 x0 ⟨b21, 0, none⟩ a1 v1 ((p1.mono (i27.tr r34.run.inc)).mono hi2) ((at28.mono r34.run.inc).mono hi2) hr⟩) hr40) ?_
  rintro e w42 ⟨H41, v45, n46, cs47, rfl, ⟨S43, i44⟩, els48⟩
  refine ⟨_, rfl, ?_⟩
  have S43 : St Ha wa H41 w42 [.row 3 1 v45 n46 cs47] := S43
  refine FL.val rfl rfl rfl (E.assign (v := v45) rfl) ?_
  refine FL.nil ?_
  refine FW.ret ?_
  obtain rfl := Option.some.inj hp
  exact ⟨.inr rfl, res1 rfl rfl ⟨_, _, _, _, rfl, S43, els48⟩⟩

@[reducible] def p_impl_restrict (Ha : GH) (wa : World) (r : (List (List Int))) : Ending → World → Prop :=
  fun e w' => ∃ H' : GH, ∃ v0 : Value, ∃ n0 : Nat, ∃ c0 : List Value, e = .returned (v0) ∧ St Ha wa H' w' [.row 39 1 v0 n0 c0] ∧ Els (up wa.heap.size H') (eL eI 1) 1 c0 r ∧ (bl c0).Nodup
theorem w_impl_restrict {Ha : GH} {wa : World} (hs : Sl Ha wa) (v0 : Value) (a0 : List (List Int)) (p0 : RSl Ha (eL eI 1) 1 v0 a0) (v1 : Value) (a1 : List Int) (p1 : RSl Ha eI 1 v1 a1) {r : (List (List Int))} (hp : (PF.impl_restrict a0 a1) = some r) :
    Calls Tryz.prog 145 #[v0, v1] wa (p_impl_restrict Ha wa r) := by
  unfold PF.impl_restrict at hp
  have S0 := St.init hs
  refine calls_go (N := 26) (args := [v0, v1]) Tryz.func145 rfl rfl rfl ?_
  refine FW.seq ?_
  refine FW.region ?_
  refine FL.val rfl rfl rfl (E.assign (v := Value.slice none 0 0) rfl) ?_
  refine FL.nil ?_
  refine FW.seq ?_
  refine FW.region ?_
  refine FL.val rfl rfl rfl (E.assign (v := Value.slice none 0 0) rfl) ?_
  refine FL.nil ?_
  refine FW.seq ?_
  refine FW.seq ?_
  refine FW.region ?_
  refine FL.val rfl rfl rfl (E.move (v := v0) rfl) ?_
  refine FL.val rfl rfl rfl (E.lenP te22 rfl p0) ?_
  refine FL.val rfl rfl rfl (E.move (v := Value.int .i64 0) rfl) ?_
  refine FL.nil ?_
  obtain ⟨q22, hq, hp⟩ := bndR hp
  refine FW.block ?_
  refine FW.mono (FW.forL (S := (List (List Int))) (X := Empty) (fun (i22 : Nat) (s22 : (List (List Int))) f w => ∃ H : GH, ∃ v23 : Value, ∃ n24 : Nat, ∃ cs25 : List Value, St Ha wa H w [.row 39 1 v23 n24 cs25] ∧ Inc Ha H ∧ Els (up wa.heap.size H) (eL eI 1) 1 cs25 s22 ∧ (bl cs25).Nodup ∧ f 10 = Value.int .i64 ((i22 : Nat) : Int) ∧ f 1 = v1 ∧ f 5 = v23 ∧ f 8 = v0 ∧ f 9 = Value.int .i64 (len a0)) (fun (q : Rs (List (List Int)) Empty) e f w => match q with | .go s22 => e = Exit.exit 0 ∧ (∃ H : GH, ∃ v23 : Value, ∃ n24 : Nat, ∃ cs25 : List Value, St Ha wa H w [.row 39 1 v23 n24 cs25] ∧ Inc Ha H ∧ Els (up wa.heap.size H) (eL eI 1) 1 cs25 s22 ∧ (bl cs25).Nodup ∧ f 5 = v23) | .rt x => x.elim) hq ⟨_, _, _, _, (S0.nil 39 1), (Inc.rfl _), Els.nil, List.nodup_nil, rfl, rfl, rfl, rfl, rfl⟩ ?_ ?_) ?_
  ·
    clear hp hq
    rintro i22 y21 s22 f89 w88 ⟨H85, v23, n24, cs25, S86, i87, els26, nd27, k90, k91, k92, k93, k94⟩ hx22 o142 hp
    refine FW.seq ?_
    refine FW.region ?_
    refine FL.val rfl rfl rfl (E.lssT k90 k94 (lss_len hx22)) ?_
    refine FL.nil ?_
    refine FW.seq ?_
    refine FW.condT rfl rfl ?_
    refine FW.skip ?_
    refine FW.seq ?_
    refine FW.block ?_
    refine FW.seq ?_
    refine FW.region ?_
    obtain ⟨p95, cs96, pt97, l98, at99, rel100⟩ := p0.at (ix_nat hx22)
    obtain ⟨v101, rfl, h102⟩ := eL_open rel100
    refine FL.val rfl rfl rfl (E.indexAddr te22 k93 k90 pt97) ?_
    refine FL.val rfl rfl rfl (E.load rfl (run_load0 Tryz.isAgg39 ((at99.mono i87).now S86.sl) rfl)) ?_
    refine FL.val rfl rfl rfl (E.assign (v := v101) rfl) ?_
    refine FL.nil ?_
    refine FW.seq ?_
    refine FW.region ?_
    refine FL.val rfl rfl rfl (E.move (v := v101) rfl) ?_
    refine FL.val rfl rfl rfl (E.move k91) ?_
    obtain ⟨r103, hr104, hp⟩ := bnd hp
    refine FL.call rfl rfl rfl (E.call Tryz.call143 (A2 rfl rfl)) (w_impl_clauseValue S86.sl v101 y21 (h102.mono i87) v1 a1 (p1.mono i87) hr104) ?_
    rintro e w105 ⟨rfl, r106⟩
    refine ⟨_, rfl, ?_⟩
    have S107 := S86.call r106
    refine FL.val rfl rfl rfl (E.lss rfl rfl) ?_
    refine FL.nil ?_
    rcases ifB hp with ⟨c108, hp⟩ | ⟨c108, hp⟩
    ·
      refine FW.condT rfl c108 ?_
      refine FW.region ?_
      refine FL.val rfl rfl rfl (E.move k92) ?_
      refine FL.val rfl rfl rfl (E.move (v := v101) rfl) ?_
      refine FL.val rfl rfl rfl (E.move k91) ?_
      obtain ⟨r109, hr110, hp⟩ := bnd hp
      refine FL.call rfl rfl rfl (E.call Tryz.call144 (A2 rfl rfl)) (w_impl_openPart S107.sl v101 y21 (h102.mono i87) v1 a1 (p1.mono i87) hr110) ?_
      rintro e w112 ⟨H111, v115, n116, cs117, rfl, r114, els118⟩
      refine ⟨_, rfl, ?_⟩
      have els118 := els118.mono (up_le S107.size)
      have S113 := S107.join (l' := [.row 3 1 v115 n116 cs117, .row 39 1 v23 n24 cs25]) r114 rfl
      obtain ⟨H119, S120, i121, h122, nv123⟩ := S113.sealRowU (i := 0) (l' := [.row 39 1 v23 n24 cs25]) rfl els118 (by decide) rfl
      obtain ⟨v124, w125, run126, S127⟩ := S120.buildSlice (P := Tryz.prog) te22 [v115] (parts := #[(0, v115)]) (cells := [v115]) rfl (szs_cons (cells_size h122.cells) szs_nil) (fc_cons h122.cells fc_nil) (ones_cons h122.one ones_nil) (Nat.le_of_ble_eq_true rfl)
      have els128 : Els (up wa.heap.size H119) (eL eI 1) 1 [v115] [r109] := (Els.snoc (H := (up wa.heap.size H119)) (E := (eL eI 1)) (k := 1) (c := [v115]) (x := r109) Els.nil rfl ⟨_, rfl, h122⟩)
      have nd129 : (bl [v115]).Nodup := by exact nd_one v115
      refine FL.val rfl rfl rfl (E.buildSlice (B1 rfl) run126) ?_
      obtain ⟨xs130, hz131, hp⟩ := bnd hp
      obtain ⟨v132, w135, n133, cs134, run136, S137, els138, ce139⟩ := S127.appendO (P := Tryz.prog) te22 (i := 1) (j := 0) rfl (els26.mono (up_mono (r114.run.inc.tr i121))) rfl els128 hz131
      have S137 : St Ha wa H119 w135 [.row 39 1 v124 1 [v115], .row 39 1 v132 n133 cs134] := S137
      have nd140 : (bl cs134).Nodup := by rw [ce139]; exact nd_app nd27 nd129 (Els.dom (els26.mono (upI.tr r114.run.inc))) (by exact nv123)
      have S141 : St Ha wa H119 w135 [.row 39 1 v132 n133 cs134] := S137.drop 0
      refine FL.val rfl rfl rfl (E.append rfl rfl run136) ?_
      refine FL.val rfl rfl rfl (E.assign (v := v132) rfl) ?_
      refine FL.nil ?_
      refine FW.region ?_
      refine FL.val rfl rfl rfl (E.add k90 rfl) ?_
      refine FL.val rfl rfl rfl (E.move (v := Value.int .i64 (wr (((i22 : Nat) : Int) + 1))) rfl) ?_
      refine FL.nil ?_
      obtain rfl := Option.some.inj hp
      exact ⟨rfl, ⟨_, _, _, _, S141, ((i87.tr r114.run.inc).tr i121), els138, nd140, (nat_succ rfl (lt_of_get hx22) (p0.mono ((i87.tr r114.run.inc).tr i121)).le), k91, rfl, k93, k94⟩⟩
    ·
      refine FW.condF rfl c108 ?_
      refine FW.skip ?_
      refine FW.region ?_
      refine FL.val rfl rfl rfl (E.add k90 rfl) ?_
      refine FL.val rfl rfl rfl (E.move (v := Value.int .i64 (wr (((i22 : Nat) : Int) + 1))) rfl) ?_
      refine FL.nil ?_
      obtain rfl := Option.some.inj hp
      exact ⟨rfl, ⟨_, _, _, _, S107, i87, els26, nd27, (nat_succ rfl (lt_of_get hx22) (p0.mono i87).le), k91, k92, k93, k94⟩⟩
  ·
    clear hp hq
    rintro s22 f153 w152 ⟨H149, v23, n24, cs25, S150, i151, els26, nd27, k154, k155, k156, k157, k158⟩
    refine FW.seq ?_
    refine FW.region ?_
    refine FL.val rfl rfl rfl (E.lss k154 k158) ?_
    refine FL.nil ?_
    refine FW.seq ?_
    refine FW.condF rfl dlt_len ?_
    refine FW.exit ?_
    exact ⟨nofun, rfl, ⟨_, _, _, _, S150, i151, els26, nd27, k156⟩⟩
  ·
    clear hq
    intro e f147 w146 hD
    rcases q22 with s22 | x22
    ·
      obtain ⟨rfl, hD⟩ := hD
      obtain ⟨H143, v23, n24, cs25, S144, i145, els26, nd27, k148⟩ := hD
      replace hp := el_go hp
      refine FW.seq ?_
      refine FW.region ?_
      refine FL.val rfl rfl rfl (E.move k148) ?_
      refine FL.val rfl rfl rfl (E.assign (v := v23) rfl) ?_
      refine FL.nil ?_
      refine FW.ret ?_
      obtain rfl := Option.some.inj hp
      exact ⟨.inr rfl, res1 rfl rfl ⟨_, _, _, _, rfl, S144, els26, nd27⟩⟩
    · exact x22.elim

theorem w_impl_ResStep_isWeakening {Ha : GH} {wa : World} (hs : Sl Ha wa) (a0 : ResStep) (v0_0 : Value) (p0_0 : RSl Ha eI 1 v0_0 a0.clause) :
    Calls Tryz.prog 89 #[Value.agg #[v0_0, Value.int .i64 a0.left, Value.int .i64 a0.right, Value.int .i64 a0.pivot]] wa (Sc Ha wa (Value.bool (PF.impl_ResStep_isWeakening a0))) := by
  obtain ⟨r, hp⟩ : ∃ r, (PF.impl_ResStep_isWeakening a0) = r := ⟨_, rfl⟩
  rw [hp]
  unfold PF.impl_ResStep_isWeakening at hp
  have S0 := St.init hs
  refine calls_go (N := 11) (args := [Value.agg #[v0_0, Value.int .i64 a0.left, Value.int .i64 a0.right, Value.int .i64 a0.pivot]]) Tryz.func89 rfl rfl rfl ?_
  refine FW.seq ?_
  refine FW.region ?_
  obtain ⟨b21, w22, run23, S24⟩ := S0.box (P := Tryz.prog) 89 [v0_0, Value.int .i64 a0.left, Value.int .i64 a0.right, Value.int .i64 a0.pivot] (v := Value.agg #[v0_0, Value.int .i64 a0.left, Value.int .i64 a0.right, Value.int .i64 a0.pivot]) rfl (ones_cons p0_0.one (ones_cons rfl (ones_cons rfl (ones_cons rfl ones_nil))))
  refine FL.val rfl rfl rfl (E.box rfl run23) ?_
  obtain ⟨H25, S26, i27, at28⟩ := S24.sealBox (i := 0) (l' := []) rfl rfl
  refine FL.val rfl rfl rfl (E.assign (v := Value.bool false) rfl) ?_
  refine FL.nil ?_
  refine FW.seq ?_
  refine FW.region ?_
  refine FL.val rfl rfl rfl (E.fieldAddr tf89_1 rfl) ?_
  refine FL.val rfl rfl rfl (E.load rfl (run_load1 Tryz.isAgg3 (at28.now S26.sl) rfl)) ?_
  refine FL.val rfl rfl rfl (E.geq rfl rfl) ?_
  refine FL.val rfl rfl rfl (E.move (v := Value.bool (decide (0 ≤ a0.left))) rfl) ?_
  refine FL.cut 4 (fun f w => ∃ H : GH, St Ha wa H w [] ∧ Inc H25 H ∧ f 10 = Value.bool (bif (decide (0 ≤ a0.left)) then (decide (a0.right < 0)) else false)) ?_ ?_
  ·
    rcases bcase (decide (0 ≤ a0.left)) with c35 | c35
    ·
      refine FL.val (wF_yes rfl rfl rfl c35) rfl rfl (E.fieldAddr tf89_2 rfl) ?_
      refine FL.val (wF_yes rfl rfl rfl c35) rfl rfl (E.load rfl (run_load1 Tryz.isAgg3 (at28.now S26.sl) rfl)) ?_
      refine FL.val (wF_yes rfl rfl rfl c35) rfl rfl (E.lss rfl rfl) ?_
      refine FL.val rfl rfl rfl (E.pickT rfl c35 rfl) ?_
      exact FL.nil ⟨rfl, _, S26, (Inc.rfl _), (congrArg Value.bool (bifT c35).symm)⟩
    ·
      refine FL.skip (wF_no rfl rfl rfl c35) rfl ?_
      refine FL.skip (wF_no rfl rfl rfl c35) rfl ?_
      refine FL.skip (wF_no rfl rfl rfl c35) rfl ?_
      refine FL.val rfl rfl rfl (E.pickF rfl c35 rfl) ?_
      exact FL.nil ⟨rfl, _, S26, (Inc.rfl _), (congrArg Value.bool (bifF c35).symm)⟩
  rintro f34 w33 ⟨H30, S31, i32, k36⟩
  refine FL.val rfl rfl rfl (E.assign k36) ?_
  refine FL.nil ?_
  refine FW.ret ?_
  obtain rfl := hp
  exact ⟨.inr rfl, res1 rfl rfl ⟨rfl, S31.back⟩⟩

theorem w_impl_last_int {Ha : GH} {wa : World} (hs : Sl Ha wa) (v0 : Value) (a0 : List Int) (p0 : RSl Ha eI 1 v0 a0) {r : Int} (hp : (PF.impl_last_int a0) = some r) :
    Calls Tryz.prog 95 #[v0] wa (Sc Ha wa (Value.int .i64 r)) := by
  unfold PF.impl_last_int at hp
  have S0 := St.init hs
  refine calls_go (N := 9) (args := [v0]) Tryz.func95 rfl rfl rfl ?_
  refine FW.seq ?_
  refine FW.region ?_
  refine FL.val rfl rfl rfl (E.assign (v := Value.int .i64 0) rfl) ?_
  refine FL.nil ?_
  refine FW.seq ?_
  refine FW.region ?_
  refine FL.val rfl rfl rfl (E.move (v := v0) rfl) ?_
  refine FL.val rfl rfl rfl (E.move (v := v0) rfl) ?_
  refine FL.val rfl rfl rfl (E.lenP te39 rfl p0) ?_
  refine FL.val rfl rfl rfl (E.sub rfl rfl) ?_
  obtain ⟨x27, hx28, hp⟩ := bnd hp
  obtain ⟨p21, cs22, pt23, l24, at25, rel26⟩ := p0.at hx28
  obtain rfl := eI_open rel26
  refine FL.val rfl rfl rfl (E.indexAddr te39 rfl rfl pt23) ?_
  refine FL.val rfl rfl rfl (E.load rfl (run_load0 Tryz.isAgg3 (at25.now S0.sl) rfl)) ?_
  refine FL.val rfl rfl rfl (E.assign (v := Value.int .i64 x27) rfl) ?_
  refine FL.nil ?_
  refine FW.ret ?_
  obtain rfl := Option.some.inj hp
  exact ⟨.inr rfl, res1 rfl rfl ⟨rfl, S0.back⟩⟩

@[reducible] def p_impl_RestrictSteps (Ha : GH) (wa : World) (r : ((List ResStep) × Bool)) : Ending → World → Prop :=
  fun e w' => ∃ H' : GH, ∃ v0 : Value, ∃ n0 : Nat, ∃ c0 : List Value, e = .returned (Value.tuple #[v0, Value.bool r.2]) ∧ St Ha wa H' w' [.row 89 4 v0 n0 c0] ∧ Els (up wa.heap.size H') eResStep 4 c0 r.1 ∧ (bl c0).Nodup
set_option maxHeartbeats 4000000 in
theorem w_impl_RestrictSteps {Ha : GH} {wa : World} (hs : Sl Ha wa) (a0 : Cnf) (v0_1 : Value) (p0_1 : RSl Ha (eL eI 1) 1 v0_1 a0.clauses) (v1 : Value) (a1 : List ResStep) (p1 : RSl Ha eResStep 4 v1 a1) (v2 : Value) (a2 : List Int) (p2 : RSl Ha eI 1 v2 a2) {r : ((List ResStep) × Bool)} (hp : (PF.impl_RestrictSteps a0 a1 a2) = some r) :
    Calls Tryz.prog 28 #[Value.agg #[Value.int .i64 a0.vars, v0_1], v1, v2] wa (p_impl_RestrictSteps Ha wa r) := by
  unfold PF.impl_RestrictSteps at hp
  have S0 := St.init hs
  refine calls_go (N := 47) (args := [Value.agg #[Value.int .i64 a0.vars, v0_1], v1, v2]) Tryz.func28 rfl rfl rfl ?_
  refine FW.seq ?_
  refine FW.region ?_
  obtain ⟨b21, w22, run23, S24⟩ := S0.box (P := Tryz.prog) 31 [Value.int .i64 a0.vars, v0_1] (v := Value.agg #[Value.int .i64 a0.vars, v0_1]) rfl (ones_cons rfl (ones_cons p0_1.one ones_nil))
  refine FL.val rfl rfl rfl (E.box rfl run23) ?_
  obtain ⟨H25, S26, i27, at28⟩ := S24.sealBox (i := 0) (l' := []) rfl rfl
  refine FL.val rfl rfl rfl (E.assign (v := Value.slice none 0 0) rfl) ?_
  refine FL.val rfl rfl rfl (E.assign (v := Value.bool false) rfl) ?_
  refine FL.nil ?_
  refine FW.seq ?_
  refine FW.seq ?_
  refine FW.region ?_
  refine FL.val rfl rfl rfl (E.load rfl (run_loadA Tryz.isAgg31 Tryz.sizeOf31 (at28.now S26.sl) rfl)) ?_
  refine FL.val rfl rfl rfl (E.move (v := v1) rfl) ?_
  obtain ⟨r29, hr30, hp⟩ := bnd hp
  refine FL.call rfl rfl rfl (E.call Tryz.call74 (A2 rfl rfl)) (w_impl_IsDerivation S26.sl a0 v0_1 (p0_1.mono i27) v1 a1 (p1.mono i27) hr30) ?_
  rintro e w31 ⟨rfl, r32⟩
  refine ⟨_, rfl, ?_⟩
  have S33 := S26.call r32
  refine FL.val rfl rfl rfl (E.not rfl) ?_
  refine FL.val rfl rfl rfl (E.move (v := Value.bool (!r29)) rfl) ?_
  obtain ⟨t39, hqt39, hp⟩ := bnd hp
  refine FL.cut 6 (fun f w => ∃ H : GH, St Ha wa H w [] ∧ Inc H25 H ∧ f 1 = v1 ∧ f 2 = v2 ∧ f 3 = Value.pointer (some ⟨b21, 0, none⟩) ∧ f 21 = Value.bool t39) ?_ ?_
  ·
    clear hp; have hp := hqt39; clear hqt39
    rcases ifB hp with ⟨c45, hp⟩ | ⟨c45, hp⟩
    ·
      refine FL.skip (wF_no rfl rfl rfl c45) rfl ?_
      refine FL.skip (wF_no rfl rfl rfl c45) rfl ?_
      refine FL.skip (wF_no rfl rfl rfl c45) rfl ?_
      refine FL.skip (wF_no rfl rfl rfl c45) rfl ?_
      refine FL.skip (wF_no rfl rfl rfl c45) rfl ?_
      obtain rfl := Option.some.inj hp
      refine FL.val rfl rfl rfl (E.pickT rfl c45 rfl) ?_
      exact FL.nil ⟨rfl, _, S33, (Inc.rfl _), rfl, rfl, rfl, rfl⟩
    ·
      refine FL.val (wF_yes rfl rfl rfl c45) rfl rfl (E.fieldAddr tf31_0 rfl) ?_
      refine FL.val (wF_yes rfl rfl rfl c45) rfl rfl (E.load rfl (run_load1 Tryz.isAgg3 (at28.now S33.sl) rfl)) ?_
      refine FL.val (wF_yes rfl rfl rfl c45) rfl rfl (E.move (v := v2) rfl) ?_
      obtain ⟨r46, hr47, hp⟩ := bnd hp
      refine FL.call (wF_yes rfl rfl rfl c45) rfl rfl (E.call Tryz.call81 (A2 rfl rfl)) (w_impl_IsAssignment S33.sl a0.vars v2 a2 (p2.mono i27) hr47) ?_
      rintro e w48 ⟨rfl, r49⟩
      refine ⟨_, rfl, ?_⟩
      have S50 := S33.call r49
      refine FL.val (wF_yes rfl rfl rfl c45) rfl rfl (E.not rfl) ?_
      obtain rfl := Option.some.inj hp
      refine FL.val rfl rfl rfl (E.pickF rfl c45 rfl) ?_
      exact FL.nil ⟨rfl, _, S50, (Inc.rfl _), rfl, rfl, rfl, rfl⟩
  rintro f44 w43 ⟨H40, S41, i42, k51, k52, k53, k54⟩
  refine FL.nil ?_
  rcases ifB hp with ⟨c55, hp⟩ | ⟨c55, hp⟩
  ·
    refine FW.condT k54 c55 ?_
    refine FW.seq ?_
    refine FW.region ?_
    refine FL.val rfl rfl rfl (E.assign (v := Value.slice none 0 0) rfl) ?_
    refine FL.val rfl rfl rfl (E.assign (v := Value.bool false) rfl) ?_
    refine FL.nil ?_
    refine FW.ret ?_
    obtain rfl := Option.some.inj hp
    exact ⟨.inr rfl, res2 rfl rfl rfl ⟨_, _, _, _, rfl, (S41.nil 89 4), Els.nil, List.nodup_nil⟩⟩
  ·
    refine FW.condF k54 c55 ?_
    refine FW.skip ?_
    refine FW.seq ?_
    refine FW.region ?_
    refine FL.val rfl rfl rfl (E.build (B0) (run_build _ 97 #[] #[Value.slice none 0 0, Value.slice none 0 0] (by rfl))) ?_
    have S60 := S41.nil 89 4
    have els61 : Els (up wa.heap.size H40) eResStep 4 [] [] := Els.nil
    have S62 := S60.nil 3 1
    have els63 : Els (up wa.heap.size H40) eI 1 [] [] := Els.nil
    obtain ⟨b56, w57, run58, S59⟩ := S62.box (P := Tryz.prog) 97 [(Value.slice none 0 0), (Value.slice none 0 0)] (v := Value.agg #[Value.slice none 0 0, Value.slice none 0 0]) rfl (ones_cons (Ln.one (S62.row_ln (i := 1) rfl)) (ones_cons (Ln.one (S62.row_ln (i := 0) rfl)) ones_nil))
    refine FL.val rfl rfl rfl (E.box rfl run58) ?_
    refine FL.val rfl rfl rfl (E.assign (v := Value.pointer (some (⟨b56, 0, none⟩ : Addr))) rfl) ?_
    refine FL.nil ?_
    refine FW.seq ?_
    refine FW.seq ?_
    refine FW.region ?_
    refine FL.val rfl rfl rfl (E.move k51) ?_
    refine FL.val rfl rfl rfl (E.lenP te28 rfl p1) ?_
    refine FL.val rfl rfl rfl (E.move (v := Value.int .i64 0) rfl) ?_
    refine FL.nil ?_
    obtain ⟨q65, hq, hp⟩ := bndR hp
    refine FW.block ?_
    refine FW.mono (FW.forL (S := ((List Int) × (List ResStep))) (X := Empty) (fun (i65 : Nat) (s65 : ((List Int) × (List ResStep))) f w => ∃ H : GH, ∃ v51116 : Value, ∃ n51117 : Nat, ∃ cs51118 : List Value, ∃ v51120 : Value, ∃ n51121 : Nat, ∃ cs51122 : List Value, St Ha wa H w [.box b56 97 [v51120, v51116], .row 3 1 v51116 n51117 cs51118, .row 89 4 v51120 n51121 cs51122] ∧ Inc H40 H ∧ Els (up wa.heap.size H) eI 1 cs51118 s65.1 ∧ Els (up wa.heap.size H) eResStep 4 cs51122 s65.2 ∧ (bl cs51122).Nodup ∧ f 26 = Value.int .i64 ((i65 : Nat) : Int) ∧ f 2 = v2 ∧ f 3 = Value.pointer (some ⟨b21, 0, none⟩) ∧ f 8 = Value.pointer (some (⟨b56, 0, none⟩ : Addr)) ∧ f 24 = v1 ∧ f 25 = Value.int .i64 (len a1)) (fun (q : Rs ((List Int) × (List ResStep)) Empty) e f w => match q with | .go s65 => e = Exit.exit 0 ∧ (∃ H : GH, ∃ v51116 : Value, ∃ n51117 : Nat, ∃ cs51118 : List Value, ∃ v51120 : Value, ∃ n51121 : Nat, ∃ cs51122 : List Value, St Ha wa H w [.box b56 97 [v51120, v51116], .row 3 1 v51116 n51117 cs51118, .row 89 4 v51120 n51121 cs51122] ∧ Inc H40 H ∧ Els (up wa.heap.size H) eI 1 cs51118 s65.1 ∧ Els (up wa.heap.size H) eResStep 4 cs51122 s65.2 ∧ (bl cs51122).Nodup ∧ f 8 = Value.pointer (some (⟨b56, 0, none⟩ : Addr))) | .rt x => x.elim) hq ⟨_, _, _, _, _, _, _, S59, (Inc.rfl _), els63, els61, (show (bl []).Nodup from List.nodup_nil), rfl, k52, k53, rfl, rfl, rfl⟩ ?_ ?_) ?_
    ·
      clear hp hq
      rintro i65 y64 s65 f102179 w102178 ⟨H102175, v51116, n51117, cs51118, v51120, n51121, cs51122, S102176, i102177, els51119, els51123, nd51124, k102180, k102181, k102182, k102183, k102184, k102185⟩ hx65 o153226 hp
      refine FW.seq ?_
      refine FW.region ?_
      refine FL.val rfl rfl rfl (E.lssT k102180 k102185 (lss_len hx65)) ?_
      refine FL.nil ?_
      refine FW.seq ?_
      refine FW.condT rfl rfl ?_
      refine FW.skip ?_
      refine FW.seq ?_
      refine FW.block ?_
      refine FW.seq ?_
      refine FW.region ?_
      obtain ⟨p102186, cs102187, pt102188, l102189, at102190, rel102191⟩ := p1.at (ix_nat hx65)
      obtain ⟨v102192, rfl, h102193⟩ := eResStep_open rel102191
      refine FL.val rfl rfl rfl (E.indexAddr te28 k102184 k102180 pt102188) ?_
      refine FL.val rfl rfl rfl (E.load rfl (run_loadA Tryz.isAgg89 Tryz.sizeOf89 ((at102190.mono ((i27.tr i42).tr i102177)).now S102176.sl) rfl)) ?_
      obtain ⟨b102194, w102195, run102196, S102197⟩ := S102176.alloc (P := Tryz.prog) 89 [Value.slice none 0 0, Value.int .i64 0, Value.int .i64 0, Value.int .i64 0] Tryz.zeroValue89 rfl (ones_cons rfl (ones_cons rfl (ones_cons rfl (ones_cons rfl ones_nil))))
      refine FL.val rfl rfl rfl (E.alloc run102196) ?_
      obtain ⟨w102198, run102199, S102200⟩ := S102197.store0 (P := Tryz.prog) (t := 89) (i := 0) (cs' := [v102192, Value.int .i64 y64.left, Value.int .i64 y64.right, Value.int .i64 y64.pivot]) (l' := [.box b102194 89 [v102192, Value.int .i64 y64.left, Value.int .i64 y64.right, Value.int .i64 y64.pivot], .box b56 97 [v51120, v51116], .row 3 1 v51116 n51117 cs51118, .row 89 4 v51120 n51121 cs51122]) (v := Value.agg #[v102192, Value.int .i64 y64.left, Value.int .i64 y64.right, Value.int .i64 y64.pivot]) (c := [v102192, Value.int .i64 y64.left, Value.int .i64 y64.right, Value.int .i64 y64.pivot]) rfl Tryz.sizeOf89 rfl rfl (ones_cons h102193.one (ones_cons rfl (ones_cons rfl (ones_cons rfl ones_nil)))) (Nat.le_of_ble_eq_true rfl) rfl rfl
      refine FL.act rfl rfl (E.store rfl rfl run102199) ?_
      obtain ⟨H102201, S102202, i102203, at102204⟩ := S102200.sealBox (i := 0) (l' := [.box b56 97 [v51120, v51116], .row 3 1 v51116 n51117 cs51118, .row 89 4 v51120 n51121 cs51122]) rfl rfl
      refine FL.nil ?_
      obtain ⟨s372395, hq372395, hp⟩ := bnd hp
      obtain ⟨xs138205, hz138206, hp⟩ := bnd hp
      refine FW.drawB (Sl H102201) (fun f w => ∃ H : GH, ∃ v153205 : Value, ∃ n153206 : Nat, ∃ cs153207 : List Value, ∃ v153209 : Value, ∃ n153210 : Nat, ∃ cs153211 : List Value, St Ha wa H w [.box b56 97 [v153209, v153205], .row 3 1 v153205 n153206 cs153207, .row 89 4 v153209 n153210 cs153211] ∧ Inc H102201 H ∧ Els (up wa.heap.size H) eI 1 cs153207 xs138205 ∧ Els (up wa.heap.size H) eResStep 4 cs153211 s372395.1 ∧ (bl cs153211).Nodup ∧ f 2 = v2 ∧ f 3 = Value.pointer (some ⟨b21, 0, none⟩) ∧ f 8 = Value.pointer (some (⟨b56, 0, none⟩ : Addr)) ∧ f 24 = v1 ∧ f 25 = Value.int .i64 (len a1) ∧ f 26 = Value.int .i64 ((i65 : Nat) : Int)) (by kernel_rfl) S102202.sl ?_ ?_
      ·
        intro w102205 r102206
        have S102207 := S102202.call r102206
        refine FB.phase [14] (fun w => WAt w (Addr.add ⟨b56, 0, none⟩ 1) [v51116]) ?_
        refine FB.take (i := 0) (l' := #[true, false, false, false, false, false, false, false, false, false, false, false, false, false, false]) rfl (by kernel_rfl) (by kernel_rfl) (by kernel_rfl) (by kernel_rfl) (by kernel_rfl) (SP.on ((S102207.box_now (i := 0) rfl).sub (j := 1) (n := 1) (c := [v51116]) rfl) (SP.nil S102207.sl)) rfl rfl rfl (fun w' hw' => (E.move k102183)) ?_
        refine FB.take (i := 1) (l' := #[true, true, false, false, false, false, false, false, false, false, false, false, false, false, false]) rfl (by kernel_rfl) (by kernel_rfl) (by kernel_rfl) (by kernel_rfl) (by kernel_rfl) (SP.on ((S102207.box_now (i := 0) rfl).sub (j := 1) (n := 1) (c := [v51116]) rfl) (SP.nil S102207.sl)) rfl rfl rfl (fun w' hw' => (E.move k102183)) ?_
        refine FB.take (i := 2) (l' := #[true, true, true, false, false, false, false, false, false, false, false, false, false, false, false]) rfl (by kernel_rfl) (by kernel_rfl) (by kernel_rfl) (by kernel_rfl) (by kernel_rfl) (SP.on ((S102207.box_now (i := 0) rfl).sub (j := 1) (n := 1) (c := [v51116]) rfl) (SP.nil S102207.sl)) rfl rfl rfl (fun w' hw' => (E.nilCheck rfl)) ?_
        refine FB.take (i := 3) (l' := #[true, true, true, true, false, false, false, false, false, false, false, false, false, false, false]) rfl (by kernel_rfl) (by kernel_rfl) (by kernel_rfl) (by kernel_rfl) (by kernel_rfl) (SP.on ((S102207.box_now (i := 0) rfl).sub (j := 1) (n := 1) (c := [v51116]) rfl) (SP.nil S102207.sl)) rfl rfl rfl (fun w' hw' => (E.fieldAddr tf97_1 rfl)) ?_
        refine FB.takeP (i := 4) (l' := #[true, true, true, true, true, false, false, false, false, false, false, false, false, false, false]) 0 [11, 12, 13, 14] rfl rfl (by kernel_rfl) (by kernel_rfl) (by kernel_rfl) (by kernel_rfl) (by kernel_rfl) (by kernel_rfl) (SP.on ((S102207.box_now (i := 0) rfl).sub (j := 1) (n := 1) (c := [v51116]) rfl) (SP.nil S102207.sl)) rfl rfl rfl (fun w' hw' => (E.load rfl (run_load0 Tryz.isAgg39 hw' rfl))) ?_
        refine FB.take (i := 5) (l' := #[true, true, true, true, true, true, false, false, false, false, false, false, false, false, false]) rfl (by kernel_rfl) (by kernel_rfl) (by kernel_rfl) (by kernel_rfl) (by kernel_rfl) (SP.on ((S102207.box_now (i := 0) rfl).sub (j := 1) (n := 1) (c := [v51116]) rfl) (SP.nil S102207.sl)) rfl rfl rfl (fun w' hw' => (E.move k102183)) ?_
        refine FB.take (i := 6) (l' := #[true, true, true, true, true, true, true, false, false, false, false, false, false, false, false]) rfl (by kernel_rfl) (by kernel_rfl) (by kernel_rfl) (by kernel_rfl) (by kernel_rfl) (SP.on ((S102207.box_now (i := 0) rfl).sub (j := 1) (n := 1) (c := [v51116]) rfl) (SP.nil S102207.sl)) rfl rfl rfl (fun w' hw' => (E.load k102182 (run_loadA Tryz.isAgg31 Tryz.sizeOf31 ((at28.mono ((i42.tr i102177).tr i102203)).now hw') rfl))) ?_
        refine FB.take (i := 7) (l' := #[true, true, true, true, true, true, true, true, false, false, false, false, false, false, false]) rfl (by kernel_rfl) (by kernel_rfl) (by kernel_rfl) (by kernel_rfl) (by kernel_rfl) (SP.on ((S102207.box_now (i := 0) rfl).sub (j := 1) (n := 1) (c := [v51116]) rfl) (SP.nil S102207.sl)) rfl rfl rfl (fun w' hw' => (E.load rfl (run_loadA Tryz.isAgg89 Tryz.sizeOf89 (at102204.now hw') rfl))) ?_
        refine FB.take (i := 8) (l' := #[true, true, true, true, true, true, true, true, true, false, false, false, false, false, false]) rfl (by kernel_rfl) (by kernel_rfl) (by kernel_rfl) (by kernel_rfl) (by kernel_rfl) (SP.on ((S102207.box_now (i := 0) rfl).sub (j := 1) (n := 1) (c := [v51116]) rfl) (SP.nil S102207.sl)) rfl rfl rfl (fun w' hw' => (E.move k102181)) ?_
        refine FB.all1 (i := 9) (by kernel_rfl) ?_
        ·
          obtain ⟨R372395, hR372395⟩ : ∃ R372395 : ((List ResStep) × Int) → Ending → World → Prop, R372395 = (fun s372395 e w => ∃ H : GH, ∃ v372396 : Value, ∃ n372397 : Nat, ∃ cs372398 : List Value, e = Ending.returned (Value.int .i64 s372395.2) ∧ St Ha wa H w [.box b56 97 [v372396, v51116], .row 3 1 v51116 n51117 cs51118, .row 89 4 v372396 n372397 cs372398] ∧ Inc H102201 H ∧ Els (up wa.heap.size H) eResStep 4 cs372398 s372395.1 ∧ (bl cs372398).Nodup) := ⟨_, rfl⟩
          have hc372395 : Calls Tryz.prog 82 #[Value.pointer (some (⟨b56, 0, none⟩ : Addr)), Value.agg #[Value.int .i64 a0.vars, v0_1], Value.agg #[v102192, Value.int .i64 y64.left, Value.int .i64 y64.right, Value.int .i64 y64.pivot], v2] w102205 (R372395 s372395) := by
            clear hp; have hp := hq372395; clear hq372395
            refine calls_go (N := 76) (args := [Value.pointer (some (⟨b56, 0, none⟩ : Addr)), Value.agg #[Value.int .i64 a0.vars, v0_1], Value.agg #[v102192, Value.int .i64 y64.left, Value.int .i64 y64.right, Value.int .i64 y64.pivot], v2]) Tryz.func82 rfl rfl rfl ?_
            refine FW.seq ?_
            refine FW.region ?_
            obtain ⟨b372401, w372402, run372403, S372404⟩ := S102207.box (P := Tryz.prog) 31 [Value.int .i64 a0.vars, v0_1] (v := Value.agg #[Value.int .i64 a0.vars, v0_1]) rfl (ones_cons rfl (ones_cons p0_1.one ones_nil))
            refine FL.val rfl rfl rfl (E.box rfl run372403) ?_
            obtain ⟨H372405, S372406, i372407, at372408⟩ := S372404.sealBox (i := 0) (l' := [.box b56 97 [v51120, v51116], .row 3 1 v51116 n51117 cs51118, .row 89 4 v51120 n51121 cs51122]) rfl rfl
            obtain ⟨b372409, w372410, run372411, S372412⟩ := S372406.box (P := Tryz.prog) 89 [v102192, Value.int .i64 y64.left, Value.int .i64 y64.right, Value.int .i64 y64.pivot] (v := Value.agg #[v102192, Value.int .i64 y64.left, Value.int .i64 y64.right, Value.int .i64 y64.pivot]) rfl (ones_cons h102193.one (ones_cons rfl (ones_cons rfl (ones_cons rfl ones_nil))))
            refine FL.val rfl rfl rfl (E.box rfl run372411) ?_
            obtain ⟨H372413, S372414, i372415, at372416⟩ := S372412.sealBox (i := 0) (l' := [.box b56 97 [v51120, v51116], .row 3 1 v51116 n51117 cs51118, .row 89 4 v51120 n51121 cs51122]) rfl rfl
            refine FL.val rfl rfl rfl (E.assign (v := Value.int .i64 0) rfl) ?_
            refine FL.nil ?_
            refine FW.seq ?_
            refine FW.block ?_
            refine FW.seq ?_
            refine FW.region ?_
            refine FL.val rfl rfl rfl (E.fieldAddr tf89_0 rfl) ?_
            refine FL.val rfl rfl rfl (E.load rfl (run_load1 Tryz.isAgg39 (at372416.now S372414.sl) rfl)) ?_
            refine FL.val rfl rfl rfl (E.move (v := v2) rfl) ?_
            obtain ⟨r372417, hr372418, hp⟩ := bnd hp
            refine FL.call rfl rfl rfl (E.call Tryz.call143 (A2 rfl rfl)) (w_impl_clauseValue S372414.sl v102192 y64.clause (h102193.mono (((((i27.tr i42).tr i102177).tr i102203).tr i372407).tr i372415)) v2 a2 (p2.mono (((((i27.tr i42).tr i102177).tr i102203).tr i372407).tr i372415)) hr372418) ?_
            rintro e w372419 ⟨rfl, r372420⟩
            refine ⟨_, rfl, ?_⟩
            have S372421 := S372414.call r372420
            refine FL.val rfl rfl rfl (E.gtr rfl rfl) ?_
            refine FL.val rfl rfl rfl (E.assign (v := Value.bool (decide (0 < r372417))) rfl) ?_
            refine FL.nil ?_
            rcases ifB hp with ⟨c372422, hp⟩ | ⟨c372422, hp⟩
            ·
              refine FW.condT rfl c372422 ?_
              refine FW.seq ?_
              refine FW.region ?_
              refine FL.val rfl rfl rfl (E.assign (v := Value.int .i64 (-1)) rfl) ?_
              refine FL.nil ?_
              refine FW.ret ?_
              obtain rfl := Option.some.inj hp
              exact ⟨.inr rfl, res1 rfl rfl (by rw [hR372395]; exact ⟨_, _, _, _, rfl, S372421, (i372407.tr i372415), (els51123.mono (up_mono ((i102203.tr i372407).tr i372415))), nd51124⟩)⟩
            ·
              refine FW.condF rfl c372422 ?_
              refine FW.seq ?_
              refine FW.region ?_
              refine FL.val rfl rfl rfl (E.load rfl (run_loadA Tryz.isAgg89 Tryz.sizeOf89 (at372416.now S372421.sl) rfl)) ?_
              refine FL.call rfl rfl rfl (E.call Tryz.call87 (A1 rfl)) (w_impl_ResStep_isAxiom S372421.sl y64 v102192 (h102193.mono (((((i27.tr i42).tr i102177).tr i102203).tr i372407).tr i372415))) ?_
              rintro e w372423 ⟨rfl, r372424⟩
              refine ⟨_, rfl, ?_⟩
              have S372425 := S372421.call r372424
              refine FL.val rfl rfl rfl (E.assign (v := Value.bool (PF.impl_ResStep_isAxiom y64)) rfl) ?_
              refine FL.nil ?_
              rcases ifB hp with ⟨c372426, hp⟩ | ⟨c372426, hp⟩
              ·
                refine FW.condT rfl c372426 ?_
                refine FW.seq ?_
                obtain ⟨r387427, hr387428, hp⟩ := bnd hp
                obtain ⟨xs402427, hc402428, hp⟩ := bnd hp
                obtain ⟨r408427, hr408428, hp⟩ := bnd hp
                obtain ⟨s456446, hq456446, hp⟩ := bnd hp
                refine FW.drawB (Sl H372413) (fun f w => ∃ H : GH, ∃ v426427 : Value, ∃ n426428 : Nat, ∃ cs426429 : List Value, St Ha wa H w [.box b56 97 [v426427, v51116], .row 3 1 v51116 n51117 cs51118, .row 89 4 v426427 n426428 cs426429] ∧ Inc H372413 H ∧ Els (up wa.heap.size H) eResStep 4 cs426429 s456446.1 ∧ (bl cs426429).Nodup ∧ f 8 = Value.int .i64 s456446.2) (by kernel_rfl) S372425.sl ?_ ?_
                ·
                  intro w372427 r372428
                  have S372429 := S372425.call r372428
                  refine FB.take (i := 0) (l' := #[true, false, false, false, false, false, false, false, false, false, false, false, false, false, false, false]) rfl (by kernel_rfl) (by kernel_rfl) (by kernel_rfl) (by kernel_rfl) (by kernel_rfl) (SP.nil S372429.sl) rfl rfl rfl (fun w' hw' => (E.move (v := Value.pointer (some (⟨b56, 0, none⟩ : Addr))) rfl)) ?_
                  refine FB.take (i := 1) (l' := #[true, true, false, false, false, false, false, false, false, false, false, false, false, false, false, false]) rfl (by kernel_rfl) (by kernel_rfl) (by kernel_rfl) (by kernel_rfl) (by kernel_rfl) (SP.nil S372429.sl) rfl rfl rfl (fun w' hw' => (E.fieldAddr tf89_0 rfl)) ?_
                  refine FB.take (i := 2) (l' := #[true, true, true, false, false, false, false, false, false, false, false, false, false, false, false, false]) rfl (by kernel_rfl) (by kernel_rfl) (by kernel_rfl) (by kernel_rfl) (by kernel_rfl) (SP.nil S372429.sl) rfl rfl rfl (fun w' hw' => (E.load rfl (run_load1 Tryz.isAgg39 (at372416.now hw') rfl))) ?_
                  refine FB.take (i := 3) (l' := #[true, true, true, true, false, false, false, false, false, false, false, false, false, false, false, false]) rfl (by kernel_rfl) (by kernel_rfl) (by kernel_rfl) (by kernel_rfl) (by kernel_rfl) (SP.nil S372429.sl) rfl rfl rfl (fun w' hw' => (E.move (v := v2) rfl)) ?_
                  refine FB.take (i := 5) (l' := #[true, true, true, true, false, true, false, false, false, false, false, false, false, false, false, false]) rfl (by kernel_rfl) (by kernel_rfl) (by kernel_rfl) (by kernel_rfl) (by kernel_rfl) (SP.nil S372429.sl) rfl rfl rfl (fun w' hw' => (E.fieldAddr tf31_1 rfl)) ?_
                  refine FB.take (i := 6) (l' := #[true, true, true, true, false, true, true, false, false, false, false, false, false, false, false, false]) rfl (by kernel_rfl) (by kernel_rfl) (by kernel_rfl) (by kernel_rfl) (by kernel_rfl) (SP.nil S372429.sl) rfl rfl rfl (fun w' hw' => (E.load rfl (run_load1 Tryz.isAgg22 ((at372408.mono i372415).now hw') rfl))) ?_
                  refine FB.take (i := 7) (l' := #[true, true, true, true, false, true, true, true, false, false, false, false, false, false, false, false]) rfl (by kernel_rfl) (by kernel_rfl) (by kernel_rfl) (by kernel_rfl) (by kernel_rfl) (SP.nil S372429.sl) rfl rfl rfl (fun w' hw' => (E.fieldAddr tf89_2 rfl)) ?_
                  refine FB.take (i := 8) (l' := #[true, true, true, true, false, true, true, true, true, false, false, false, false, false, false, false]) rfl (by kernel_rfl) (by kernel_rfl) (by kernel_rfl) (by kernel_rfl) (by kernel_rfl) (SP.nil S372429.sl) rfl rfl rfl (fun w' hw' => (E.load rfl (run_load1 Tryz.isAgg3 (at372416.now hw') rfl))) ?_
                  obtain ⟨v402429, run402430, h402431⟩ := p0_1.cut te22 hc402428 (lo := none) (hi := some (Value.int .i64 y64.right)) (.inl ⟨rfl, rfl⟩) (.inr ⟨_, rfl⟩)
                  refine FB.take (i := 9) (l' := #[true, true, true, true, false, true, true, true, true, true, false, false, false, false, false, false]) rfl (by kernel_rfl) (by kernel_rfl) (by kernel_rfl) (by kernel_rfl) (by kernel_rfl) (SP.nil S372429.sl) rfl rfl rfl (fun w' hw' => (E.slice te22 rfl rfl (congrArg some rfl) rfl (run402430 _))) ?_
                  refine FB.take (i := 10) (l' := #[true, true, true, true, false, true, true, true, true, true, true, false, false, false, false, false]) rfl (by kernel_rfl) (by kernel_rfl) (by kernel_rfl) (by kernel_rfl) (by kernel_rfl) (SP.nil S372429.sl) rfl rfl rfl (fun w' hw' => (E.move (v := v2) rfl)) ?_
                  refine FB.all1 (i := 4) (by kernel_rfl) ?_
                  ·
                    refine FC.call (l' := #[true, true, true, true, true, true, true, true, true, true, true, false, false, false, false, false]) rfl (by kernel_rfl) rfl rfl rfl (E.call Tryz.call144 (A2 rfl rfl)) (w_impl_openPart S372429.sl v102192 y64.clause (h102193.mono (((((i27.tr i42).tr i102177).tr i102203).tr i372407).tr i372415)) v2 a2 (p2.mono (((((i27.tr i42).tr i102177).tr i102203).tr i372407).tr i372415)) hr387428) ?_
                    rintro e w387430 ⟨H387429, v387433, n387434, cs387435, rfl, r387432, els387436⟩
                    refine ⟨_, rfl, ?_⟩
                    have els387436 := els387436.mono (up_le S372429.size)
                    have S387431 := S372429.join (l' := [.row 3 1 v387433 n387434 cs387435, .box b56 97 [v51120, v51116], .row 3 1 v51116 n51117 cs51118, .row 89 4 v51120 n51121 cs51122]) r387432 rfl
                    refine ⟨(SP.nil (Sl.of_inc r387432.run.inc S387431.sl)), ?_⟩
                    refine FB.all1 (i := 11) (by kernel_rfl) ?_
                    ·
                      refine FC.call (l' := #[true, true, true, true, true, true, true, true, true, true, true, true, false, false, false, false]) rfl (by kernel_rfl) rfl rfl rfl (E.call Tryz.call145 (A2 rfl rfl)) (w_impl_restrict S387431.sl v402429 xs402427 (h402431.mono ((((((i27.tr i42).tr i102177).tr i102203).tr i372407).tr i372415).tr r387432.run.inc)) v2 a2 (p2.mono ((((((i27.tr i42).tr i102177).tr i102203).tr i372407).tr i372415).tr r387432.run.inc)) hr408428) ?_
                      rintro e w408430 ⟨H408429, v408433, n408434, cs408435, rfl, r408432, els408436, nd408437⟩
                      refine ⟨_, rfl, ?_⟩
                      have nv408438 : New H387429 cs408435 := New.of_up S387431.sl els408436.dom
                      have els408436 := els408436.mono (up_le S387431.size)
                      have S408431 := S387431.join (l' := [.row 39 1 v408433 n408434 cs408435, .row 3 1 v387433 n387434 cs387435, .box b56 97 [v51120, v51116], .row 3 1 v51116 n51117 cs51118, .row 89 4 v51120 n51121 cs51122]) r408432 rfl
                      refine ⟨(SP.nil (Sl.of_inc (r387432.run.inc.tr r408432.run.inc) S408431.sl)), ?_⟩
                      refine FB.take (i := 12) (l' := #[true, true, true, true, true, true, true, true, true, true, true, true, true, false, false, false]) rfl (by kernel_rfl) (by kernel_rfl) (by kernel_rfl) (by kernel_rfl) (by kernel_rfl) (SP.nil (Sl.of_inc (r387432.run.inc.tr r408432.run.inc) S408431.sl)) rfl rfl rfl (fun w' hw' => (E.lenOW te22 rfl S408431 (i := 0) rfl els408436 (by decide))) ?_
                      obtain ⟨H414427, S414428, i414429, h414430, nv414431⟩ := S408431.sealRowU (i := 1) (l' := [.row 39 1 v408433 n408434 cs408435, .box b56 97 [v51120, v51116], .row 3 1 v51116 n51117 cs51118, .row 89 4 v51120 n51121 cs51122]) rfl (els387436.mono (up_mono r408432.run.inc)) (by decide) rfl
                      refine FB.take (i := 13) (l' := #[true, true, true, true, true, true, true, true, true, true, true, true, true, true, false, false]) rfl (by kernel_rfl) (by kernel_rfl) (by kernel_rfl) (by kernel_rfl) (by kernel_rfl) (SP.nil (Sl.of_inc (r387432.run.inc.tr r408432.run.inc) S408431.sl)) rfl rfl rfl (fun w' hw' => (E.build (B3 rfl rfl rfl) (run_build _ 89 #[(0, v387433), (1, Value.int .i64 (-1)), (2, Value.int .i64 (len r408427))] #[v387433, Value.int .i64 (-1), Value.int .i64 (len r408427), Value.int .i64 0] (by obtain ⟨_, _, rfl⟩ := RSl.ln (h414430.mono upI); rfl)))) ?_
                      refine FB.all1 (i := 14) (by kernel_rfl) ?_
                      ·
                        obtain ⟨R456446, hR456446⟩ : ∃ R456446 : ((List ResStep) × Int) → Ending → World → Prop, R456446 = (fun s456446 e w => ∃ H : GH, ∃ v456447 : Value, ∃ n456448 : Nat, ∃ cs456449 : List Value, e = Ending.returned (Value.int .i64 s456446.2) ∧ St Ha wa H w [.row 39 1 v408433 n408434 cs408435, .box b56 97 [v456447, v51116], .row 3 1 v51116 n51117 cs51118, .row 89 4 v456447 n456448 cs456449] ∧ Inc H414427 H ∧ Els (up wa.heap.size H) eResStep 4 cs456449 s456446.1 ∧ (bl cs456449).Nodup) := ⟨_, rfl⟩
                        have hc456446 : Calls Tryz.prog 136 #[Value.pointer (some (⟨b56, 0, none⟩ : Addr)), Value.agg #[v387433, Value.int .i64 (-1), Value.int .i64 (len r408427), Value.int .i64 0]] w408430 (R456446 s456446) := by
                          clear hp; have hp := hq456446; clear hq456446
                          refine calls_go (N := 21) (args := [Value.pointer (some (⟨b56, 0, none⟩ : Addr)), Value.agg #[v387433, Value.int .i64 (-1), Value.int .i64 (len r408427), Value.int .i64 0]]) Tryz.func136 rfl rfl rfl ?_
                          refine FW.seq ?_
                          refine FW.region ?_
                          obtain ⟨b456452, w456453, run456454, S456455⟩ := S414428.box (P := Tryz.prog) 89 [v387433, Value.int .i64 (-1), Value.int .i64 (len r408427), Value.int .i64 0] (v := Value.agg #[v387433, Value.int .i64 (-1), Value.int .i64 (len r408427), Value.int .i64 0]) rfl (ones_cons h414430.one (ones_cons rfl (ones_cons rfl (ones_cons rfl ones_nil))))
                          refine FL.val rfl rfl rfl (E.box rfl run456454) ?_
                          obtain ⟨H456456, S456457, i456458, at456459⟩ := S456455.sealBox (i := 0) (l' := [.row 39 1 v408433 n408434 cs408435, .box b56 97 [v51120, v51116], .row 3 1 v51116 n51117 cs51118, .row 89 4 v51120 n51121 cs51122]) rfl rfl
                          refine FL.val rfl rfl rfl (E.assign (v := Value.int .i64 0) rfl) ?_
                          refine FL.nil ?_
                          refine FW.seq ?_
                          obtain ⟨xs480460, hz480461, hp⟩ := bnd hp
                          refine FW.drawB (Sl H456456) (fun f w => ∃ H : GH, ∃ v495460 : Value, ∃ n495461 : Nat, ∃ cs495462 : List Value, St Ha wa H w [.row 39 1 v408433 n408434 cs408435, .box b56 97 [v495460, v51116], .row 3 1 v51116 n51117 cs51118, .row 89 4 v495460 n495461 cs495462] ∧ Inc H456456 H ∧ Els (up wa.heap.size H) eResStep 4 cs495462 xs480460 ∧ (bl cs495462).Nodup ∧ f 0 = Value.pointer (some (⟨b56, 0, none⟩ : Addr))) (by kernel_rfl) S456457.sl ?_ ?_
                          ·
                            intro w456460 r456461
                            have S456462 := S456457.call r456461
                            refine FB.phase [10] (fun w => WAt w (Addr.add ⟨b56, 0, none⟩ 0) [v51120]) ?_
                            refine FB.take (i := 0) (l' := #[true, false, false, false, false, false, false, false, false, false, false]) rfl (by kernel_rfl) (by kernel_rfl) (by kernel_rfl) (by kernel_rfl) (by kernel_rfl) (SP.on ((S456462.box_now (i := 1) rfl).sub (j := 0) (n := 1) (c := [v51120]) rfl) (SP.nil S456462.sl)) rfl rfl rfl (fun w' hw' => (E.move (v := Value.pointer (some (⟨b56, 0, none⟩ : Addr))) rfl)) ?_
                            refine FB.take (i := 1) (l' := #[true, true, false, false, false, false, false, false, false, false, false]) rfl (by kernel_rfl) (by kernel_rfl) (by kernel_rfl) (by kernel_rfl) (by kernel_rfl) (SP.on ((S456462.box_now (i := 1) rfl).sub (j := 0) (n := 1) (c := [v51120]) rfl) (SP.nil S456462.sl)) rfl rfl rfl (fun w' hw' => (E.move (v := Value.pointer (some (⟨b56, 0, none⟩ : Addr))) rfl)) ?_
                            refine FB.take (i := 2) (l' := #[true, true, true, false, false, false, false, false, false, false, false]) rfl (by kernel_rfl) (by kernel_rfl) (by kernel_rfl) (by kernel_rfl) (by kernel_rfl) (SP.on ((S456462.box_now (i := 1) rfl).sub (j := 0) (n := 1) (c := [v51120]) rfl) (SP.nil S456462.sl)) rfl rfl rfl (fun w' hw' => (E.nilCheck rfl)) ?_
                            refine FB.take (i := 3) (l' := #[true, true, true, true, false, false, false, false, false, false, false]) rfl (by kernel_rfl) (by kernel_rfl) (by kernel_rfl) (by kernel_rfl) (by kernel_rfl) (SP.on ((S456462.box_now (i := 1) rfl).sub (j := 0) (n := 1) (c := [v51120]) rfl) (SP.nil S456462.sl)) rfl rfl rfl (fun w' hw' => (E.fieldAddr tf97_0 rfl)) ?_
                            refine FB.takeP (i := 4) (l' := #[true, true, true, true, true, false, false, false, false, false, false]) 0 [7, 8, 9, 10] rfl rfl (by kernel_rfl) (by kernel_rfl) (by kernel_rfl) (by kernel_rfl) (by kernel_rfl) (by kernel_rfl) (SP.on ((S456462.box_now (i := 1) rfl).sub (j := 0) (n := 1) (c := [v51120]) rfl) (SP.nil S456462.sl)) rfl rfl rfl (fun w' hw' => (E.load rfl (run_load0 Tryz.isAgg28 hw' rfl))) ?_
                            refine FB.take (i := 5) (l' := #[true, true, true, true, true, true, false, false, false, false, false]) rfl (by kernel_rfl) (by kernel_rfl) (by kernel_rfl) (by kernel_rfl) (by kernel_rfl) (SP.on ((S456462.box_now (i := 1) rfl).sub (j := 0) (n := 1) (c := [v51120]) rfl) (SP.nil S456462.sl)) rfl rfl rfl (fun w' hw' => (E.load rfl (run_loadA Tryz.isAgg89 Tryz.sizeOf89 (at456459.now hw') rfl))) ?_
                            refine FB.all1 (i := 6) (by kernel_rfl) ?_
                            ·
                              obtain ⟨v477460, w477461, run477462, S477463⟩ := S456462.buildSlice (P := Tryz.prog) te28 [Value.agg #[v387433, Value.int .i64 (-1), Value.int .i64 (len r408427), Value.int .i64 0]] (parts := #[(0, Value.agg #[v387433, Value.int .i64 (-1), Value.int .i64 (len r408427), Value.int .i64 0])]) (cells := [v387433, Value.int .i64 (-1), Value.int .i64 (len r408427), Value.int .i64 0]) rfl (szs_cons rfl szs_nil) (fc_cons rfl fc_nil) (ones_cons h414430.one (ones_cons rfl (ones_cons rfl (ones_cons rfl ones_nil)))) (Nat.le_of_ble_eq_true rfl)
                              have els477464 : Els (up wa.heap.size H456456) eResStep 4 [v387433, Value.int .i64 (-1), Value.int .i64 (len r408427), Value.int .i64 0] [(ResStep.mk r387427 (-1) (len r408427) 0)] := (Els.snoc (H := (up wa.heap.size H456456)) (E := eResStep) (k := 4) (c := [v387433, Value.int .i64 (-1), Value.int .i64 (len r408427), Value.int .i64 0]) (x := (ResStep.mk r387427 (-1) (len r408427) 0)) Els.nil rfl ⟨_, rfl, (h414430.mono (up_mono i456458))⟩)
                              have nd477465 : (bl [v387433, Value.int .i64 (-1), Value.int .i64 (len r408427), Value.int .i64 0]).Nodup := by exact nd_one v387433
                              refine FC.val (l' := #[true, true, true, true, true, true, true, false, false, false, false]) rfl (by kernel_rfl) rfl rfl rfl (E.buildSlice (B1 rfl) run477462) ?_
                              refine ⟨(SP.on ((S477463.box_now (i := 2) rfl).sub (j := 0) (n := 1) (c := [v51120]) rfl) (SP.nil S477463.sl)), ?_⟩
                              refine FB.all1 (i := 7) (by kernel_rfl) ?_
                              ·
                                obtain ⟨v480462, w480465, n480463, cs480464, run480466, S480467, els480468, ce480469⟩ := S477463.appendO (P := Tryz.prog) te28 (i := 4) (j := 0) rfl (els51123.mono (up_mono ((((((i102203.tr i372407).tr i372415).tr r387432.run.inc).tr r408432.run.inc).tr i414429).tr i456458))) rfl els477464 hz480461
                                have S480467 : St Ha wa H456456 w480465 [.row 89 4 v477460 1 [v387433, Value.int .i64 (-1), Value.int .i64 (len r408427), Value.int .i64 0], .row 39 1 v408433 n408434 cs408435, .box b56 97 [v51120, v51116], .row 3 1 v51116 n51117 cs51118, .row 89 4 v480462 n480463 cs480464] := S480467
                                have nd480470 : (bl cs480464).Nodup := by rw [ce480469]; exact nd_app nd51124 nd477465 (Els.dom (els51123.mono (upI.tr ((((i102203.tr i372407).tr i372415).tr r387432.run.inc).tr r408432.run.inc)))) (by exact nv414431)
                                have S480471 : St Ha wa H456456 w480465 [.row 39 1 v408433 n408434 cs408435, .box b56 97 [v51120, v51116], .row 3 1 v51116 n51117 cs51118, .row 89 4 v480462 n480463 cs480464] := S480467.drop 0
                                refine FC.val (l' := #[true, true, true, true, true, true, true, true, false, false, false]) rfl (by kernel_rfl) rfl rfl rfl (E.append rfl rfl run480466) ?_
                                refine ⟨(SP.on ((S480471.box_now (i := 1) rfl).sub (j := 0) (n := 1) (c := [v51120]) rfl) (SP.nil S480471.sl)), ?_⟩
                                refine FB.take (i := 8) (l' := #[true, true, true, true, true, true, true, true, true, false, false]) rfl (by kernel_rfl) (by kernel_rfl) (by kernel_rfl) (by kernel_rfl) (by kernel_rfl) (SP.on ((S480471.box_now (i := 1) rfl).sub (j := 0) (n := 1) (c := [v51120]) rfl) (SP.nil S480471.sl)) rfl rfl rfl (fun w' hw' => (E.nilCheck rfl)) ?_
                                refine FB.take (i := 9) (l' := #[true, true, true, true, true, true, true, true, true, true, false]) rfl (by kernel_rfl) (by kernel_rfl) (by kernel_rfl) (by kernel_rfl) (by kernel_rfl) (SP.on ((S480471.box_now (i := 1) rfl).sub (j := 0) (n := 1) (c := [v51120]) rfl) (SP.nil S480471.sl)) rfl rfl rfl (fun w' hw' => (E.fieldAddr tf97_0 rfl)) ?_
                                refine FB.all1 (i := 10) (by kernel_rfl) ?_
                                ·
                                  obtain ⟨w489460, run489461, S489462⟩ := S480471.store (P := Tryz.prog) (t := 28) (i := 1) (j := 0) (cs' := [v480462, v51116]) (l' := [.row 39 1 v408433 n408434 cs408435, .box b56 97 [v480462, v51116], .row 3 1 v51116 n51117 cs51118, .row 89 4 v480462 n480463 cs480464]) (v := v480462) (c := [v480462]) rfl Tryz.sizeOf28 (Ln.cells (S480471.row_ln (i := 3) rfl)) rfl (ones_cons (Ln.one (S480471.row_ln (i := 3) rfl)) ones_nil) (Nat.le_of_ble_eq_true rfl) rfl rfl
                                  refine FC.act (l' := #[true, true, true, true, true, true, true, true, true, true, true]) rfl (by kernel_rfl) rfl rfl (E.store rfl rfl run489461) ?_
                                  refine ⟨(SP.off (by kernel_rfl) (SP.nil S489462.sl)), ?_⟩
                                  exact FB.done (by kernel_rfl) ⟨_, _, _, _, S489462, (Inc.rfl _), els480468, nd480470, rfl⟩
                          ·
                            rintro f495470 w495469 ⟨H495466, v495460, n495461, cs495462, S495467, i495468, els495463, nd495464, k495471⟩
                            refine FW.seq ?_
                            refine FW.region ?_
                            refine FL.val rfl rfl rfl (E.move k495471) ?_
                            refine FL.val rfl rfl rfl (E.nilCheck rfl) ?_
                            refine FL.val rfl rfl rfl (E.fieldAddr tf97_0 rfl) ?_
                            refine FL.val rfl rfl rfl (E.load rfl (run_load1 Tryz.isAgg28 (S495467.box_now (i := 1) rfl) rfl)) ?_
                            refine FL.val rfl rfl rfl (E.lenO te28 rfl S495467 (i := 3) rfl els495463 (by decide)) ?_
                            refine FL.val rfl rfl rfl (E.sub rfl rfl) ?_
                            refine FL.val rfl rfl rfl (E.assign (v := Value.int .i64 (wr ((len xs480460) - 1))) rfl) ?_
                            refine FL.nil ?_
                            refine FW.ret ?_
                            obtain rfl := Option.some.inj hp
                            exact ⟨.inr rfl, res1 rfl rfl (by rw [hR456446]; exact ⟨_, _, _, _, rfl, S495467, (i456458.tr i495468), els495463, nd495464⟩)⟩
                        clear hq456446
                        refine FC.call (l' := #[true, true, true, true, true, true, true, true, true, true, true, true, true, true, true, false]) rfl (by kernel_rfl) rfl rfl rfl (E.call Tryz.call136 (A2 rfl rfl)) hc456446 ?_
                        intro e w495475 hQ456446
                        rw [hR456446] at hQ456446
                        obtain ⟨H495472, v456447, n456448, cs456449, rfl, S495473, i495474, els456450, nd456451⟩ := hQ456446
                        refine ⟨_, rfl, ?_⟩
                        refine ⟨(SP.nil (Sl.of_inc (((r387432.run.inc.tr r408432.run.inc).tr i414429).tr i495474) S495473.sl)), ?_⟩
                        refine FB.take (i := 15) (l' := #[true, true, true, true, true, true, true, true, true, true, true, true, true, true, true, true]) rfl (by kernel_rfl) (by kernel_rfl) (by kernel_rfl) (by kernel_rfl) (by kernel_rfl) (SP.nil (Sl.of_inc (((r387432.run.inc.tr r408432.run.inc).tr i414429).tr i495474) S495473.sl)) rfl rfl rfl (fun w' hw' => (E.assign (v := Value.int .i64 s456446.2) rfl)) ?_
                        exact FB.done (by kernel_rfl) ⟨_, _, _, _, (S495473.sel [1, 2, 3] (by decide) rfl), (((r387432.run.inc.tr r408432.run.inc).tr i414429).tr i495474), els456450, nd456451, rfl⟩
                ·
                  rintro f426437 w426436 ⟨H426433, v426427, n426428, cs426429, S426434, i426435, els426430, nd426431, k426438⟩
                  refine FW.ret ?_
                  obtain rfl := Option.some.inj hp
                  exact ⟨.inr rfl, res1 rfl k426438 (by rw [hR372395]; exact ⟨_, _, _, _, rfl, S426434, ((i372407.tr i372415).tr i426435), els426430, nd426431⟩)⟩
              ·
                refine FW.condF rfl c372426 ?_
                refine FW.seq ?_
                refine FW.region ?_
                refine FL.val rfl rfl rfl (E.load rfl (run_loadA Tryz.isAgg89 Tryz.sizeOf89 (at372416.now S372425.sl) rfl)) ?_
                refine FL.call rfl rfl rfl (E.call Tryz.call89 (A1 rfl)) (w_impl_ResStep_isWeakening S372425.sl y64 v102192 (h102193.mono (((((i27.tr i42).tr i102177).tr i102203).tr i372407).tr i372415))) ?_
                rintro e w426439 ⟨rfl, r426440⟩
                refine ⟨_, rfl, ?_⟩
                have S426441 := S372425.call r426440
                refine FL.val rfl rfl rfl (E.assign (v := Value.bool (PF.impl_ResStep_isWeakening y64)) rfl) ?_
                refine FL.nil ?_
                rcases ifB hp with ⟨c426442, hp⟩ | ⟨c426442, hp⟩
                ·
                  refine FW.condT rfl c426442 ?_
                  refine FW.seq ?_
                  refine FW.draw (fun w' => Run w426439.heap.size H372413 w426439 H372413 w') (by kernel_rfl) (by kernel_rfl) (run_drew S426441.sl) ?_
                  refine FD.val rfl rfl rfl (fun w' hw' => (E.move (v := Value.pointer (some (⟨b56, 0, none⟩ : Addr))) rfl)) ?_
                  refine FD.val rfl rfl rfl (fun w' hw' => (E.nilCheck rfl)) ?_
                  refine FD.val rfl rfl rfl (fun w' hw' => (E.fieldAddr tf97_1 rfl)) ?_
                  refine FD.val rfl rfl rfl (fun w' hw' => (E.load rfl (run_load1 Tryz.isAgg39 ((S426441.call hw').box_now (i := 0) rfl) rfl))) ?_
                  refine FD.val rfl rfl rfl (fun w' hw' => (E.fieldAddr tf89_1 rfl)) ?_
                  refine FD.val rfl rfl rfl (fun w' hw' => (E.load rfl (run_load1 Tryz.isAgg3 (at372416.now (S426441.call hw').sl) rfl))) ?_
                  obtain ⟨x426450, hx426451, hp⟩ := bnd hp
                  obtain ⟨p426444, cs426445, pt426446, l426447, at426448, rel426449⟩ := S426441.row_at (i := 1) rfl els51119 (by decide) hx426451
                  obtain rfl := eI_open rel426449
                  refine FD.val rfl rfl rfl (fun w' hw' => (E.indexAddr te39 rfl rfl pt426446)) ?_
                  refine FD.val rfl rfl rfl (fun w' hw' => (E.load rfl (run_load0 Tryz.isAgg3 (at426448.cls hw') rfl))) ?_
                  refine FD.val rfl rfl rfl (fun w' hw' => (E.assign (v := Value.int .i64 x426450) rfl)) ?_
                  refine FD.nil ?_
                  intro w426452 r426454
                  have S426453 := S426441.call r426454
                  refine FW.ret ?_
                  obtain rfl := Option.some.inj hp
                  exact ⟨.inr rfl, res1 rfl rfl (by rw [hR372395]; exact ⟨_, _, _, _, rfl, S426453, (i372407.tr i372415), (els51123.mono (up_mono ((i102203.tr i372407).tr i372415))), nd51124⟩)⟩
                ·
                  refine FW.condF rfl c426442 ?_
                  refine FW.skip ?_
                  refine FW.seq ?_
                  refine FW.draw (fun w' => Run w426439.heap.size H372413 w426439 H372413 w') (by kernel_rfl) (by kernel_rfl) (run_drew S426441.sl) ?_
                  refine FD.val rfl rfl rfl (fun w' hw' => (E.move (v := Value.pointer (some (⟨b56, 0, none⟩ : Addr))) rfl)) ?_
                  refine FD.val rfl rfl rfl (fun w' hw' => (E.nilCheck rfl)) ?_
                  refine FD.val rfl rfl rfl (fun w' hw' => (E.fieldAddr tf97_1 rfl)) ?_
                  refine FD.val rfl rfl rfl (fun w' hw' => (E.load rfl (run_load1 Tryz.isAgg39 ((S426441.call hw').box_now (i := 0) rfl) rfl))) ?_
                  refine FD.val rfl rfl rfl (fun w' hw' => (E.fieldAddr tf89_1 rfl)) ?_
                  refine FD.val rfl rfl rfl (fun w' hw' => (E.load rfl (run_load1 Tryz.isAgg3 (at372416.now (S426441.call hw').sl) rfl))) ?_
                  obtain ⟨x426462, hx426463, hp⟩ := bnd hp
                  obtain ⟨p426456, cs426457, pt426458, l426459, at426460, rel426461⟩ := S426441.row_at (i := 1) rfl els51119 (by decide) hx426463
                  obtain rfl := eI_open rel426461
                  refine FD.val rfl rfl rfl (fun w' hw' => (E.indexAddr te39 rfl rfl pt426458)) ?_
                  refine FD.val rfl rfl rfl (fun w' hw' => (E.load rfl (run_load0 Tryz.isAgg3 (at426460.cls hw') rfl))) ?_
                  refine FD.val rfl rfl rfl (fun w' hw' => (E.move (v := Value.pointer (some (⟨b56, 0, none⟩ : Addr))) rfl)) ?_
                  refine FD.val rfl rfl rfl (fun w' hw' => (E.nilCheck rfl)) ?_
                  refine FD.val rfl rfl rfl (fun w' hw' => (E.fieldAddr tf97_1 rfl)) ?_
                  refine FD.val rfl rfl rfl (fun w' hw' => (E.load rfl (run_load1 Tryz.isAgg39 ((S426441.call hw').box_now (i := 0) rfl) rfl))) ?_
                  refine FD.val rfl rfl rfl (fun w' hw' => (E.fieldAddr tf89_2 rfl)) ?_
                  refine FD.val rfl rfl rfl (fun w' hw' => (E.load rfl (run_load1 Tryz.isAgg3 (at372416.now (S426441.call hw').sl) rfl))) ?_
                  obtain ⟨x426470, hx426471, hp⟩ := bnd hp
                  obtain ⟨p426464, cs426465, pt426466, l426467, at426468, rel426469⟩ := S426441.row_at (i := 1) rfl els51119 (by decide) hx426471
                  obtain rfl := eI_open rel426469
                  refine FD.val rfl rfl rfl (fun w' hw' => (E.indexAddr te39 rfl rfl pt426466)) ?_
                  refine FD.val rfl rfl rfl (fun w' hw' => (E.load rfl (run_load0 Tryz.isAgg3 (at426468.cls hw') rfl))) ?_
                  refine FD.val rfl rfl rfl (fun w' hw' => (E.assign (v := Value.int .i64 x426462) rfl)) ?_
                  refine FD.val rfl rfl rfl (fun w' hw' => (E.assign (v := Value.int .i64 x426470) rfl)) ?_
                  refine FD.nil ?_
                  intro w426472 r426474
                  have S426473 := S426441.call r426474
                  refine FW.seq ?_
                  refine FW.block ?_
                  refine FW.seq ?_
                  refine FW.region ?_
                  refine FL.val rfl rfl rfl (E.move (v := Value.int .i64 x426462) rfl) ?_
                  refine FL.val rfl rfl rfl (E.lss rfl rfl) ?_
                  refine FL.val rfl rfl rfl (E.assign (v := Value.bool (decide (x426462 < 0))) rfl) ?_
                  refine FL.nil ?_
                  rcases ifB hp with ⟨c426475, hp⟩ | ⟨c426475, hp⟩
                  ·
                    refine FW.condT rfl c426475 ?_
                    refine FW.seq ?_
                    refine FW.region ?_
                    refine FL.val rfl rfl rfl (E.move (v := Value.int .i64 x426470) rfl) ?_
                    refine FL.val rfl rfl rfl (E.assign (v := Value.int .i64 x426470) rfl) ?_
                    refine FL.nil ?_
                    refine FW.ret ?_
                    obtain rfl := Option.some.inj hp
                    exact ⟨.inr rfl, res1 rfl rfl (by rw [hR372395]; exact ⟨_, _, _, _, rfl, S426473, (i372407.tr i372415), (els51123.mono (up_mono ((i102203.tr i372407).tr i372415))), nd51124⟩)⟩
                  ·
                    refine FW.condF rfl c426475 ?_
                    refine FW.seq ?_
                    refine FW.region ?_
                    refine FL.val rfl rfl rfl (E.move (v := Value.int .i64 x426470) rfl) ?_
                    refine FL.val rfl rfl rfl (E.lss rfl rfl) ?_
                    refine FL.val rfl rfl rfl (E.assign (v := Value.bool (decide (x426470 < 0))) rfl) ?_
                    refine FL.nil ?_
                    rcases ifB hp with ⟨c426476, hp⟩ | ⟨c426476, hp⟩
                    ·
                      refine FW.condT rfl c426476 ?_
                      refine FW.seq ?_
                      refine FW.region ?_
                      refine FL.val rfl rfl rfl (E.move (v := Value.int .i64 x426462) rfl) ?_
                      refine FL.val rfl rfl rfl (E.assign (v := Value.int .i64 x426462) rfl) ?_
                      refine FL.nil ?_
                      refine FW.ret ?_
                      obtain rfl := Option.some.inj hp
                      exact ⟨.inr rfl, res1 rfl rfl (by rw [hR372395]; exact ⟨_, _, _, _, rfl, S426473, (i372407.tr i372415), (els51123.mono (up_mono ((i102203.tr i372407).tr i372415))), nd51124⟩)⟩
                    ·
                      refine FW.condF rfl c426476 ?_
                      refine FW.skip ?_
                      refine FW.seq ?_
                      refine FW.region ?_
                      refine FL.val rfl rfl rfl (E.move (v := Value.pointer (some (⟨b56, 0, none⟩ : Addr))) rfl) ?_
                      refine FL.val rfl rfl rfl (E.move (v := Value.int .i64 x426462) rfl) ?_
                      refine FL.val rfl rfl rfl (E.move (v := Value.int .i64 x426470) rfl) ?_
                      refine FL.val rfl rfl rfl (E.fieldAddr tf89_3 rfl) ?_
                      refine FL.val rfl rfl rfl (E.load rfl (run_load1 Tryz.isAgg3 (at372416.now S426473.sl) rfl)) ?_
                      obtain ⟨s612581, hq612581, hp⟩ := bnd hp
                      obtain ⟨R612581, hR612581⟩ : ∃ R612581 : ((List ResStep) × Int) → Ending → World → Prop, R612581 = (fun s612581 e w => ∃ H : GH, ∃ v612582 : Value, ∃ n612583 : Nat, ∃ cs612584 : List Value, e = Ending.returned (Value.int .i64 s612581.2) ∧ St Ha wa H w [.box b56 97 [v612582, v51116], .row 3 1 v51116 n51117 cs51118, .row 89 4 v612582 n612583 cs612584] ∧ Inc H372413 H ∧ Els (up wa.heap.size H) eResStep 4 cs612584 s612581.1 ∧ (bl cs612584).Nodup) := ⟨_, rfl⟩
                      have hc612581 : Calls Tryz.prog 138 #[Value.pointer (some (⟨b56, 0, none⟩ : Addr)), Value.int .i64 x426462, Value.int .i64 x426470, Value.int .i64 y64.pivot] w426472 (R612581 s612581) := by
                        clear hp; have hp := hq612581; clear hq612581
                        refine calls_go (N := 66) (args := [Value.pointer (some (⟨b56, 0, none⟩ : Addr)), Value.int .i64 x426462, Value.int .i64 x426470, Value.int .i64 y64.pivot]) Tryz.func138 rfl rfl rfl ?_
                        refine FW.seq ?_
                        refine FW.region ?_
                        refine FL.val rfl rfl rfl (E.assign (v := Value.int .i64 0) rfl) ?_
                        refine FL.nil ?_
                        refine FW.seq ?_
                        refine FW.block ?_
                        refine FW.seq ?_
                        refine FW.region ?_
                        refine FL.val rfl rfl rfl (E.move (v := Value.pointer (some (⟨b56, 0, none⟩ : Addr))) rfl) ?_
                        refine FL.val rfl rfl rfl (E.nilCheck rfl) ?_
                        refine FL.val rfl rfl rfl (E.fieldAddr tf97_0 rfl) ?_
                        refine FL.val rfl rfl rfl (E.load rfl (run_load1 Tryz.isAgg28 (S426473.box_now (i := 0) rfl) rfl)) ?_
                        refine FL.val rfl rfl rfl (E.move (v := Value.int .i64 x426462) rfl) ?_
                        obtain ⟨x612593, hx612594, hp⟩ := bnd hp
                        obtain ⟨p612587, cs612588, pt612589, l612590, at612591, rel612592⟩ := S426473.row_at (i := 2) rfl els51123 (by decide) hx612594
                        obtain ⟨v612595, rfl, h612596⟩ := eResStep_open rel612592
                        refine FL.val rfl rfl rfl (E.indexAddr te28 rfl rfl pt612589) ?_
                        refine FL.val rfl rfl rfl (E.fieldAddr tf89_0 rfl) ?_
                        refine FL.val rfl rfl rfl (E.load rfl (run_load1 Tryz.isAgg39 at612591 rfl)) ?_
                        refine FL.val rfl rfl rfl (E.move (v := Value.int .i64 y64.pivot) rfl) ?_
                        obtain ⟨r612597, hr612598, hp⟩ := bnd hp
                        refine FL.call rfl rfl rfl (E.call Tryz.call162 (A2 rfl rfl)) (w_slices_Contains_int_int S426473.sl v612595 x612593.clause (h612596.mono (upI.tr ((i102203.tr i372407).tr i372415))) y64.pivot hr612598) ?_
                        rintro e w612599 ⟨rfl, r612600⟩
                        refine ⟨_, rfl, ?_⟩
                        have S612601 := S426473.call r612600
                        refine FL.val rfl rfl rfl (E.not rfl) ?_
                        refine FL.val rfl rfl rfl (E.assign (v := Value.bool (!r612597)) rfl) ?_
                        refine FL.nil ?_
                        rcases ifB hp with ⟨c612602, hp⟩ | ⟨c612602, hp⟩
                        ·
                          refine FW.condT rfl c612602 ?_
                          refine FW.seq ?_
                          refine FW.region ?_
                          refine FL.val rfl rfl rfl (E.move (v := Value.int .i64 x426462) rfl) ?_
                          refine FL.val rfl rfl rfl (E.assign (v := Value.int .i64 x426462) rfl) ?_
                          refine FL.nil ?_
                          refine FW.ret ?_
                          obtain rfl := Option.some.inj hp
                          exact ⟨.inr rfl, res1 rfl rfl (by rw [hR612581]; exact ⟨_, _, _, _, rfl, S612601, (Inc.rfl _), (els51123.mono (up_mono ((i102203.tr i372407).tr i372415))), nd51124⟩)⟩
                        ·
                          refine FW.condF rfl c612602 ?_
                          refine FW.seq ?_
                          refine FW.region ?_
                          refine FL.val rfl rfl rfl (E.move (v := Value.pointer (some (⟨b56, 0, none⟩ : Addr))) rfl) ?_
                          refine FL.val rfl rfl rfl (E.nilCheck rfl) ?_
                          refine FL.val rfl rfl rfl (E.fieldAddr tf97_0 rfl) ?_
                          refine FL.val rfl rfl rfl (E.load rfl (run_load1 Tryz.isAgg28 (S612601.box_now (i := 0) rfl) rfl)) ?_
                          refine FL.val rfl rfl rfl (E.move (v := Value.int .i64 x426470) rfl) ?_
                          obtain ⟨x612609, hx612610, hp⟩ := bnd hp
                          obtain ⟨p612603, cs612604, pt612605, l612606, at612607, rel612608⟩ := S612601.row_at (i := 2) rfl els51123 (by decide) hx612610
                          obtain ⟨v612611, rfl, h612612⟩ := eResStep_open rel612608
                          refine FL.val rfl rfl rfl (E.indexAddr te28 rfl rfl pt612605) ?_
                          refine FL.val rfl rfl rfl (E.fieldAddr tf89_0 rfl) ?_
                          refine FL.val rfl rfl rfl (E.load rfl (run_load1 Tryz.isAgg39 at612607 rfl)) ?_
                          refine FL.val rfl rfl rfl (E.move (v := Value.int .i64 y64.pivot) rfl) ?_
                          refine FL.val rfl rfl rfl (E.neg rfl) ?_
                          obtain ⟨r612613, hr612614, hp⟩ := bnd hp
                          refine FL.call rfl rfl rfl (E.call Tryz.call162 (A2 rfl rfl)) (w_slices_Contains_int_int S612601.sl v612611 x612609.clause (h612612.mono (upI.tr ((i102203.tr i372407).tr i372415))) (wr (-y64.pivot)) hr612614) ?_
                          rintro e w612615 ⟨rfl, r612616⟩
                          refine ⟨_, rfl, ?_⟩
                          have S612617 := S612601.call r612616
                          refine FL.val rfl rfl rfl (E.not rfl) ?_
                          refine FL.val rfl rfl rfl (E.assign (v := Value.bool (!r612613)) rfl) ?_
                          refine FL.nil ?_
                          rcases ifB hp with ⟨c612618, hp⟩ | ⟨c612618, hp⟩
                          ·
                            refine FW.condT rfl c612618 ?_
                            refine FW.seq ?_
                            refine FW.region ?_
                            refine FL.val rfl rfl rfl (E.move (v := Value.int .i64 x426470) rfl) ?_
                            refine FL.val rfl rfl rfl (E.assign (v := Value.int .i64 x426470) rfl) ?_
                            refine FL.nil ?_
                            refine FW.ret ?_
                            obtain rfl := Option.some.inj hp
                            exact ⟨.inr rfl, res1 rfl rfl (by rw [hR612581]; exact ⟨_, _, _, _, rfl, S612617, (Inc.rfl _), (els51123.mono (up_mono ((i102203.tr i372407).tr i372415))), nd51124⟩)⟩
                          ·
                            refine FW.condF rfl c612618 ?_
                            refine FW.skip ?_
                            refine FW.seq ?_
                            obtain ⟨x630625, hx630626, hp⟩ := bnd hp
                            obtain ⟨x654625, hx654626, hp⟩ := bnd hp
                            obtain ⟨r666619, hr666620, hp⟩ := bnd hp
                            refine FW.drawB (SX Ha wa H372413 [.box b56 97 [v51120, v51116], .row 89 4 v51120 n51121 cs51122]) (fun f w => ∃ H : GH, ∃ v687619 : Value, ∃ n687620 : Nat, ∃ cs687621 : List Value, St Ha wa H w [.box b56 97 [v51120, v51116], .row 3 1 v51116 n51117 cs51118, .row 89 4 v51120 n51121 cs51122, .row 3 1 v687619 n687620 cs687621] ∧ Inc H372413 H ∧ Els (up wa.heap.size H) eI 1 cs687621 r666619.1 ∧ f 0 = Value.pointer (some (⟨b56, 0, none⟩ : Addr)) ∧ f 1 = Value.int .i64 x426462 ∧ f 2 = Value.int .i64 x426470 ∧ f 3 = Value.int .i64 y64.pivot ∧ f 9 = v687619) (by kernel_rfl) S612617.sl ?_ ?_
                            ·
                              intro w612619 r612620
                              have S612621 := S612617.call r612620
                              refine FB.take (i := 0) (l' := #[true, false, false, false, false, false, false, false, false, false, false, false, false, false, false, false, false, false, false, false, false, false, false]) rfl (by kernel_rfl) (by kernel_rfl) (by kernel_rfl) (by kernel_rfl) (by kernel_rfl) (SP.nil ⟨_, (S612621.sel [0, 2] (by decide) rfl), (Inc.rfl _)⟩) rfl rfl rfl (fun w' hw' => (E.move (v := Value.pointer (some (⟨b56, 0, none⟩ : Addr))) rfl)) ?_
                              refine FB.take (i := 1) (l' := #[true, true, false, false, false, false, false, false, false, false, false, false, false, false, false, false, false, false, false, false, false, false, false]) rfl (by kernel_rfl) (by kernel_rfl) (by kernel_rfl) (by kernel_rfl) (by kernel_rfl) (SP.nil ⟨_, (S612621.sel [0, 2] (by decide) rfl), (Inc.rfl _)⟩) rfl rfl rfl (fun w' hw' => (E.nilCheck rfl)) ?_
                              refine FB.take (i := 2) (l' := #[true, true, true, false, false, false, false, false, false, false, false, false, false, false, false, false, false, false, false, false, false, false, false]) rfl (by kernel_rfl) (by kernel_rfl) (by kernel_rfl) (by kernel_rfl) (by kernel_rfl) (SP.nil ⟨_, (S612621.sel [0, 2] (by decide) rfl), (Inc.rfl _)⟩) rfl rfl rfl (fun w' hw' => (E.fieldAddr tf97_0 rfl)) ?_
                              refine FB.take (i := 3) (l' := #[true, true, true, true, false, false, false, false, false, false, false, false, false, false, false, false, false, false, false, false, false, false, false]) rfl (by kernel_rfl) (by kernel_rfl) (by kernel_rfl) (by kernel_rfl) (by kernel_rfl) (SP.nil ⟨_, (S612621.sel [0, 2] (by decide) rfl), (Inc.rfl _)⟩) rfl rfl rfl (fun w' hw' => (E.load rfl (run_load1 Tryz.isAgg28 (SX.box_now hw' (i := 0) rfl) rfl))) ?_
                              refine FB.take (i := 4) (l' := #[true, true, true, true, true, false, false, false, false, false, false, false, false, false, false, false, false, false, false, false, false, false, false]) rfl (by kernel_rfl) (by kernel_rfl) (by kernel_rfl) (by kernel_rfl) (by kernel_rfl) (SP.nil ⟨_, (S612621.sel [0, 2] (by decide) rfl), (Inc.rfl _)⟩) rfl rfl rfl (fun w' hw' => (E.move (v := Value.int .i64 x426462) rfl)) ?_
                              obtain ⟨p630619, cs630620, pt630621, l630622, at630623, rel630624, hall630627⟩ := S612621.row_atA (i := 2) rfl els51123 (by decide) hx630626
                              obtain ⟨v630628, rfl, h630629⟩ := eResStep_open rel630624
                              refine FB.take (i := 5) (l' := #[true, true, true, true, true, true, false, false, false, false, false, false, false, false, false, false, false, false, false, false, false, false, false]) rfl (by kernel_rfl) (by kernel_rfl) (by kernel_rfl) (by kernel_rfl) (by kernel_rfl) (SP.nil ⟨_, (S612621.sel [0, 2] (by decide) rfl), (Inc.rfl _)⟩) rfl rfl rfl (fun w' hw' => (E.indexAddr te28 rfl rfl pt630621)) ?_
                              refine FB.take (i := 6) (l' := #[true, true, true, true, true, true, true, false, false, false, false, false, false, false, false, false, false, false, false, false, false, false, false]) rfl (by kernel_rfl) (by kernel_rfl) (by kernel_rfl) (by kernel_rfl) (by kernel_rfl) (SP.nil ⟨_, (S612621.sel [0, 2] (by decide) rfl), (Inc.rfl _)⟩) rfl rfl rfl (fun w' hw' => (E.fieldAddr tf89_0 rfl)) ?_
                              refine FB.take (i := 7) (l' := #[true, true, true, true, true, true, true, true, false, false, false, false, false, false, false, false, false, false, false, false, false, false, false]) rfl (by kernel_rfl) (by kernel_rfl) (by kernel_rfl) (by kernel_rfl) (by kernel_rfl) (SP.nil ⟨_, (S612621.sel [0, 2] (by decide) rfl), (Inc.rfl _)⟩) rfl rfl rfl (fun w' hw' => (E.load rfl (run_load1 Tryz.isAgg39 (hw'.use fun _ st => hall630627 _ _ _ 1 st rfl) rfl))) ?_
                              refine FB.take (i := 8) (l' := #[true, true, true, true, true, true, true, true, true, false, false, false, false, false, false, false, false, false, false, false, false, false, false]) rfl (by kernel_rfl) (by kernel_rfl) (by kernel_rfl) (by kernel_rfl) (by kernel_rfl) (SP.nil ⟨_, (S612621.sel [0, 2] (by decide) rfl), (Inc.rfl _)⟩) rfl rfl rfl (fun w' hw' => (E.move (v := Value.pointer (some (⟨b56, 0, none⟩ : Addr))) rfl)) ?_
                              refine FB.take (i := 9) (l' := #[true, true, true, true, true, true, true, true, true, true, false, false, false, false, false, false, false, false, false, false, false, false, false]) rfl (by kernel_rfl) (by kernel_rfl) (by kernel_rfl) (by kernel_rfl) (by kernel_rfl) (SP.nil ⟨_, (S612621.sel [0, 2] (by decide) rfl), (Inc.rfl _)⟩) rfl rfl rfl (fun w' hw' => (E.nilCheck rfl)) ?_
                              refine FB.take (i := 10) (l' := #[true, true, true, true, true, true, true, true, true, true, true, false, false, false, false, false, false, false, false, false, false, false, false]) rfl (by kernel_rfl) (by kernel_rfl) (by kernel_rfl) (by kernel_rfl) (by kernel_rfl) (SP.nil ⟨_, (S612621.sel [0, 2] (by decide) rfl), (Inc.rfl _)⟩) rfl rfl rfl (fun w' hw' => (E.fieldAddr tf97_0 rfl)) ?_
                              refine FB.take (i := 11) (l' := #[true, true, true, true, true, true, true, true, true, true, true, true, false, false, false, false, false, false, false, false, false, false, false]) rfl (by kernel_rfl) (by kernel_rfl) (by kernel_rfl) (by kernel_rfl) (by kernel_rfl) (SP.nil ⟨_, (S612621.sel [0, 2] (by decide) rfl), (Inc.rfl _)⟩) rfl rfl rfl (fun w' hw' => (E.load rfl (run_load1 Tryz.isAgg28 (SX.box_now hw' (i := 0) rfl) rfl))) ?_
                              refine FB.take (i := 12) (l' := #[true, true, true, true, true, true, true, true, true, true, true, true, true, false, false, false, false, false, false, false, false, false, false]) rfl (by kernel_rfl) (by kernel_rfl) (by kernel_rfl) (by kernel_rfl) (by kernel_rfl) (SP.nil ⟨_, (S612621.sel [0, 2] (by decide) rfl), (Inc.rfl _)⟩) rfl rfl rfl (fun w' hw' => (E.move (v := Value.int .i64 x426470) rfl)) ?_
                              obtain ⟨p654619, cs654620, pt654621, l654622, at654623, rel654624, hall654627⟩ := S612621.row_atA (i := 2) rfl els51123 (by decide) hx654626
                              obtain ⟨v654628, rfl, h654629⟩ := eResStep_open rel654624
                              refine FB.take (i := 13) (l' := #[true, true, true, true, true, true, true, true, true, true, true, true, true, true, false, false, false, false, false, false, false, false, false]) rfl (by kernel_rfl) (by kernel_rfl) (by kernel_rfl) (by kernel_rfl) (by kernel_rfl) (SP.nil ⟨_, (S612621.sel [0, 2] (by decide) rfl), (Inc.rfl _)⟩) rfl rfl rfl (fun w' hw' => (E.indexAddr te28 rfl rfl pt654621)) ?_
                              refine FB.take (i := 14) (l' := #[true, true, true, true, true, true, true, true, true, true, true, true, true, true, true, false, false, false, false, false, false, false, false]) rfl (by kernel_rfl) (by kernel_rfl) (by kernel_rfl) (by kernel_rfl) (by kernel_rfl) (SP.nil ⟨_, (S612621.sel [0, 2] (by decide) rfl), (Inc.rfl _)⟩) rfl rfl rfl (fun w' hw' => (E.fieldAddr tf89_0 rfl)) ?_
                              refine FB.take (i := 15) (l' := #[true, true, true, true, true, true, true, true, true, true, true, true, true, true, true, true, false, false, false, false, false, false, false]) rfl (by kernel_rfl) (by kernel_rfl) (by kernel_rfl) (by kernel_rfl) (by kernel_rfl) (SP.nil ⟨_, (S612621.sel [0, 2] (by decide) rfl), (Inc.rfl _)⟩) rfl rfl rfl (fun w' hw' => (E.load rfl (run_load1 Tryz.isAgg39 (hw'.use fun _ st => hall654627 _ _ _ 1 st rfl) rfl))) ?_
                              refine FB.take (i := 16) (l' := #[true, true, true, true, true, true, true, true, true, true, true, true, true, true, true, true, true, false, false, false, false, false, false]) rfl (by kernel_rfl) (by kernel_rfl) (by kernel_rfl) (by kernel_rfl) (by kernel_rfl) (SP.nil ⟨_, (S612621.sel [0, 2] (by decide) rfl), (Inc.rfl _)⟩) rfl rfl rfl (fun w' hw' => (E.move (v := Value.int .i64 y64.pivot) rfl)) ?_
                              refine FB.all1 (i := 17) (by kernel_rfl) ?_
                              ·
                                refine FC.call (l' := #[true, true, true, true, true, true, true, true, true, true, true, true, true, true, true, true, true, true, false, false, false, false, false]) rfl (by kernel_rfl) rfl rfl rfl (E.call Tryz.call203 (A3 rfl rfl rfl)) (w_impl_resolve S612621.sl v630628 x630625.clause (h630629.mono (upI.tr ((i102203.tr i372407).tr i372415))) v654628 x654625.clause (h654629.mono (upI.tr ((i102203.tr i372407).tr i372415))) y64.pivot hr666620) ?_
                                rintro e w666622 ⟨H666621, v666625, n666626, cs666627, rfl, r666624, els666628⟩
                                refine ⟨_, rfl, ?_⟩
                                have els666628 := els666628.mono (up_le S612621.size)
                                have S666623 := S612621.join (l' := [.row 3 1 v666625 n666626 cs666627, .box b56 97 [v51120, v51116], .row 3 1 v51116 n51117 cs51118, .row 89 4 v51120 n51121 cs51122]) r666624 rfl
                                refine ⟨(SP.nil ⟨_, (S666623.sel [1, 3] (by decide) rfl), r666624.run.inc⟩), ?_⟩
                                refine FB.take (i := 18) (l' := #[true, true, true, true, true, true, true, true, true, true, true, true, true, true, true, true, true, true, true, false, false, false, false]) rfl (by kernel_rfl) (by kernel_rfl) (by kernel_rfl) (by kernel_rfl) (by kernel_rfl) (SP.nil ⟨_, (S666623.sel [1, 3] (by decide) rfl), r666624.run.inc⟩) rfl rfl rfl (fun w' hw' => (E.move (v := Value.tuple #[v666625, Value.bool r666619.2]) rfl)) ?_
                                refine FB.take (i := 19) (l' := #[true, true, true, true, true, true, true, true, true, true, true, true, true, true, true, true, true, true, true, true, false, false, false]) rfl (by kernel_rfl) (by kernel_rfl) (by kernel_rfl) (by kernel_rfl) (by kernel_rfl) (SP.nil ⟨_, (S666623.sel [1, 3] (by decide) rfl), r666624.run.inc⟩) rfl rfl rfl (fun w' hw' => (E.extract (i := 0) rfl rfl)) ?_
                                refine FB.take (i := 20) (l' := #[true, true, true, true, true, true, true, true, true, true, true, true, true, true, true, true, true, true, true, true, true, false, false]) rfl (by kernel_rfl) (by kernel_rfl) (by kernel_rfl) (by kernel_rfl) (by kernel_rfl) (SP.nil ⟨_, (S666623.sel [1, 3] (by decide) rfl), r666624.run.inc⟩) rfl rfl rfl (fun w' hw' => (E.extract (i := 1) rfl rfl)) ?_
                                refine FB.take (i := 21) (l' := #[true, true, true, true, true, true, true, true, true, true, true, true, true, true, true, true, true, true, true, true, true, true, false]) rfl (by kernel_rfl) (by kernel_rfl) (by kernel_rfl) (by kernel_rfl) (by kernel_rfl) (SP.nil ⟨_, (S666623.sel [1, 3] (by decide) rfl), r666624.run.inc⟩) rfl rfl rfl (fun w' hw' => (E.assign (v := v666625) rfl)) ?_
                                refine FB.take (i := 22) (l' := #[true, true, true, true, true, true, true, true, true, true, true, true, true, true, true, true, true, true, true, true, true, true, true]) rfl (by kernel_rfl) (by kernel_rfl) (by kernel_rfl) (by kernel_rfl) (by kernel_rfl) (SP.nil ⟨_, (S666623.sel [1, 3] (by decide) rfl), r666624.run.inc⟩) rfl rfl rfl (fun w' hw' => (E.assign (v := Value.bool r666619.2) rfl)) ?_
                                exact FB.done (by kernel_rfl) ⟨_, _, _, _, (S666623.sel [1, 2, 3, 0] (by decide) rfl), r666624.run.inc, els666628, rfl, rfl, rfl, rfl, rfl⟩
                            ·
                              rintro f687628 w687627 ⟨H687624, v687619, n687620, cs687621, S687625, i687626, els687622, k687629, k687630, k687631, k687632, k687633⟩
                              refine FW.seq ?_
                              refine FW.region ?_
                              refine FL.val rfl rfl rfl (E.move k687629) ?_
                              refine FL.val rfl rfl rfl (E.move k687633) ?_
                              refine FL.val rfl rfl rfl (E.move k687630) ?_
                              refine FL.val rfl rfl rfl (E.move k687631) ?_
                              refine FL.val rfl rfl rfl (E.move k687632) ?_
                              refine FL.val rfl rfl rfl (E.build (B4 rfl rfl rfl rfl) (run_build _ 89 #[(0, v687619), (1, Value.int .i64 x426462), (2, Value.int .i64 x426470), (3, Value.int .i64 y64.pivot)] #[v687619, Value.int .i64 x426462, Value.int .i64 x426470, Value.int .i64 y64.pivot] (by obtain ⟨_, _, rfl⟩ := S687625.row_ln (i := 3) rfl; rfl))) ?_
                              obtain ⟨H759657, S759658, i759659, h759660, nv759661⟩ := S687625.sealRowU (i := 3) (l' := [.box b56 97 [v51120, v51116], .row 3 1 v51116 n51117 cs51118, .row 89 4 v51120 n51121 cs51122]) rfl els687622 (by decide) rfl
                              obtain ⟨s798681, hq798681, hp⟩ := bnd hp
                              obtain ⟨R798681, hR798681⟩ : ∃ R798681 : ((List ResStep) × Int) → Ending → World → Prop, R798681 = (fun s798681 e w => ∃ H : GH, ∃ v798682 : Value, ∃ n798683 : Nat, ∃ cs798684 : List Value, e = Ending.returned (Value.int .i64 s798681.2) ∧ St Ha wa H w [.box b56 97 [v798682, v51116], .row 3 1 v51116 n51117 cs51118, .row 89 4 v798682 n798683 cs798684] ∧ Inc H759657 H ∧ Els (up wa.heap.size H) eResStep 4 cs798684 s798681.1 ∧ (bl cs798684).Nodup) := ⟨_, rfl⟩
                              have hc798681 : Calls Tryz.prog 136 #[Value.pointer (some (⟨b56, 0, none⟩ : Addr)), Value.agg #[v687619, Value.int .i64 x426462, Value.int .i64 x426470, Value.int .i64 y64.pivot]] w687627 (R798681 s798681) := by
                                clear hp; have hp := hq798681; clear hq798681
                                refine calls_go (N := 21) (args := [Value.pointer (some (⟨b56, 0, none⟩ : Addr)), Value.agg #[v687619, Value.int .i64 x426462, Value.int .i64 x426470, Value.int .i64 y64.pivot]]) Tryz.func136 rfl rfl rfl ?_
                                refine FW.seq ?_
                                refine FW.region ?_
                                obtain ⟨b798687, w798688, run798689, S798690⟩ := S759658.box (P := Tryz.prog) 89 [v687619, Value.int .i64 x426462, Value.int .i64 x426470, Value.int .i64 y64.pivot] (v := Value.agg #[v687619, Value.int .i64 x426462, Value.int .i64 x426470, Value.int .i64 y64.pivot]) rfl (ones_cons h759660.one (ones_cons rfl (ones_cons rfl (ones_cons rfl ones_nil))))
                                refine FL.val rfl rfl rfl (E.box rfl run798689) ?_
                                obtain ⟨H798691, S798692, i798693, at798694⟩ := S798690.sealBox (i := 0) (l' := [.box b56 97 [v51120, v51116], .row 3 1 v51116 n51117 cs51118, .row 89 4 v51120 n51121 cs51122]) rfl rfl
                                refine FL.val rfl rfl rfl (E.assign (v := Value.int .i64 0) rfl) ?_
                                refine FL.nil ?_
                                refine FW.seq ?_
                                obtain ⟨xs822695, hz822696, hp⟩ := bnd hp
                                refine FW.drawB (Sl H798691) (fun f w => ∃ H : GH, ∃ v837695 : Value, ∃ n837696 : Nat, ∃ cs837697 : List Value, St Ha wa H w [.box b56 97 [v837695, v51116], .row 3 1 v51116 n51117 cs51118, .row 89 4 v837695 n837696 cs837697] ∧ Inc H798691 H ∧ Els (up wa.heap.size H) eResStep 4 cs837697 xs822695 ∧ (bl cs837697).Nodup ∧ f 0 = Value.pointer (some (⟨b56, 0, none⟩ : Addr))) (by kernel_rfl) S798692.sl ?_ ?_
                                ·
                                  intro w798695 r798696
                                  have S798697 := S798692.call r798696
                                  refine FB.phase [10] (fun w => WAt w (Addr.add ⟨b56, 0, none⟩ 0) [v51120]) ?_
                                  refine FB.take (i := 0) (l' := #[true, false, false, false, false, false, false, false, false, false, false]) rfl (by kernel_rfl) (by kernel_rfl) (by kernel_rfl) (by kernel_rfl) (by kernel_rfl) (SP.on ((S798697.box_now (i := 0) rfl).sub (j := 0) (n := 1) (c := [v51120]) rfl) (SP.nil S798697.sl)) rfl rfl rfl (fun w' hw' => (E.move (v := Value.pointer (some (⟨b56, 0, none⟩ : Addr))) rfl)) ?_
                                  refine FB.take (i := 1) (l' := #[true, true, false, false, false, false, false, false, false, false, false]) rfl (by kernel_rfl) (by kernel_rfl) (by kernel_rfl) (by kernel_rfl) (by kernel_rfl) (SP.on ((S798697.box_now (i := 0) rfl).sub (j := 0) (n := 1) (c := [v51120]) rfl) (SP.nil S798697.sl)) rfl rfl rfl (fun w' hw' => (E.move (v := Value.pointer (some (⟨b56, 0, none⟩ : Addr))) rfl)) ?_
                                  refine FB.take (i := 2) (l' := #[true, true, true, false, false, false, false, false, false, false, false]) rfl (by kernel_rfl) (by kernel_rfl) (by kernel_rfl) (by kernel_rfl) (by kernel_rfl) (SP.on ((S798697.box_now (i := 0) rfl).sub (j := 0) (n := 1) (c := [v51120]) rfl) (SP.nil S798697.sl)) rfl rfl rfl (fun w' hw' => (E.nilCheck rfl)) ?_
                                  refine FB.take (i := 3) (l' := #[true, true, true, true, false, false, false, false, false, false, false]) rfl (by kernel_rfl) (by kernel_rfl) (by kernel_rfl) (by kernel_rfl) (by kernel_rfl) (SP.on ((S798697.box_now (i := 0) rfl).sub (j := 0) (n := 1) (c := [v51120]) rfl) (SP.nil S798697.sl)) rfl rfl rfl (fun w' hw' => (E.fieldAddr tf97_0 rfl)) ?_
                                  refine FB.takeP (i := 4) (l' := #[true, true, true, true, true, false, false, false, false, false, false]) 0 [7, 8, 9, 10] rfl rfl (by kernel_rfl) (by kernel_rfl) (by kernel_rfl) (by kernel_rfl) (by kernel_rfl) (by kernel_rfl) (SP.on ((S798697.box_now (i := 0) rfl).sub (j := 0) (n := 1) (c := [v51120]) rfl) (SP.nil S798697.sl)) rfl rfl rfl (fun w' hw' => (E.load rfl (run_load0 Tryz.isAgg28 hw' rfl))) ?_
                                  refine FB.take (i := 5) (l' := #[true, true, true, true, true, true, false, false, false, false, false]) rfl (by kernel_rfl) (by kernel_rfl) (by kernel_rfl) (by kernel_rfl) (by kernel_rfl) (SP.on ((S798697.box_now (i := 0) rfl).sub (j := 0) (n := 1) (c := [v51120]) rfl) (SP.nil S798697.sl)) rfl rfl rfl (fun w' hw' => (E.load rfl (run_loadA Tryz.isAgg89 Tryz.sizeOf89 (at798694.now hw') rfl))) ?_
                                  refine FB.all1 (i := 6) (by kernel_rfl) ?_
                                  ·
                                    obtain ⟨v819695, w819696, run819697, S819698⟩ := S798697.buildSlice (P := Tryz.prog) te28 [Value.agg #[v687619, Value.int .i64 x426462, Value.int .i64 x426470, Value.int .i64 y64.pivot]] (parts := #[(0, Value.agg #[v687619, Value.int .i64 x426462, Value.int .i64 x426470, Value.int .i64 y64.pivot])]) (cells := [v687619, Value.int .i64 x426462, Value.int .i64 x426470, Value.int .i64 y64.pivot]) rfl (szs_cons rfl szs_nil) (fc_cons rfl fc_nil) (ones_cons h759660.one (ones_cons rfl (ones_cons rfl (ones_cons rfl ones_nil)))) (Nat.le_of_ble_eq_true rfl)
                                    have els819699 : Els (up wa.heap.size H798691) eResStep 4 [v687619, Value.int .i64 x426462, Value.int .i64 x426470, Value.int .i64 y64.pivot] [(ResStep.mk r666619.1 x426462 x426470 y64.pivot)] := (Els.snoc (H := (up wa.heap.size H798691)) (E := eResStep) (k := 4) (c := [v687619, Value.int .i64 x426462, Value.int .i64 x426470, Value.int .i64 y64.pivot]) (x := (ResStep.mk r666619.1 x426462 x426470 y64.pivot)) Els.nil rfl ⟨_, rfl, (h759660.mono (up_mono i798693))⟩)
                                    have nd819700 : (bl [v687619, Value.int .i64 x426462, Value.int .i64 x426470, Value.int .i64 y64.pivot]).Nodup := by exact nd_one v687619
                                    refine FC.val (l' := #[true, true, true, true, true, true, true, false, false, false, false]) rfl (by kernel_rfl) rfl rfl rfl (E.buildSlice (B1 rfl) run819697) ?_
                                    refine ⟨(SP.on ((S819698.box_now (i := 1) rfl).sub (j := 0) (n := 1) (c := [v51120]) rfl) (SP.nil S819698.sl)), ?_⟩
                                    refine FB.all1 (i := 7) (by kernel_rfl) ?_
                                    ·
                                      obtain ⟨v822697, w822700, n822698, cs822699, run822701, S822702, els822703, ce822704⟩ := S819698.appendO (P := Tryz.prog) te28 (i := 3) (j := 0) rfl (els51123.mono (up_mono (((((i102203.tr i372407).tr i372415).tr i687626).tr i759659).tr i798693))) rfl els819699 hz822696
                                      have S822702 : St Ha wa H798691 w822700 [.row 89 4 v819695 1 [v687619, Value.int .i64 x426462, Value.int .i64 x426470, Value.int .i64 y64.pivot], .box b56 97 [v51120, v51116], .row 3 1 v51116 n51117 cs51118, .row 89 4 v822697 n822698 cs822699] := S822702
                                      have nd822705 : (bl cs822699).Nodup := by rw [ce822704]; exact nd_app nd51124 nd819700 (Els.dom (els51123.mono (upI.tr (((i102203.tr i372407).tr i372415).tr i687626)))) (by exact nv759661)
                                      have S822706 : St Ha wa H798691 w822700 [.box b56 97 [v51120, v51116], .row 3 1 v51116 n51117 cs51118, .row 89 4 v822697 n822698 cs822699] := S822702.drop 0
                                      refine FC.val (l' := #[true, true, true, true, true, true, true, true, false, false, false]) rfl (by kernel_rfl) rfl rfl rfl (E.append rfl rfl run822701) ?_
                                      refine ⟨(SP.on ((S822706.box_now (i := 0) rfl).sub (j := 0) (n := 1) (c := [v51120]) rfl) (SP.nil S822706.sl)), ?_⟩
                                      refine FB.take (i := 8) (l' := #[true, true, true, true, true, true, true, true, true, false, false]) rfl (by kernel_rfl) (by kernel_rfl) (by kernel_rfl) (by kernel_rfl) (by kernel_rfl) (SP.on ((S822706.box_now (i := 0) rfl).sub (j := 0) (n := 1) (c := [v51120]) rfl) (SP.nil S822706.sl)) rfl rfl rfl (fun w' hw' => (E.nilCheck rfl)) ?_
                                      refine FB.take (i := 9) (l' := #[true, true, true, true, true, true, true, true, true, true, false]) rfl (by kernel_rfl) (by kernel_rfl) (by kernel_rfl) (by kernel_rfl) (by kernel_rfl) (SP.on ((S822706.box_now (i := 0) rfl).sub (j := 0) (n := 1) (c := [v51120]) rfl) (SP.nil S822706.sl)) rfl rfl rfl (fun w' hw' => (E.fieldAddr tf97_0 rfl)) ?_
                                      refine FB.all1 (i := 10) (by kernel_rfl) ?_
                                      ·
                                        obtain ⟨w831695, run831696, S831697⟩ := S822706.store (P := Tryz.prog) (t := 28) (i := 0) (j := 0) (cs' := [v822697, v51116]) (l' := [.box b56 97 [v822697, v51116], .row 3 1 v51116 n51117 cs51118, .row 89 4 v822697 n822698 cs822699]) (v := v822697) (c := [v822697]) rfl Tryz.sizeOf28 (Ln.cells (S822706.row_ln (i := 2) rfl)) rfl (ones_cons (Ln.one (S822706.row_ln (i := 2) rfl)) ones_nil) (Nat.le_of_ble_eq_true rfl) rfl rfl
                                        refine FC.act (l' := #[true, true, true, true, true, true, true, true, true, true, true]) rfl (by kernel_rfl) rfl rfl (E.store rfl rfl run831696) ?_
                                        refine ⟨(SP.off (by kernel_rfl) (SP.nil S831697.sl)), ?_⟩
                                        exact FB.done (by kernel_rfl) ⟨_, _, _, _, S831697, (Inc.rfl _), els822703, nd822705, rfl⟩
                                ·
                                  rintro f837705 w837704 ⟨H837701, v837695, n837696, cs837697, S837702, i837703, els837698, nd837699, k837706⟩
                                  refine FW.seq ?_
                                  refine FW.region ?_
                                  refine FL.val rfl rfl rfl (E.move k837706) ?_
                                  refine FL.val rfl rfl rfl (E.nilCheck rfl) ?_
                                  refine FL.val rfl rfl rfl (E.fieldAddr tf97_0 rfl) ?_
                                  refine FL.val rfl rfl rfl (E.load rfl (run_load1 Tryz.isAgg28 (S837702.box_now (i := 0) rfl) rfl)) ?_
                                  refine FL.val rfl rfl rfl (E.lenO te28 rfl S837702 (i := 2) rfl els837698 (by decide)) ?_
                                  refine FL.val rfl rfl rfl (E.sub rfl rfl) ?_
                                  refine FL.val rfl rfl rfl (E.assign (v := Value.int .i64 (wr ((len xs822695) - 1))) rfl) ?_
                                  refine FL.nil ?_
                                  refine FW.ret ?_
                                  obtain rfl := Option.some.inj hp
                                  exact ⟨.inr rfl, res1 rfl rfl (by rw [hR798681]; exact ⟨_, _, _, _, rfl, S837702, (i798693.tr i837703), els837698, nd837699⟩)⟩
                              clear hq798681
                              refine FL.call rfl rfl rfl (E.call Tryz.call136 (A2 rfl rfl)) hc798681 ?_
                              intro e w837710 hQ798681
                              rw [hR798681] at hQ798681
                              obtain ⟨H837707, v798682, n798683, cs798684, rfl, S837708, i837709, els798685, nd798686⟩ := hQ798681
                              refine ⟨_, rfl, ?_⟩
                              refine FL.val rfl rfl rfl (E.assign (v := Value.int .i64 s798681.2) rfl) ?_
                              refine FL.nil ?_
                              refine FW.ret ?_
                              obtain rfl := Option.some.inj hp
                              exact ⟨.inr rfl, res1 rfl rfl (by rw [hR612581]; exact ⟨_, _, _, _, rfl, S837708, ((i687626.tr i759659).tr i837709), els798685, nd798686⟩)⟩
                      clear hq612581
                      refine FL.call rfl rfl rfl (E.call Tryz.call138 (A4 rfl rfl rfl rfl)) hc612581 ?_
                      intro e w837715 hQ612581
                      rw [hR612581] at hQ612581
                      obtain ⟨H837712, v612582, n612583, cs612584, rfl, S837713, i837714, els612585, nd612586⟩ := hQ612581
                      refine ⟨_, rfl, ?_⟩
                      refine FL.val rfl rfl rfl (E.assign (v := Value.int .i64 s612581.2) rfl) ?_
                      refine FL.nil ?_
                      refine FW.ret ?_
                      obtain rfl := Option.some.inj hp
                      exact ⟨.inr rfl, res1 rfl rfl (by rw [hR372395]; exact ⟨_, _, _, _, rfl, S837713, ((i372407.tr i372415).tr i837714), els612585, nd612586⟩)⟩
          clear hq372395
          refine FC.call (l' := #[true, true, true, true, true, true, true, true, true, true, false, false, false, false, false]) rfl (by kernel_rfl) rfl rfl rfl (E.call Tryz.call82 (A4 rfl rfl rfl rfl)) hc372395 ?_
          intro e w837720 hQ372395
          rw [hR372395] at hQ372395
          obtain ⟨H837717, v372396, n372397, cs372398, rfl, S837718, i837719, els372399, nd372400⟩ := hQ372395
          refine ⟨_, rfl, ?_⟩
          refine ⟨(SP.on ((S837718.box_now (i := 0) rfl).sub (j := 1) (n := 1) (c := [v51116]) rfl) (SP.nil (Sl.of_inc i837719 S837718.sl))), ?_⟩
          refine FB.all1 (i := 10) (by kernel_rfl) ?_
          ·
            obtain ⟨v135205, w135206, run135207, S135208⟩ := S837718.buildSlice (P := Tryz.prog) te39 [Value.int .i64 s372395.2] (parts := #[(0, Value.int .i64 s372395.2)]) (cells := [Value.int .i64 s372395.2]) rfl (szs_cons rfl szs_nil) (fc_cons rfl fc_nil) (ones_cons rfl ones_nil) (Nat.le_of_ble_eq_true rfl)
            have els135209 : Els (up wa.heap.size H837717) eI 1 [Value.int .i64 s372395.2] [s372395.2] := (Els.snoc (H := (up wa.heap.size H837717)) (E := eI) (k := 1) (c := [Value.int .i64 s372395.2]) (x := s372395.2) Els.nil rfl rfl)
            refine FC.val (l' := #[true, true, true, true, true, true, true, true, true, true, true, false, false, false, false]) rfl (by kernel_rfl) rfl rfl rfl (E.buildSlice (B1 rfl) run135207) ?_
            refine ⟨(SP.on ((S135208.box_now (i := 1) rfl).sub (j := 1) (n := 1) (c := [v51116]) rfl) (SP.nil (Sl.of_inc i837719 S135208.sl))), ?_⟩
            refine FB.all1 (i := 11) (by kernel_rfl) ?_
            ·
              obtain ⟨v138207, w138210, n138208, cs138209, run138211, S138212, els138213, ce138214⟩ := S135208.appendO (P := Tryz.prog) te39 (i := 2) (j := 0) rfl (els51119.mono (up_mono (i102203.tr i837719))) rfl els135209 hz138206
              have S138212 : St Ha wa H837717 w138210 [.row 3 1 v135205 1 [Value.int .i64 s372395.2], .box b56 97 [v372396, v51116], .row 3 1 v138207 n138208 cs138209, .row 89 4 v372396 n372397 cs372398] := S138212
              have S138215 : St Ha wa H837717 w138210 [.box b56 97 [v372396, v51116], .row 3 1 v138207 n138208 cs138209, .row 89 4 v372396 n372397 cs372398] := S138212.drop 0
              refine FC.val (l' := #[true, true, true, true, true, true, true, true, true, true, true, true, false, false, false]) rfl (by kernel_rfl) rfl rfl rfl (E.append rfl rfl run138211) ?_
              refine ⟨(SP.on ((S138215.box_now (i := 0) rfl).sub (j := 1) (n := 1) (c := [v51116]) rfl) (SP.nil (Sl.of_inc i837719 S138215.sl))), ?_⟩
              refine FB.take (i := 12) (l' := #[true, true, true, true, true, true, true, true, true, true, true, true, true, false, false]) rfl (by kernel_rfl) (by kernel_rfl) (by kernel_rfl) (by kernel_rfl) (by kernel_rfl) (SP.on ((S138215.box_now (i := 0) rfl).sub (j := 1) (n := 1) (c := [v51116]) rfl) (SP.nil (Sl.of_inc i837719 S138215.sl))) rfl rfl rfl (fun w' hw' => (E.nilCheck rfl)) ?_
              refine FB.take (i := 13) (l' := #[true, true, true, true, true, true, true, true, true, true, true, true, true, true, false]) rfl (by kernel_rfl) (by kernel_rfl) (by kernel_rfl) (by kernel_rfl) (by kernel_rfl) (SP.on ((S138215.box_now (i := 0) rfl).sub (j := 1) (n := 1) (c := [v51116]) rfl) (SP.nil (Sl.of_inc i837719 S138215.sl))) rfl rfl rfl (fun w' hw' => (E.fieldAddr tf97_1 rfl)) ?_
              refine FB.all1 (i := 14) (by kernel_rfl) ?_
              ·
                obtain ⟨w147205, run147206, S147207⟩ := S138215.store (P := Tryz.prog) (t := 39) (i := 0) (j := 1) (cs' := [v372396, v138207]) (l' := [.box b56 97 [v372396, v138207], .row 3 1 v138207 n138208 cs138209, .row 89 4 v372396 n372397 cs372398]) (v := v138207) (c := [v138207]) rfl Tryz.sizeOf39 (Ln.cells (S138215.row_ln (i := 1) rfl)) rfl (ones_cons (Ln.one (S138215.row_ln (i := 1) rfl)) ones_nil) (Nat.le_of_ble_eq_true rfl) rfl rfl
                refine FC.act (l' := #[true, true, true, true, true, true, true, true, true, true, true, true, true, true, true]) rfl (by kernel_rfl) rfl rfl (E.store rfl rfl run147206) ?_
                refine ⟨(SP.off (by kernel_rfl) (SP.nil (Sl.of_inc i837719 S147207.sl))), ?_⟩
                exact FB.done (by kernel_rfl) ⟨_, _, _, _, _, _, _, S147207, i837719, els138213, els372399, nd372400, k102181, k102182, k102183, k102184, k102185, k102180⟩
      ·
        rintro f153219 w153218 ⟨H153215, v153205, n153206, cs153207, v153209, n153210, cs153211, S153216, i153217, els153208, els153212, nd153213, k153220, k153221, k153222, k153223, k153224, k153225⟩
        refine FW.region ?_
        refine FL.val rfl rfl rfl (E.add k153225 rfl) ?_
        refine FL.val rfl rfl rfl (E.move (v := Value.int .i64 (wr (((i65 : Nat) : Int) + 1))) rfl) ?_
        refine FL.nil ?_
        obtain rfl := Option.some.inj hp
        exact ⟨rfl, ⟨_, _, _, _, _, _, _, S153216, ((i102177.tr i102203).tr i153217), els153208, els153212, nd153213, (nat_succ rfl (lt_of_get hx65) (p1.mono ((((i27.tr i42).tr i102177).tr i102203).tr i153217)).le), k153220, k153221, k153222, k153223, k153224⟩⟩
    ·
      clear hp hq
      rintro s65 f237275 w237274 ⟨H237271, v51116, n51117, cs51118, v51120, n51121, cs51122, S237272, i237273, els51119, els51123, nd51124, k237276, k237277, k237278, k237279, k237280, k237281⟩
      refine FW.seq ?_
      refine FW.region ?_
      refine FL.val rfl rfl rfl (E.lss k237276 k237281) ?_
      refine FL.nil ?_
      refine FW.seq ?_
      refine FW.condF rfl dlt_len ?_
      refine FW.exit ?_
      exact ⟨nofun, rfl, ⟨_, _, _, _, _, _, _, S237272, i237273, els51119, els51123, nd51124, k237279⟩⟩
    ·
      clear hq
      intro e f153231 w153230 hD
      rcases q65 with s65 | x65
      ·
        obtain ⟨rfl, hD⟩ := hD
        obtain ⟨H153227, v51116, n51117, cs51118, v51120, n51121, cs51122, S153228, i153229, els51119, els51123, nd51124, k153232⟩ := hD
        replace hp := el_go hp
        refine FW.seq ?_
        refine FW.region ?_
        refine FL.val rfl rfl rfl (E.move k153232) ?_
        obtain ⟨s195246, hq195246, hp⟩ := bnd hp
        obtain ⟨R195246, hR195246⟩ : ∃ R195246 : (List ResStep) → Ending → World → Prop, R195246 = (fun s195246 e w => ∃ H : GH, ∃ v195247 : Value, ∃ n195248 : Nat, ∃ cs195249 : List Value, e = Ending.returned (v195247) ∧ St Ha wa H w [.box b56 97 [v51120, v51116], .row 3 1 v51116 n51117 cs51118, .row 89 4 v195247 n195248 cs195249] ∧ Inc H153227 H ∧ Els (up wa.heap.size H) eResStep 4 cs195249 s195246 ∧ (bl cs195249).Nodup) := ⟨_, rfl⟩
        have hc195246 : Calls Tryz.prog 83 #[Value.pointer (some (⟨b56, 0, none⟩ : Addr))] w153230 (R195246 s195246) := by
          clear hp; have hp := hq195246; clear hq195246
          refine calls_go (N := 20) (args := [Value.pointer (some (⟨b56, 0, none⟩ : Addr))]) Tryz.func83 rfl rfl rfl ?_
          refine FW.seq ?_
          refine FW.region ?_
          refine FL.val rfl rfl rfl (E.assign (v := Value.slice none 0 0) rfl) ?_
          refine FL.nil ?_
          refine FW.seq ?_
          refine FW.seq ?_
          refine FW.region ?_
          refine FL.val rfl rfl rfl (E.move (v := Value.pointer (some (⟨b56, 0, none⟩ : Addr))) rfl) ?_
          refine FL.val rfl rfl rfl (E.nilCheck rfl) ?_
          refine FL.val rfl rfl rfl (E.fieldAddr tf97_1 rfl) ?_
          refine FL.val rfl rfl rfl (E.load rfl (run_load1 Tryz.isAgg39 (S153228.box_now (i := 0) rfl) rfl)) ?_
          refine FL.val rfl rfl rfl (E.lenO te39 rfl S153228 (i := 1) rfl els51119 (by decide)) ?_
          refine FL.val rfl rfl rfl (E.eql rfl rfl) ?_
          refine FL.nil ?_
          rcases ifB hp with ⟨c195252, hp⟩ | ⟨c195252, hp⟩
          ·
            refine FW.condT rfl c195252 ?_
            refine FW.seq ?_
            refine FW.region ?_
            refine FL.val rfl rfl rfl (E.assign (v := Value.slice none 0 0) rfl) ?_
            refine FL.nil ?_
            refine FW.ret ?_
            obtain rfl := Option.some.inj hp
            exact ⟨.inr rfl, res1 rfl rfl (by rw [hR195246]; exact ⟨_, _, _, _, rfl, ((S153228.nil 89 4).sel [1, 2, 0] (by decide) rfl), (Inc.rfl _), Els.nil, List.nodup_nil⟩)⟩
          ·
            refine FW.condF rfl c195252 ?_
            refine FW.skip ?_
            refine FW.seq ?_
            obtain ⟨r222259, hr222260, hp⟩ := bnd hp
            obtain ⟨xs228254, hc228255, hp⟩ := bnd hp
            refine FW.drawB (SX Ha wa H153227 [.box b56 97 [v51120, v51116]]) (fun f w => ∃ H : GH, ∃ v237254 : Value, ∃ n237255 : Nat, ∃ cs237256 : List Value, St Ha wa H w [.box b56 97 [v51120, v51116], .row 3 1 v51116 n51117 cs51118, .row 89 4 v237254 n237255 cs237256] ∧ Inc H153227 H ∧ Els (up wa.heap.size H) eResStep 4 cs237256 xs228254 ∧ (bl cs237256).Nodup ∧ f 2 = v237254) (by kernel_rfl) S153228.sl ?_ ?_
            ·
              intro w195254 r195255
              have S195256 := S153228.call r195255
              refine FB.take (i := 0) (l' := #[true, false, false, false, false, false, false, false, false, false, false, false]) rfl (by kernel_rfl) (by kernel_rfl) (by kernel_rfl) (by kernel_rfl) (by kernel_rfl) (SP.nil ⟨_, (S195256.sel [0] (by decide) rfl), (Inc.rfl _)⟩) rfl rfl rfl (fun w' hw' => (E.move (v := Value.pointer (some (⟨b56, 0, none⟩ : Addr))) rfl)) ?_
              refine FB.take (i := 1) (l' := #[true, true, false, false, false, false, false, false, false, false, false, false]) rfl (by kernel_rfl) (by kernel_rfl) (by kernel_rfl) (by kernel_rfl) (by kernel_rfl) (SP.nil ⟨_, (S195256.sel [0] (by decide) rfl), (Inc.rfl _)⟩) rfl rfl rfl (fun w' hw' => (E.nilCheck rfl)) ?_
              refine FB.take (i := 2) (l' := #[true, true, true, false, false, false, false, false, false, false, false, false]) rfl (by kernel_rfl) (by kernel_rfl) (by kernel_rfl) (by kernel_rfl) (by kernel_rfl) (SP.nil ⟨_, (S195256.sel [0] (by decide) rfl), (Inc.rfl _)⟩) rfl rfl rfl (fun w' hw' => (E.fieldAddr tf97_0 rfl)) ?_
              refine FB.take (i := 3) (l' := #[true, true, true, true, false, false, false, false, false, false, false, false]) rfl (by kernel_rfl) (by kernel_rfl) (by kernel_rfl) (by kernel_rfl) (by kernel_rfl) (SP.nil ⟨_, (S195256.sel [0] (by decide) rfl), (Inc.rfl _)⟩) rfl rfl rfl (fun w' hw' => (E.load rfl (run_load1 Tryz.isAgg28 (SX.box_now hw' (i := 0) rfl) rfl))) ?_
              refine FB.take (i := 4) (l' := #[true, true, true, true, true, false, false, false, false, false, false, false]) rfl (by kernel_rfl) (by kernel_rfl) (by kernel_rfl) (by kernel_rfl) (by kernel_rfl) (SP.nil ⟨_, (S195256.sel [0] (by decide) rfl), (Inc.rfl _)⟩) rfl rfl rfl (fun w' hw' => (E.move (v := Value.pointer (some (⟨b56, 0, none⟩ : Addr))) rfl)) ?_
              refine FB.take (i := 5) (l' := #[true, true, true, true, true, true, false, false, false, false, false, false]) rfl (by kernel_rfl) (by kernel_rfl) (by kernel_rfl) (by kernel_rfl) (by kernel_rfl) (SP.nil ⟨_, (S195256.sel [0] (by decide) rfl), (Inc.rfl _)⟩) rfl rfl rfl (fun w' hw' => (E.nilCheck rfl)) ?_
              refine FB.take (i := 6) (l' := #[true, true, true, true, true, true, true, false, false, false, false, false]) rfl (by kernel_rfl) (by kernel_rfl) (by kernel_rfl) (by kernel_rfl) (by kernel_rfl) (SP.nil ⟨_, (S195256.sel [0] (by decide) rfl), (Inc.rfl _)⟩) rfl rfl rfl (fun w' hw' => (E.fieldAddr tf97_1 rfl)) ?_
              refine FB.take (i := 7) (l' := #[true, true, true, true, true, true, true, true, false, false, false, false]) rfl (by kernel_rfl) (by kernel_rfl) (by kernel_rfl) (by kernel_rfl) (by kernel_rfl) (SP.nil ⟨_, (S195256.sel [0] (by decide) rfl), (Inc.rfl _)⟩) rfl rfl rfl (fun w' hw' => (E.load rfl (run_load1 Tryz.isAgg39 (SX.box_now hw' (i := 0) rfl) rfl))) ?_
              refine FB.all1 (i := 8) (by kernel_rfl) ?_
              ·
                obtain ⟨H222254, S222255, i222256, h222257, nv222258⟩ := S195256.sealRowU (i := 1) (l' := [.box b56 97 [v51120, v51116], .row 89 4 v51120 n51121 cs51122]) rfl els51119 (by decide) rfl
                refine FC.call (l' := #[true, true, true, true, true, true, true, true, true, false, false, false]) rfl (by kernel_rfl) rfl rfl rfl (E.call Tryz.call95 (A1 rfl)) (w_impl_last_int S222255.sl v51116 s65.1 (h222257.mono upI) hr222260) ?_
                rintro e w222261 ⟨rfl, r222262⟩
                refine ⟨_, rfl, ?_⟩
                have r222262 := Run.lend i222256 S195256.sl r222262
                have S222263 := S195256.call r222262
                refine ⟨(SP.nil ⟨_, (S222263.sel [0] (by decide) rfl), (Inc.rfl _)⟩), ?_⟩
                refine FB.take (i := 9) (l' := #[true, true, true, true, true, true, true, true, true, true, false, false]) rfl (by kernel_rfl) (by kernel_rfl) (by kernel_rfl) (by kernel_rfl) (by kernel_rfl) (SP.nil ⟨_, (S222263.sel [0] (by decide) rfl), (Inc.rfl _)⟩) rfl rfl rfl (fun w' hw' => (E.add rfl rfl)) ?_
                refine FB.phase [] (fun w' => w' = w222261) ?_
                obtain ⟨v228256, n228257, cs228258, run228259, S228260, els228261, nd228262⟩ := S222263.cutRow te28 (kk := .i64) (i := 2) rfl els51123 hc228255
                have S228260 : St Ha wa H153227 w222261 [.box b56 97 [v51120, v51116], .row 3 1 v51116 n51117 cs51118, .row 89 4 v228256 n228257 cs228258] := S228260
                refine FB.takeW (i := 10) (l' := #[true, true, true, true, true, true, true, true, true, true, true, false]) [11] rfl (by kernel_rfl) (by kernel_rfl) (by kernel_rfl) (by kernel_rfl) (by kernel_rfl) (by kernel_rfl) (SP.on rfl (SP.nil ⟨_, (S222263.sel [0] (by decide) rfl), (Inc.rfl _)⟩)) rfl rfl rfl (E.slice te28 rfl rfl (congrArg some rfl) rfl (run228259 _)) ?_
                refine FB.take (i := 11) (l' := #[true, true, true, true, true, true, true, true, true, true, true, true]) rfl (by kernel_rfl) (by kernel_rfl) (by kernel_rfl) (by kernel_rfl) (by kernel_rfl) (SP.on rfl (SP.nil ⟨_, (S228260.sel [0] (by decide) rfl), (Inc.rfl _)⟩)) rfl rfl rfl (fun w' hw' => (E.assign (v := v228256) rfl)) ?_
                exact FB.done (by kernel_rfl) ⟨_, _, _, _, S228260, (Inc.rfl _), els228261, (nd228262 nd51124), rfl⟩
            ·
              rintro f237264 w237263 ⟨H237260, v237254, n237255, cs237256, S237261, i237262, els237257, nd237258, k237265⟩
              refine FW.ret ?_
              obtain rfl := Option.some.inj hp
              exact ⟨.inr rfl, res1 rfl k237265 (by rw [hR195246]; exact ⟨_, _, _, _, rfl, S237261, i237262, els237257, nd237258⟩)⟩
        clear hq195246
        refine FL.call rfl rfl rfl (E.call Tryz.call83 (A1 rfl)) hc195246 ?_
        intro e w237269 hQ195246
        rw [hR195246] at hQ195246
        obtain ⟨H237266, v195247, n195248, cs195249, rfl, S237267, i237268, els195250, nd195251⟩ := hQ195246
        refine ⟨_, rfl, ?_⟩
        refine FL.val rfl rfl rfl (E.assign (v := v195247) rfl) ?_
        refine FL.val rfl rfl rfl (E.assign (v := Value.bool true) rfl) ?_
        refine FL.nil ?_
        refine FW.ret ?_
        obtain rfl := Option.some.inj hp
        exact ⟨.inr rfl, res2 rfl rfl rfl ⟨_, _, _, _, rfl, (S237267.sel [2] (by decide) rfl), els195250, nd195251⟩⟩
      · exact x65.elim

theorem w_laws_eqIntS {Ha : GH} {wa : World} (hs : Sl Ha wa) (v0 : Value) (a0 : List Int) (p0 : RSl Ha eI 1 v0 a0) (v1 : Value) (a1 : List Int) (p1 : RSl Ha eI 1 v1 a1) {r : Bool} (hp : (PF.laws_eqIntS a0 a1) = some r) :
    Calls Tryz.prog 29 #[v0, v1] wa (Sc Ha wa (Value.bool r)) := by
  unfold PF.laws_eqIntS at hp
  have S0 := St.init hs
  refine calls_go (N := 26) (args := [v0, v1]) Tryz.func29 rfl rfl rfl ?_
  refine FW.seq ?_
  refine FW.region ?_
  refine FL.val rfl rfl rfl (E.assign (v := Value.bool false) rfl) ?_
  refine FL.nil ?_
  refine FW.seq ?_
  refine FW.seq ?_
  refine FW.region ?_
  refine FL.val rfl rfl rfl (E.move (v := v0) rfl) ?_
  refine FL.val rfl rfl rfl (E.lenP te39 rfl p0) ?_
  refine FL.val rfl rfl rfl (E.move (v := v1) rfl) ?_
  refine FL.val rfl rfl rfl (E.lenP te39 rfl p1) ?_
  refine FL.val rfl rfl rfl (E.neq rfl rfl) ?_
  refine FL.nil ?_
  rcases ifB hp with ⟨c21, hp⟩ | ⟨c21, hp⟩
  ·
    refine FW.condT rfl c21 ?_
    refine FW.seq ?_
    refine FW.region ?_
    refine FL.val rfl rfl rfl (E.assign (v := Value.bool false) rfl) ?_
    refine FL.nil ?_
    refine FW.ret ?_
    obtain rfl := Option.some.inj hp
    exact ⟨.inr rfl, res1 rfl rfl ⟨rfl, S0.back⟩⟩
  ·
    refine FW.condF rfl c21 ?_
    refine FW.skip ?_
    refine FW.seq ?_
    refine FW.seq ?_
    refine FW.region ?_
    refine FL.val rfl rfl rfl (E.assign (v := Value.int .i64 0) rfl) ?_
    refine FL.nil ?_
    obtain ⟨q23, hq, hp⟩ := bndR hp
    refine FW.block ?_
    refine FW.mono (FW.forL (S := Unit) (X := Bool) (fun (i23 : Nat) (s23 : Unit) f w => ∃ H : GH, St Ha wa H w [] ∧ Inc Ha H ∧ f 5 = Value.int .i64 ((i23 : Nat) : Int) ∧ f 0 = v0 ∧ f 1 = v1) (fun q e f w => match q with | .go s23 => e = Exit.exit 0 ∧ (∃ H : GH, St Ha wa H w [] ∧ Inc Ha H) | .rt x => ((e = Exit.ret) ∧ (fun e f w => (e = Exit.normal ∨ e = Exit.ret) ∧ ∀ a, Fr (δ := []) 26 a f → ∃ v, (results Tryz.f29 a.tmps).run Tryz.prog w = .ok v w ∧ (Sc Ha wa (Value.bool x)) (.returned v) w) e f w)) hq ⟨_, S0, (Inc.rfl _), rfl, rfl, rfl⟩ ?_ ?_) ?_
    ·
      clear hp hq
      rintro i23 y22 s23 f55 w54 ⟨H51, S52, i53, k56, k57, k58⟩ hx23 o78 hp
      refine FW.seq ?_
      refine FW.seq ?_
      refine FW.region ?_
      refine FL.val rfl rfl rfl (E.move k56) ?_
      refine FL.val rfl rfl rfl (E.move k57) ?_
      refine FL.val rfl rfl rfl (E.lenP te39 rfl p0) ?_
      refine FL.val rfl rfl rfl (E.lssT rfl rfl (lss_len hx23)) ?_
      refine FL.nil ?_
      refine FW.condT rfl rfl ?_
      refine FW.skip ?_
      refine FW.seq ?_
      refine FW.block ?_
      refine FW.seq ?_
      refine FW.draw (fun w' => Run w54.heap.size H51 w54 H51 w') (by kernel_rfl) (by kernel_rfl) (run_drew S52.sl) ?_
      refine FD.val rfl rfl rfl (fun w' hw' => (E.move k57)) ?_
      refine FD.val rfl rfl rfl (fun w' hw' => (E.move k56)) ?_
      obtain ⟨p60, cs61, pt62, l63, at64, rel65⟩ := p0.at (ix_nat hx23)
      obtain rfl := eI_open rel65
      refine FD.val rfl rfl rfl (fun w' hw' => (E.indexAddr te39 rfl rfl pt62)) ?_
      refine FD.val rfl rfl rfl (fun w' hw' => (E.load rfl (run_load0 Tryz.isAgg3 ((at64.mono i53).now (S52.call hw').sl) rfl))) ?_
      refine FD.val rfl rfl rfl (fun w' hw' => (E.move k58)) ?_
      refine FD.val rfl rfl rfl (fun w' hw' => (E.move k56)) ?_
      obtain ⟨x72, hx73, hp⟩ := bnd hp
      obtain ⟨p66, cs67, pt68, l69, at70, rel71⟩ := p1.at hx73
      obtain rfl := eI_open rel71
      refine FD.val rfl rfl rfl (fun w' hw' => (E.indexAddr te39 rfl rfl pt68)) ?_
      refine FD.val rfl rfl rfl (fun w' hw' => (E.load rfl (run_load0 Tryz.isAgg3 ((at70.mono i53).now (S52.call hw').sl) rfl))) ?_
      refine FD.val rfl rfl rfl (fun w' hw' => (E.neq rfl rfl)) ?_
      refine FD.nil ?_
      intro w74 r76
      have S75 := S52.call r76
      rcases ifB hp with ⟨c77, hp⟩ | ⟨c77, hp⟩
      ·
        refine FW.condT rfl c77 ?_
        refine FW.seq ?_
        refine FW.region ?_
        refine FL.val rfl rfl rfl (E.assign (v := Value.bool false) rfl) ?_
        refine FL.nil ?_
        refine FW.ret ?_
        obtain rfl := Option.some.inj hp
        exact ⟨nofun, rfl, ⟨.inr rfl, res1 rfl rfl ⟨rfl, S75.back⟩⟩⟩
      ·
        refine FW.condF rfl c77 ?_
        refine FW.skip ?_
        refine FW.region ?_
        refine FL.val rfl rfl rfl (E.move k56) ?_
        refine FL.val rfl rfl rfl (E.add rfl rfl) ?_
        refine FL.val rfl rfl rfl (E.assign (v := Value.int .i64 (wr (((i23 : Nat) : Int) + 1))) rfl) ?_
        refine FL.nil ?_
        obtain rfl := Option.some.inj hp
        exact ⟨rfl, ⟨_, S75, i53, (nat_succ rfl (lt_of_get hx23) (p0.mono i53).le), k57, k58⟩⟩
    ·
      clear hp hq
      rintro s23 f88 w87 ⟨H84, S85, i86, k89, k90, k91⟩
      refine FW.seq ?_
      refine FW.seq ?_
      refine FW.region ?_
      refine FL.val rfl rfl rfl (E.move k89) ?_
      refine FL.val rfl rfl rfl (E.move k90) ?_
      refine FL.val rfl rfl rfl (E.lenP te39 rfl p0) ?_
      refine FL.val rfl rfl rfl (E.lss rfl rfl) ?_
      refine FL.nil ?_
      refine FW.condF rfl dlt_len ?_
      refine FW.exit ?_
      exact ⟨nofun, rfl, ⟨_, S85, i86⟩⟩
    ·
      clear hq
      intro e f83 w82 hD
      rcases q23 with s23 | x23
      ·
        obtain ⟨rfl, hD⟩ := hD
        obtain ⟨H79, S80, i81⟩ := hD
        replace hp := el_go hp
        refine FW.seq ?_
        refine FW.region ?_
        refine FL.val rfl rfl rfl (E.assign (v := Value.bool true) rfl) ?_
        refine FL.nil ?_
        refine FW.ret ?_
        obtain rfl := Option.some.inj hp
        exact ⟨.inr rfl, res1 rfl rfl ⟨rfl, S80.back⟩⟩
      ·
        obtain ⟨he, hL⟩ := hD
        replace hp := el_rt hp
        obtain rfl := Option.some.inj hp
        subst he
        exact hL

theorem w_laws_eqResStep {Ha : GH} {wa : World} (hs : Sl Ha wa) (a0 : ResStep) (v0_0 : Value) (p0_0 : RSl Ha eI 1 v0_0 a0.clause) (a1 : ResStep) (v1_0 : Value) (p1_0 : RSl Ha eI 1 v1_0 a1.clause) {r : Bool} (hp : (PF.laws_eqResStep a0 a1) = some r) :
    Calls Tryz.prog 76 #[Value.agg #[v0_0, Value.int .i64 a0.left, Value.int .i64 a0.right, Value.int .i64 a0.pivot], Value.agg #[v1_0, Value.int .i64 a1.left, Value.int .i64 a1.right, Value.int .i64 a1.pivot]] wa (Sc Ha wa (Value.bool r)) := by
  unfold PF.laws_eqResStep at hp
  have S0 := St.init hs
  refine calls_go (N := 26) (args := [Value.agg #[v0_0, Value.int .i64 a0.left, Value.int .i64 a0.right, Value.int .i64 a0.pivot], Value.agg #[v1_0, Value.int .i64 a1.left, Value.int .i64 a1.right, Value.int .i64 a1.pivot]]) Tryz.func76 rfl rfl rfl ?_
  refine FW.seq ?_
  refine FW.region ?_
  obtain ⟨b21, w22, run23, S24⟩ := S0.box (P := Tryz.prog) 89 [v0_0, Value.int .i64 a0.left, Value.int .i64 a0.right, Value.int .i64 a0.pivot] (v := Value.agg #[v0_0, Value.int .i64 a0.left, Value.int .i64 a0.right, Value.int .i64 a0.pivot]) rfl (ones_cons p0_0.one (ones_cons rfl (ones_cons rfl (ones_cons rfl ones_nil))))
  refine FL.val rfl rfl rfl (E.box rfl run23) ?_
  obtain ⟨H25, S26, i27, at28⟩ := S24.sealBox (i := 0) (l' := []) rfl rfl
  obtain ⟨b29, w30, run31, S32⟩ := S26.box (P := Tryz.prog) 89 [v1_0, Value.int .i64 a1.left, Value.int .i64 a1.right, Value.int .i64 a1.pivot] (v := Value.agg #[v1_0, Value.int .i64 a1.left, Value.int .i64 a1.right, Value.int .i64 a1.pivot]) rfl (ones_cons p1_0.one (ones_cons rfl (ones_cons rfl (ones_cons rfl ones_nil))))
  refine FL.val rfl rfl rfl (E.box rfl run31) ?_
  obtain ⟨H33, S34, i35, at36⟩ := S32.sealBox (i := 0) (l' := []) rfl rfl
  refine FL.val rfl rfl rfl (E.assign (v := Value.bool false) rfl) ?_
  refine FL.nil ?_
  refine FW.seq ?_
  refine FW.seq ?_
  refine FW.region ?_
  refine FL.val rfl rfl rfl (E.fieldAddr tf89_0 rfl) ?_
  refine FL.val rfl rfl rfl (E.load rfl (run_load1 Tryz.isAgg39 ((at28.mono i35).now S34.sl) rfl)) ?_
  refine FL.val rfl rfl rfl (E.fieldAddr tf89_0 rfl) ?_
  refine FL.val rfl rfl rfl (E.load rfl (run_load1 Tryz.isAgg39 (at36.now S34.sl) rfl)) ?_
  obtain ⟨r37, hr38, hp⟩ := bnd hp
  refine FL.call rfl rfl rfl (E.call Tryz.call29 (A2 rfl rfl)) (w_laws_eqIntS S34.sl v0_0 a0.clause (p0_0.mono (i27.tr i35)) v1_0 a1.clause (p1_0.mono (i27.tr i35)) hr38) ?_
  rintro e w39 ⟨rfl, r40⟩
  refine ⟨_, rfl, ?_⟩
  have S41 := S34.call r40
  refine FL.val rfl rfl rfl (E.not rfl) ?_
  refine FL.nil ?_
  rcases ifB hp with ⟨c42, hp⟩ | ⟨c42, hp⟩
  ·
    refine FW.condT rfl c42 ?_
    refine FW.seq ?_
    refine FW.region ?_
    refine FL.val rfl rfl rfl (E.assign (v := Value.bool false) rfl) ?_
    refine FL.nil ?_
    refine FW.ret ?_
    obtain rfl := Option.some.inj hp
    exact ⟨.inr rfl, res1 rfl rfl ⟨rfl, S41.back⟩⟩
  ·
    refine FW.condF rfl c42 ?_
    refine FW.skip ?_
    refine FW.seq ?_
    refine FW.seq ?_
    refine FW.region ?_
    refine FL.val rfl rfl rfl (E.fieldAddr tf89_1 rfl) ?_
    refine FL.val rfl rfl rfl (E.load rfl (run_load1 Tryz.isAgg3 ((at28.mono i35).now S41.sl) rfl)) ?_
    refine FL.val rfl rfl rfl (E.fieldAddr tf89_1 rfl) ?_
    refine FL.val rfl rfl rfl (E.load rfl (run_load1 Tryz.isAgg3 (at36.now S41.sl) rfl)) ?_
    refine FL.val rfl rfl rfl (E.neq rfl rfl) ?_
    refine FL.nil ?_
    rcases ifB hp with ⟨c43, hp⟩ | ⟨c43, hp⟩
    ·
      refine FW.condT rfl c43 ?_
      refine FW.seq ?_
      refine FW.region ?_
      refine FL.val rfl rfl rfl (E.assign (v := Value.bool false) rfl) ?_
      refine FL.nil ?_
      refine FW.ret ?_
      obtain rfl := Option.some.inj hp
      exact ⟨.inr rfl, res1 rfl rfl ⟨rfl, S41.back⟩⟩
    ·
      refine FW.condF rfl c43 ?_
      refine FW.skip ?_
      refine FW.seq ?_
      refine FW.seq ?_
      refine FW.region ?_
      refine FL.val rfl rfl rfl (E.fieldAddr tf89_2 rfl) ?_
      refine FL.val rfl rfl rfl (E.load rfl (run_load1 Tryz.isAgg3 ((at28.mono i35).now S41.sl) rfl)) ?_
      refine FL.val rfl rfl rfl (E.fieldAddr tf89_2 rfl) ?_
      refine FL.val rfl rfl rfl (E.load rfl (run_load1 Tryz.isAgg3 (at36.now S41.sl) rfl)) ?_
      refine FL.val rfl rfl rfl (E.neq rfl rfl) ?_
      refine FL.nil ?_
      rcases ifB hp with ⟨c44, hp⟩ | ⟨c44, hp⟩
      ·
        refine FW.condT rfl c44 ?_
        refine FW.seq ?_
        refine FW.region ?_
        refine FL.val rfl rfl rfl (E.assign (v := Value.bool false) rfl) ?_
        refine FL.nil ?_
        refine FW.ret ?_
        obtain rfl := Option.some.inj hp
        exact ⟨.inr rfl, res1 rfl rfl ⟨rfl, S41.back⟩⟩
      ·
        refine FW.condF rfl c44 ?_
        refine FW.skip ?_
        refine FW.seq ?_
        refine FW.seq ?_
        refine FW.region ?_
        refine FL.val rfl rfl rfl (E.fieldAddr tf89_3 rfl) ?_
        refine FL.val rfl rfl rfl (E.load rfl (run_load1 Tryz.isAgg3 ((at28.mono i35).now S41.sl) rfl)) ?_
        refine FL.val rfl rfl rfl (E.fieldAddr tf89_3 rfl) ?_
        refine FL.val rfl rfl rfl (E.load rfl (run_load1 Tryz.isAgg3 (at36.now S41.sl) rfl)) ?_
        refine FL.val rfl rfl rfl (E.neq rfl rfl) ?_
        refine FL.nil ?_
        rcases ifB hp with ⟨c45, hp⟩ | ⟨c45, hp⟩
        ·
          refine FW.condT rfl c45 ?_
          refine FW.seq ?_
          refine FW.region ?_
          refine FL.val rfl rfl rfl (E.assign (v := Value.bool false) rfl) ?_
          refine FL.nil ?_
          refine FW.ret ?_
          obtain rfl := Option.some.inj hp
          exact ⟨.inr rfl, res1 rfl rfl ⟨rfl, S41.back⟩⟩
        ·
          refine FW.condF rfl c45 ?_
          refine FW.skip ?_
          refine FW.seq ?_
          refine FW.region ?_
          refine FL.val rfl rfl rfl (E.assign (v := Value.bool true) rfl) ?_
          refine FL.nil ?_
          refine FW.ret ?_
          obtain rfl := Option.some.inj hp
          exact ⟨.inr rfl, res1 rfl rfl ⟨rfl, S41.back⟩⟩

theorem w_laws_eqResStepS {Ha : GH} {wa : World} (hs : Sl Ha wa) (v0 : Value) (a0 : List ResStep) (p0 : RSl Ha eResStep 4 v0 a0) (v1 : Value) (a1 : List ResStep) (p1 : RSl Ha eResStep 4 v1 a1) {r : Bool} (hp : (PF.laws_eqResStepS a0 a1) = some r) :
    Calls Tryz.prog 21 #[v0, v1] wa (Sc Ha wa (Value.bool r)) := by
  unfold PF.laws_eqResStepS at hp
  have S0 := St.init hs
  refine calls_go (N := 27) (args := [v0, v1]) Tryz.func21 rfl rfl rfl ?_
  refine FW.seq ?_
  refine FW.region ?_
  refine FL.val rfl rfl rfl (E.assign (v := Value.bool false) rfl) ?_
  refine FL.nil ?_
  refine FW.seq ?_
  refine FW.seq ?_
  refine FW.region ?_
  refine FL.val rfl rfl rfl (E.move (v := v0) rfl) ?_
  refine FL.val rfl rfl rfl (E.lenP te28 rfl p0) ?_
  refine FL.val rfl rfl rfl (E.move (v := v1) rfl) ?_
  refine FL.val rfl rfl rfl (E.lenP te28 rfl p1) ?_
  refine FL.val rfl rfl rfl (E.neq rfl rfl) ?_
  refine FL.nil ?_
  rcases ifB hp with ⟨c21, hp⟩ | ⟨c21, hp⟩
  ·
    refine FW.condT rfl c21 ?_
    refine FW.seq ?_
    refine FW.region ?_
    refine FL.val rfl rfl rfl (E.assign (v := Value.bool false) rfl) ?_
    refine FL.nil ?_
    refine FW.ret ?_
    obtain rfl := Option.some.inj hp
    exact ⟨.inr rfl, res1 rfl rfl ⟨rfl, S0.back⟩⟩
  ·
    refine FW.condF rfl c21 ?_
    refine FW.skip ?_
    refine FW.seq ?_
    refine FW.seq ?_
    refine FW.region ?_
    refine FL.val rfl rfl rfl (E.assign (v := Value.int .i64 0) rfl) ?_
    refine FL.nil ?_
    obtain ⟨q23, hq, hp⟩ := bndR hp
    refine FW.block ?_
    refine FW.mono (FW.forL (S := Unit) (X := Bool) (fun (i23 : Nat) (s23 : Unit) f w => ∃ H : GH, St Ha wa H w [] ∧ Inc Ha H ∧ f 5 = Value.int .i64 ((i23 : Nat) : Int) ∧ f 0 = v0 ∧ f 1 = v1) (fun q e f w => match q with | .go s23 => e = Exit.exit 0 ∧ (∃ H : GH, St Ha wa H w [] ∧ Inc Ha H) | .rt x => ((e = Exit.ret) ∧ (fun e f w => (e = Exit.normal ∨ e = Exit.ret) ∧ ∀ a, Fr (δ := []) 27 a f → ∃ v, (results Tryz.f21 a.tmps).run Tryz.prog w = .ok v w ∧ (Sc Ha wa (Value.bool x)) (.returned v) w) e f w)) hq ⟨_, S0, (Inc.rfl _), rfl, rfl, rfl⟩ ?_ ?_) ?_
    ·
      clear hp hq
      rintro i23 y22 s23 f61 w60 ⟨H57, S58, i59, k62, k63, k64⟩ hx23 o90 hp
      refine FW.seq ?_
      refine FW.seq ?_
      refine FW.region ?_
      refine FL.val rfl rfl rfl (E.move k62) ?_
      refine FL.val rfl rfl rfl (E.move k63) ?_
      refine FL.val rfl rfl rfl (E.lenP te28 rfl p0) ?_
      refine FL.val rfl rfl rfl (E.lssT rfl rfl (lss_len hx23)) ?_
      refine FL.nil ?_
      refine FW.condT rfl rfl ?_
      refine FW.skip ?_
      refine FW.seq ?_
      refine FW.block ?_
      refine FW.seq ?_
      refine FW.draw (fun w' => Run w60.heap.size H57 w60 H57 w') (by kernel_rfl) (by kernel_rfl) (run_drew S58.sl) ?_
      refine FD.val rfl rfl rfl (fun w' hw' => (E.move k63)) ?_
      refine FD.val rfl rfl rfl (fun w' hw' => (E.move k62)) ?_
      obtain ⟨p66, cs67, pt68, l69, at70, rel71⟩ := p0.at (ix_nat hx23)
      obtain ⟨v72, rfl, h73⟩ := eResStep_open rel71
      refine FD.val rfl rfl rfl (fun w' hw' => (E.indexAddr te28 rfl rfl pt68)) ?_
      refine FD.val rfl rfl rfl (fun w' hw' => (E.load rfl (run_loadA Tryz.isAgg89 Tryz.sizeOf89 ((at70.mono i59).now (S58.call hw').sl) rfl))) ?_
      refine FD.val rfl rfl rfl (fun w' hw' => (E.move k64)) ?_
      refine FD.val rfl rfl rfl (fun w' hw' => (E.move k62)) ?_
      obtain ⟨x80, hx81, hp⟩ := bnd hp
      obtain ⟨p74, cs75, pt76, l77, at78, rel79⟩ := p1.at hx81
      obtain ⟨v82, rfl, h83⟩ := eResStep_open rel79
      refine FD.val rfl rfl rfl (fun w' hw' => (E.indexAddr te28 rfl rfl pt76)) ?_
      refine FD.val rfl rfl rfl (fun w' hw' => (E.load rfl (run_loadA Tryz.isAgg89 Tryz.sizeOf89 ((at78.mono i59).now (S58.call hw').sl) rfl))) ?_
      obtain ⟨r84, hr85, hp⟩ := bnd hp
      refine FD.call rfl rfl rfl (fun w' hw' => (E.call Tryz.call76 (A2 rfl rfl))) (fun w' hw' => Calls.cls hw' (w_laws_eqResStep (S58.call hw').sl y22 v72 (h73.mono i59) x80 v82 (h83.mono i59) hr85)) ?_
      refine FD.val rfl rfl rfl (fun w' hw' => (E.not rfl)) ?_
      refine FD.nil ?_
      intro w86 r88
      have S87 := S58.call r88
      rcases ifB hp with ⟨c89, hp⟩ | ⟨c89, hp⟩
      ·
        refine FW.condT rfl c89 ?_
        refine FW.seq ?_
        refine FW.region ?_
        refine FL.val rfl rfl rfl (E.assign (v := Value.bool false) rfl) ?_
        refine FL.nil ?_
        refine FW.ret ?_
        obtain rfl := Option.some.inj hp
        exact ⟨nofun, rfl, ⟨.inr rfl, res1 rfl rfl ⟨rfl, S87.back⟩⟩⟩
      ·
        refine FW.condF rfl c89 ?_
        refine FW.skip ?_
        refine FW.region ?_
        refine FL.val rfl rfl rfl (E.move k62) ?_
        refine FL.val rfl rfl rfl (E.add rfl rfl) ?_
        refine FL.val rfl rfl rfl (E.assign (v := Value.int .i64 (wr (((i23 : Nat) : Int) + 1))) rfl) ?_
        refine FL.nil ?_
        obtain rfl := Option.some.inj hp
        exact ⟨rfl, ⟨_, S87, i59, (nat_succ rfl (lt_of_get hx23) (p0.mono i59).le), k63, k64⟩⟩
    ·
      clear hp hq
      rintro s23 f100 w99 ⟨H96, S97, i98, k101, k102, k103⟩
      refine FW.seq ?_
      refine FW.seq ?_
      refine FW.region ?_
      refine FL.val rfl rfl rfl (E.move k101) ?_
      refine FL.val rfl rfl rfl (E.move k102) ?_
      refine FL.val rfl rfl rfl (E.lenP te28 rfl p0) ?_
      refine FL.val rfl rfl rfl (E.lss rfl rfl) ?_
      refine FL.nil ?_
      refine FW.condF rfl dlt_len ?_
      refine FW.exit ?_
      exact ⟨nofun, rfl, ⟨_, S97, i98⟩⟩
    ·
      clear hq
      intro e f95 w94 hD
      rcases q23 with s23 | x23
      ·
        obtain ⟨rfl, hD⟩ := hD
        obtain ⟨H91, S92, i93⟩ := hD
        replace hp := el_go hp
        refine FW.seq ?_
        refine FW.region ?_
        refine FL.val rfl rfl rfl (E.assign (v := Value.bool true) rfl) ?_
        refine FL.nil ?_
        refine FW.ret ?_
        obtain rfl := Option.some.inj hp
        exact ⟨.inr rfl, res1 rfl rfl ⟨rfl, S92.back⟩⟩
      ·
        obtain ⟨he, hL⟩ := hD
        replace hp := el_rt hp
        obtain rfl := Option.some.inj hp
        subst he
        exact hL

theorem w_laws_eqIntSS {Ha : GH} {wa : World} (hs : Sl Ha wa) (v0 : Value) (a0 : List (List Int)) (p0 : RSl Ha (eL eI 1) 1 v0 a0) (v1 : Value) (a1 : List (List Int)) (p1 : RSl Ha (eL eI 1) 1 v1 a1) {r : Bool} (hp : (PF.laws_eqIntSS a0 a1) = some r) :
    Calls Tryz.prog 77 #[v0, v1] wa (Sc Ha wa (Value.bool r)) := by
  unfold PF.laws_eqIntSS at hp
  have S0 := St.init hs
  refine calls_go (N := 27) (args := [v0, v1]) Tryz.func77 rfl rfl rfl ?_
  refine FW.seq ?_
  refine FW.region ?_
  refine FL.val rfl rfl rfl (E.assign (v := Value.bool false) rfl) ?_
  refine FL.nil ?_
  refine FW.seq ?_
  refine FW.seq ?_
  refine FW.region ?_
  refine FL.val rfl rfl rfl (E.move (v := v0) rfl) ?_
  refine FL.val rfl rfl rfl (E.lenP te22 rfl p0) ?_
  refine FL.val rfl rfl rfl (E.move (v := v1) rfl) ?_
  refine FL.val rfl rfl rfl (E.lenP te22 rfl p1) ?_
  refine FL.val rfl rfl rfl (E.neq rfl rfl) ?_
  refine FL.nil ?_
  rcases ifB hp with ⟨c21, hp⟩ | ⟨c21, hp⟩
  ·
    refine FW.condT rfl c21 ?_
    refine FW.seq ?_
    refine FW.region ?_
    refine FL.val rfl rfl rfl (E.assign (v := Value.bool false) rfl) ?_
    refine FL.nil ?_
    refine FW.ret ?_
    obtain rfl := Option.some.inj hp
    exact ⟨.inr rfl, res1 rfl rfl ⟨rfl, S0.back⟩⟩
  ·
    refine FW.condF rfl c21 ?_
    refine FW.skip ?_
    refine FW.seq ?_
    refine FW.seq ?_
    refine FW.region ?_
    refine FL.val rfl rfl rfl (E.assign (v := Value.int .i64 0) rfl) ?_
    refine FL.nil ?_
    obtain ⟨q23, hq, hp⟩ := bndR hp
    refine FW.block ?_
    refine FW.mono (FW.forL (S := Unit) (X := Bool) (fun (i23 : Nat) (s23 : Unit) f w => ∃ H : GH, St Ha wa H w [] ∧ Inc Ha H ∧ f 5 = Value.int .i64 ((i23 : Nat) : Int) ∧ f 0 = v0 ∧ f 1 = v1) (fun q e f w => match q with | .go s23 => e = Exit.exit 0 ∧ (∃ H : GH, St Ha wa H w [] ∧ Inc Ha H) | .rt x => ((e = Exit.ret) ∧ (fun e f w => (e = Exit.normal ∨ e = Exit.ret) ∧ ∀ a, Fr (δ := []) 27 a f → ∃ v, (results Tryz.f77 a.tmps).run Tryz.prog w = .ok v w ∧ (Sc Ha wa (Value.bool x)) (.returned v) w) e f w)) hq ⟨_, S0, (Inc.rfl _), rfl, rfl, rfl⟩ ?_ ?_) ?_
    ·
      clear hp hq
      rintro i23 y22 s23 f61 w60 ⟨H57, S58, i59, k62, k63, k64⟩ hx23 o90 hp
      refine FW.seq ?_
      refine FW.seq ?_
      refine FW.region ?_
      refine FL.val rfl rfl rfl (E.move k62) ?_
      refine FL.val rfl rfl rfl (E.move k63) ?_
      refine FL.val rfl rfl rfl (E.lenP te22 rfl p0) ?_
      refine FL.val rfl rfl rfl (E.lssT rfl rfl (lss_len hx23)) ?_
      refine FL.nil ?_
      refine FW.condT rfl rfl ?_
      refine FW.skip ?_
      refine FW.seq ?_
      refine FW.block ?_
      refine FW.seq ?_
      refine FW.draw (fun w' => Run w60.heap.size H57 w60 H57 w') (by kernel_rfl) (by kernel_rfl) (run_drew S58.sl) ?_
      refine FD.val rfl rfl rfl (fun w' hw' => (E.move k63)) ?_
      refine FD.val rfl rfl rfl (fun w' hw' => (E.move k62)) ?_
      obtain ⟨p66, cs67, pt68, l69, at70, rel71⟩ := p0.at (ix_nat hx23)
      obtain ⟨v72, rfl, h73⟩ := eL_open rel71
      refine FD.val rfl rfl rfl (fun w' hw' => (E.indexAddr te22 rfl rfl pt68)) ?_
      refine FD.val rfl rfl rfl (fun w' hw' => (E.load rfl (run_load0 Tryz.isAgg39 ((at70.mono i59).now (S58.call hw').sl) rfl))) ?_
      refine FD.val rfl rfl rfl (fun w' hw' => (E.move k64)) ?_
      refine FD.val rfl rfl rfl (fun w' hw' => (E.move k62)) ?_
      obtain ⟨x80, hx81, hp⟩ := bnd hp
      obtain ⟨p74, cs75, pt76, l77, at78, rel79⟩ := p1.at hx81
      obtain ⟨v82, rfl, h83⟩ := eL_open rel79
      refine FD.val rfl rfl rfl (fun w' hw' => (E.indexAddr te22 rfl rfl pt76)) ?_
      refine FD.val rfl rfl rfl (fun w' hw' => (E.load rfl (run_load0 Tryz.isAgg39 ((at78.mono i59).now (S58.call hw').sl) rfl))) ?_
      obtain ⟨r84, hr85, hp⟩ := bnd hp
      refine FD.call rfl rfl rfl (fun w' hw' => (E.call Tryz.call29 (A2 rfl rfl))) (fun w' hw' => Calls.cls hw' (w_laws_eqIntS (S58.call hw').sl v72 y22 (h73.mono i59) v82 x80 (h83.mono i59) hr85)) ?_
      refine FD.val rfl rfl rfl (fun w' hw' => (E.not rfl)) ?_
      refine FD.nil ?_
      intro w86 r88
      have S87 := S58.call r88
      rcases ifB hp with ⟨c89, hp⟩ | ⟨c89, hp⟩
      ·
        refine FW.condT rfl c89 ?_
        refine FW.seq ?_
        refine FW.region ?_
        refine FL.val rfl rfl rfl (E.assign (v := Value.bool false) rfl) ?_
        refine FL.nil ?_
        refine FW.ret ?_
        obtain rfl := Option.some.inj hp
        exact ⟨nofun, rfl, ⟨.inr rfl, res1 rfl rfl ⟨rfl, S87.back⟩⟩⟩
      ·
        refine FW.condF rfl c89 ?_
        refine FW.skip ?_
        refine FW.region ?_
        refine FL.val rfl rfl rfl (E.move k62) ?_
        refine FL.val rfl rfl rfl (E.add rfl rfl) ?_
        refine FL.val rfl rfl rfl (E.assign (v := Value.int .i64 (wr (((i23 : Nat) : Int) + 1))) rfl) ?_
        refine FL.nil ?_
        obtain rfl := Option.some.inj hp
        exact ⟨rfl, ⟨_, S87, i59, (nat_succ rfl (lt_of_get hx23) (p0.mono i59).le), k63, k64⟩⟩
    ·
      clear hp hq
      rintro s23 f100 w99 ⟨H96, S97, i98, k101, k102, k103⟩
      refine FW.seq ?_
      refine FW.seq ?_
      refine FW.region ?_
      refine FL.val rfl rfl rfl (E.move k101) ?_
      refine FL.val rfl rfl rfl (E.move k102) ?_
      refine FL.val rfl rfl rfl (E.lenP te22 rfl p0) ?_
      refine FL.val rfl rfl rfl (E.lss rfl rfl) ?_
      refine FL.nil ?_
      refine FW.condF rfl dlt_len ?_
      refine FW.exit ?_
      exact ⟨nofun, rfl, ⟨_, S97, i98⟩⟩
    ·
      clear hq
      intro e f95 w94 hD
      rcases q23 with s23 | x23
      ·
        obtain ⟨rfl, hD⟩ := hD
        obtain ⟨H91, S92, i93⟩ := hD
        replace hp := el_go hp
        refine FW.seq ?_
        refine FW.region ?_
        refine FL.val rfl rfl rfl (E.assign (v := Value.bool true) rfl) ?_
        refine FL.nil ?_
        refine FW.ret ?_
        obtain rfl := Option.some.inj hp
        exact ⟨.inr rfl, res1 rfl rfl ⟨rfl, S92.back⟩⟩
      ·
        obtain ⟨he, hL⟩ := hD
        replace hp := el_rt hp
        obtain rfl := Option.some.inj hp
        subst he
        exact hL

theorem w_laws_eqCnf {Ha : GH} {wa : World} (hs : Sl Ha wa) (a0 : Cnf) (v0_1 : Value) (p0_1 : RSl Ha (eL eI 1) 1 v0_1 a0.clauses) (a1 : Cnf) (v1_1 : Value) (p1_1 : RSl Ha (eL eI 1) 1 v1_1 a1.clauses) {r : Bool} (hp : (PF.laws_eqCnf a0 a1) = some r) :
    Calls Tryz.prog 22 #[Value.agg #[Value.int .i64 a0.vars, v0_1], Value.agg #[Value.int .i64 a1.vars, v1_1]] wa (Sc Ha wa (Value.bool r)) := by
  unfold PF.laws_eqCnf at hp
  have S0 := St.init hs
  refine calls_go (N := 16) (args := [Value.agg #[Value.int .i64 a0.vars, v0_1], Value.agg #[Value.int .i64 a1.vars, v1_1]]) Tryz.func22 rfl rfl rfl ?_
  refine FW.seq ?_
  refine FW.region ?_
  obtain ⟨b21, w22, run23, S24⟩ := S0.box (P := Tryz.prog) 31 [Value.int .i64 a0.vars, v0_1] (v := Value.agg #[Value.int .i64 a0.vars, v0_1]) rfl (ones_cons rfl (ones_cons p0_1.one ones_nil))
  refine FL.val rfl rfl rfl (E.box rfl run23) ?_
  obtain ⟨H25, S26, i27, at28⟩ := S24.sealBox (i := 0) (l' := []) rfl rfl
  obtain ⟨b29, w30, run31, S32⟩ := S26.box (P := Tryz.prog) 31 [Value.int .i64 a1.vars, v1_1] (v := Value.agg #[Value.int .i64 a1.vars, v1_1]) rfl (ones_cons rfl (ones_cons p1_1.one ones_nil))
  refine FL.val rfl rfl rfl (E.box rfl run31) ?_
  obtain ⟨H33, S34, i35, at36⟩ := S32.sealBox (i := 0) (l' := []) rfl rfl
  refine FL.val rfl rfl rfl (E.assign (v := Value.bool false) rfl) ?_
  refine FL.nil ?_
  refine FW.seq ?_
  refine FW.seq ?_
  refine FW.region ?_
  refine FL.val rfl rfl rfl (E.fieldAddr tf31_0 rfl) ?_
  refine FL.val rfl rfl rfl (E.load rfl (run_load1 Tryz.isAgg3 ((at28.mono i35).now S34.sl) rfl)) ?_
  refine FL.val rfl rfl rfl (E.fieldAddr tf31_0 rfl) ?_
  refine FL.val rfl rfl rfl (E.load rfl (run_load1 Tryz.isAgg3 (at36.now S34.sl) rfl)) ?_
  refine FL.val rfl rfl rfl (E.neq rfl rfl) ?_
  refine FL.nil ?_
  rcases ifB hp with ⟨c37, hp⟩ | ⟨c37, hp⟩
  ·
    refine FW.condT rfl c37 ?_
    refine FW.seq ?_
    refine FW.region ?_
    refine FL.val rfl rfl rfl (E.assign (v := Value.bool false) rfl) ?_
    refine FL.nil ?_
    refine FW.ret ?_
    obtain rfl := Option.some.inj hp
    exact ⟨.inr rfl, res1 rfl rfl ⟨rfl, S34.back⟩⟩
  ·
    refine FW.condF rfl c37 ?_
    refine FW.skip ?_
    refine FW.seq ?_
    refine FW.seq ?_
    refine FW.region ?_
    refine FL.val rfl rfl rfl (E.fieldAddr tf31_1 rfl) ?_
    refine FL.val rfl rfl rfl (E.load rfl (run_load1 Tryz.isAgg22 ((at28.mono i35).now S34.sl) rfl)) ?_
    refine FL.val rfl rfl rfl (E.fieldAddr tf31_1 rfl) ?_
    refine FL.val rfl rfl rfl (E.load rfl (run_load1 Tryz.isAgg22 (at36.now S34.sl) rfl)) ?_
    obtain ⟨r38, hr39, hp⟩ := bnd hp
    refine FL.call rfl rfl rfl (E.call Tryz.call77 (A2 rfl rfl)) (w_laws_eqIntSS S34.sl v0_1 a0.clauses (p0_1.mono (i27.tr i35)) v1_1 a1.clauses (p1_1.mono (i27.tr i35)) hr39) ?_
    rintro e w40 ⟨rfl, r41⟩
    refine ⟨_, rfl, ?_⟩
    have S42 := S34.call r41
    refine FL.val rfl rfl rfl (E.not rfl) ?_
    refine FL.nil ?_
    rcases ifB hp with ⟨c43, hp⟩ | ⟨c43, hp⟩
    ·
      refine FW.condT rfl c43 ?_
      refine FW.seq ?_
      refine FW.region ?_
      refine FL.val rfl rfl rfl (E.assign (v := Value.bool false) rfl) ?_
      refine FL.nil ?_
      refine FW.ret ?_
      obtain rfl := Option.some.inj hp
      exact ⟨.inr rfl, res1 rfl rfl ⟨rfl, S42.back⟩⟩
    ·
      refine FW.condF rfl c43 ?_
      refine FW.skip ?_
      refine FW.seq ?_
      refine FW.region ?_
      refine FL.val rfl rfl rfl (E.assign (v := Value.bool true) rfl) ?_
      refine FL.nil ?_
      refine FW.ret ?_
      obtain rfl := Option.some.inj hp
      exact ⟨.inr rfl, res1 rfl rfl ⟨rfl, S42.back⟩⟩

theorem w_laws_markIntS {H0 Ha : GH} {w0 wa : World} {l : List MO} (S0 : St H0 w0 Ha wa l) (hs0 : Sl H0 w0) (v0 : Value) (a0 : List Int) (p0 : RSl (up w0.heap.size Ha) eI 1 v0 a0) (a1 : Int) :
    Calls Tryz.prog 30 #[v0, Value.int .i64 a1] wa (M1 H0 w0 Ha l eI 1 v0 (PF.laws_markIntS a0 a1)) := by
  obtain ⟨c0, n0, hc0⟩ := p0.nest eI_flat (by decide)
  have hln := p0.ln
  have hle := p0.le
  refine calls_go (N := 19) (args := [v0, Value.int .i64 a1]) Tryz.func30 rfl rfl rfl ?_
  refine FW.seq ?_
  refine FW.region ?_
  refine FL.val rfl rfl rfl (E.assign (v := Value.int .i64 0) rfl) ?_
  refine FL.nil ?_
  refine FW.seq ?_
  refine FW.seq ?_
  refine FW.region ?_
  refine FL.val rfl rfl rfl (E.assign (v := Value.int .i64 0) rfl) ?_
  refine FL.nil ?_
  refine FW.block ?_
  refine FW.mono (FW.mark (F := fun y m => (m, (wr (m + 1)))) (a0 := a0) (k0 := a1) (fun (i : Nat) (xs : List Int) (k : Int) f w => ∃ (H : GH) (c : List Value), St H0 w0 H w l ∧ Nest (up w0.heap.size H) eI 1 v0 xs c ∧ bl c = bl c0 ∧ (∀ b, b ∉ bl [v0] → b ∉ bl c0 → H b = Ha b) ∧ f 0 = v0 ∧ f 1 = Value.int .i64 k ∧ f 5 = Value.int .i64 ((i : Nat) : Int)) (fun e f w => e = Exit.exit 0 ∧ ∃ (H : GH) (c : List Value), St H0 w0 H w l ∧ Nest (up w0.heap.size H) eI 1 v0 (markFrom (fun y m => (m, (wr (m + 1)))) a0 a1).1 c ∧ bl c = bl c0 ∧ (∀ b, b ∉ bl [v0] → b ∉ bl c0 → H b = Ha b) ∧ f 0 = v0 ∧ f 1 = Value.int .i64 (markFrom (fun y m => (m, (wr (m + 1)))) a0 a1).2) ⟨_, _, S0, n0, rfl, fun _ _ _ => rfl, rfl, rfl, rfl⟩ ?_ ?_) ?_
  ·
    rintro i y xs m f1 w1 ⟨H1, c1, S1, n1, hb, ho, kv, kk, kc⟩ hx hy
    obtain ⟨p, hpt, wr0, hB, hr, nd⟩ := n1.begin hy (by decide)
    have hci := eI_open hr
    have rd := wr0.opens hci
    refine FW.seq ?_
    refine FW.seq ?_
    refine FW.region ?_
    refine FL.val rfl rfl rfl (E.move kc) ?_
    refine FL.val rfl rfl rfl (E.move kv) ?_
    refine FL.val rfl rfl rfl (E.len te39 rfl hln) ?_
    refine FL.val rfl rfl rfl (E.lssT rfl rfl (lss_len hx)) ?_
    refine FL.nil ?_
    refine FW.condT rfl rfl ?_
    refine FW.skip ?_
    refine FW.seq ?_
    refine FW.block ?_
    refine FW.seq ?_
    refine FW.region ?_
    refine FL.val rfl rfl rfl (E.move kv) ?_
    refine FL.val rfl rfl rfl (E.move kc) ?_
    refine FL.val rfl rfl rfl (E.move kk) ?_
    refine FL.val rfl rfl rfl (E.indexAddr te39 rfl rfl hpt) ?_
    obtain ⟨w21, H22, run24, S23, wr25, o26⟩ := rd.poke0 (P := Tryz.prog) (t := 3) (u := Value.int .i64 m) S1 hs0 hB rfl rfl rfl Tryz.sizeOf3 rfl rfl (c2 := [Value.int .i64 m]) rfl
    refine FL.act rfl rfl (E.store rfl rfl run24) ?_
    refine FL.nil ?_
    refine FW.region ?_
    refine FL.val rfl rfl rfl (E.move kk) ?_
    refine FL.val rfl rfl rfl (E.add rfl rfl) ?_
    refine FL.val rfl rfl rfl (E.assign (v := Value.int .i64 (wr (m + 1))) rfl) ?_
    refine FL.nil ?_
    refine FW.region ?_
    refine FL.val rfl rfl rfl (E.move kc) ?_
    refine FL.val rfl rfl rfl (E.add rfl rfl) ?_
    refine FL.val rfl rfl rfl (E.assign (v := Value.int .i64 (wr (((i : Nat) : Int) + 1))) rfl) ?_
    refine FL.nil ?_
    obtain ⟨c2, n2, hb2, ho2⟩ := n1.round eI_flat.loc hy (by decide) hpt wr25 (y' := m) rfl
    exact ⟨rfl, _, _, S23, n2, hb2.trans hb, fun b q1 q2 => (ho2 b q1 (by rw [hb]; exact q2)).trans (ho b q1 q2), kv, rfl, nat_succ rfl (lt_of_get hx) hle⟩
  ·
    rintro f1 w1 ⟨H1, c1, S1, n1, hb, ho, kv, kk, kc⟩
    refine FW.seq ?_
    refine FW.seq ?_
    refine FW.region ?_
    refine FL.val rfl rfl rfl (E.move kc) ?_
    refine FL.val rfl rfl rfl (E.move kv) ?_
    refine FL.val rfl rfl rfl (E.len te39 rfl hln) ?_
    refine FL.val rfl rfl rfl (E.lss rfl rfl) ?_
    refine FL.nil ?_
    refine FW.condF rfl dlt_len ?_
    refine FW.exit ?_
    exact ⟨nofun, rfl, _, _, S1, n1, hb, ho, kv, kk⟩
  ·
    rintro e f2 w2 ⟨rfl, H2, c2, S2, n2, hb, ho, kv, kk⟩
    refine FW.seq ?_
    refine FW.region ?_
    refine FL.val rfl rfl rfl (E.move kk) ?_
    refine FL.val rfl rfl rfl (E.assign (v := Value.int .i64 ((markFrom (fun y m => (m, (wr (m + 1)))) a0 a1).2)) rfl) ?_
    refine FL.nil ?_
    refine FW.ret ?_
    exact ⟨.inr rfl, res1 rfl rfl ⟨_, rfl, S2, n2.rsl, fun b q => ho b q (by rw [hc0]; simp)⟩⟩

theorem w_laws_markIntSS {H0 Ha : GH} {w0 wa : World} {l : List MO} (S0 : St H0 w0 Ha wa l) (hs0 : Sl H0 w0) (v0 : Value) (a0 : List (List Int)) (c0 : List Value) (n0 : Nest (up w0.heap.size Ha) (eL eI 1) 1 v0 a0 c0) (a1 : Int) :
    Calls Tryz.prog 78 #[v0, Value.int .i64 a1] wa (M2 H0 w0 Ha l (eL eI 1) 1 v0 c0 (PF.laws_markIntSS a0 a1)) := by
  have hln := n0.rsl.ln
  have hle := n0.rsl.le
  refine calls_go (N := 19) (args := [v0, Value.int .i64 a1]) Tryz.func78 rfl rfl rfl ?_
  refine FW.seq ?_
  refine FW.region ?_
  refine FL.val rfl rfl rfl (E.assign (v := Value.int .i64 0) rfl) ?_
  refine FL.nil ?_
  refine FW.seq ?_
  refine FW.seq ?_
  refine FW.region ?_
  refine FL.val rfl rfl rfl (E.assign (v := Value.int .i64 0) rfl) ?_
  refine FL.nil ?_
  refine FW.block ?_
  refine FW.mono (FW.mark (F := fun y m => ((PF.laws_markIntS y m).1, (PF.laws_markIntS y m).2)) (a0 := a0) (k0 := a1) (fun (i : Nat) (xs : List (List Int)) (k : Int) f w => ∃ (H : GH) (c : List Value), St H0 w0 H w l ∧ Nest (up w0.heap.size H) (eL eI 1) 1 v0 xs c ∧ bl c = bl c0 ∧ (∀ b, b ∉ bl [v0] → b ∉ bl c0 → H b = Ha b) ∧ f 0 = v0 ∧ f 1 = Value.int .i64 k ∧ f 5 = Value.int .i64 ((i : Nat) : Int)) (fun e f w => e = Exit.exit 0 ∧ ∃ (H : GH) (c : List Value), St H0 w0 H w l ∧ Nest (up w0.heap.size H) (eL eI 1) 1 v0 (markFrom (fun y m => ((PF.laws_markIntS y m).1, (PF.laws_markIntS y m).2)) a0 a1).1 c ∧ bl c = bl c0 ∧ (∀ b, b ∉ bl [v0] → b ∉ bl c0 → H b = Ha b) ∧ f 0 = v0 ∧ f 1 = Value.int .i64 (markFrom (fun y m => ((PF.laws_markIntS y m).1, (PF.laws_markIntS y m).2)) a0 a1).2) ⟨_, _, S0, n0, rfl, fun _ _ _ => rfl, rfl, rfl, rfl⟩ ?_ ?_) ?_
  ·
    rintro i y xs m f1 w1 ⟨H1, c1, S1, n1, hb, ho, kv, kk, kc⟩ hx hy
    obtain ⟨p, hpt, wr0, hB, hr, nd⟩ := n1.begin hy (by decide)
    obtain ⟨u0, hci, hu0⟩ := eL_open hr
    have rd := wr0.opens hci
    refine FW.seq ?_
    refine FW.seq ?_
    refine FW.region ?_
    refine FL.val rfl rfl rfl (E.move kc) ?_
    refine FL.val rfl rfl rfl (E.move kv) ?_
    refine FL.val rfl rfl rfl (E.len te22 rfl hln) ?_
    refine FL.val rfl rfl rfl (E.lssT rfl rfl (lss_len hx)) ?_
    refine FL.nil ?_
    refine FW.condT rfl rfl ?_
    refine FW.skip ?_
    refine FW.seq ?_
    refine FW.block ?_
    refine FW.region ?_
    refine FL.val rfl rfl rfl (E.move kv) ?_
    refine FL.val rfl rfl rfl (E.move kc) ?_
    refine FL.val rfl rfl rfl (E.indexAddr te22 rfl rfl hpt) ?_
    refine FL.val rfl rfl rfl (E.load rfl (run_load0 Tryz.isAgg39 (rd.now S1.sl) rfl)) ?_
    refine FL.val rfl rfl rfl (E.move kk) ?_
    refine FL.call rfl rfl rfl (E.call Tryz.call30 (A2 rfl rfl)) (w_laws_markIntS S1 hs0 u0 y hu0 m) ?_
    rintro e w22 ⟨H21, rfl, S23, h24, o25⟩
    refine ⟨_, rfl, ?_⟩
    have wr26 := rd.inner (j := 0) rfl o25
    refine FL.val rfl rfl rfl (E.assign (v := Value.int .i64 ((PF.laws_markIntS y m).2)) rfl) ?_
    refine FL.nil ?_
    refine FW.region ?_
    refine FL.val rfl rfl rfl (E.move kc) ?_
    refine FL.val rfl rfl rfl (E.add rfl rfl) ?_
    refine FL.val rfl rfl rfl (E.assign (v := Value.int .i64 (wr (((i : Nat) : Int) + 1))) rfl) ?_
    refine FL.nil ?_
    obtain ⟨c2, n2, hb2, ho2⟩ := n1.round (eL_loc eI_flat) hy (by decide) hpt wr26 (y' := (PF.laws_markIntS y m).1) ⟨_, rfl, h24⟩
    exact ⟨rfl, _, _, S23, n2, hb2.trans hb, fun b q1 q2 => (ho2 b q1 (by rw [hb]; exact q2)).trans (ho b q1 q2), kv, rfl, nat_succ rfl (lt_of_get hx) hle⟩
  ·
    rintro f1 w1 ⟨H1, c1, S1, n1, hb, ho, kv, kk, kc⟩
    refine FW.seq ?_
    refine FW.seq ?_
    refine FW.region ?_
    refine FL.val rfl rfl rfl (E.move kc) ?_
    refine FL.val rfl rfl rfl (E.move kv) ?_
    refine FL.val rfl rfl rfl (E.len te22 rfl hln) ?_
    refine FL.val rfl rfl rfl (E.lss rfl rfl) ?_
    refine FL.nil ?_
    refine FW.condF rfl dlt_len ?_
    refine FW.exit ?_
    exact ⟨nofun, rfl, _, _, S1, n1, hb, ho, kv, kk⟩
  ·
    rintro e f2 w2 ⟨rfl, H2, c2, S2, n2, hb, ho, kv, kk⟩
    refine FW.seq ?_
    refine FW.region ?_
    refine FL.val rfl rfl rfl (E.move kk) ?_
    refine FL.val rfl rfl rfl (E.assign (v := Value.int .i64 ((markFrom (fun y m => ((PF.laws_markIntS y m).1, (PF.laws_markIntS y m).2)) a0 a1).2)) rfl) ?_
    refine FL.nil ?_
    refine FW.ret ?_
    exact ⟨.inr rfl, res1 rfl rfl ⟨_, _, rfl, S2, n2, hb, fun b q1 q2 => weak (F := fun b => b ∉ bl [v0] ∧ b ∉ bl c0) (fun b q => ho b q.1 q.2) b ⟨q1, q2⟩⟩⟩

@[reducible] def p_laws_markCnf (H0 : GH) (w0 : World) (Ha : GH) (l : List MO) (v0 : Value) (c0 : List Value) (r : Cnf × Int) : Ending → World → Prop := fun e w' =>
  ∃ (H' : GH) (c' : List Value), e = .returned (.int .i64 r.2) ∧ St H0 w0 H' w' l ∧ Nest (up w0.heap.size H') (eL eI 1) 1 v0 r.1.clauses c' ∧ bl c' = bl c0 ∧ ∀ b, b ∉ bl [v0] → b ∉ bl c0 → ∀ o, Ha b = some o → H' b = some o
theorem w_laws_markCnf {H0 Ha : GH} {w0 wa : World} {l : List MO} (S0 : St H0 w0 Ha wa l) (hs0 : Sl H0 w0) (a0 : Cnf) (v0 : Value) (c0 : List Value) (n0 : Nest (up w0.heap.size Ha) (eL eI 1) 1 v0 a0.clauses c0) (a1 : Int) :
    Calls Tryz.prog 23 #[.agg #[Value.int .i64 a0.vars, v0], Value.int .i64 a1] wa (p_laws_markCnf H0 w0 Ha l v0 c0 (PF.laws_markCnf a0 a1)) := by
  refine calls_go (N := 10) (args := [.agg #[Value.int .i64 a0.vars, v0], Value.int .i64 a1]) Tryz.func23 rfl rfl rfl ?_
  refine FW.seq ?_
  refine FW.region ?_
  obtain ⟨b21, w22, run23, S24⟩ := S0.box (P := Tryz.prog) 31 [Value.int .i64 a0.vars, v0] (v := Value.agg #[Value.int .i64 a0.vars, v0]) rfl (ones_cons rfl (ones_cons n0.rsl.one ones_nil))
  refine FL.val rfl rfl rfl (E.box rfl run23) ?_
  obtain ⟨H25, S26, i27, at28⟩ := S24.sealBox (i := 0) (l' := l) rfl rfl
  refine FL.val rfl rfl rfl (E.assign (v := Value.int .i64 0) rfl) ?_
  refine FL.nil ?_
  refine FW.seq ?_
  refine FW.region ?_
  refine FL.val rfl rfl rfl (E.fieldAddr tf31_1 rfl) ?_
  refine FL.val rfl rfl rfl (E.load rfl (run_load1 Tryz.isAgg22 (at28.now S26.sl) rfl)) ?_
  refine FL.val rfl rfl rfl (E.move (v := Value.int .i64 a1) rfl) ?_
  refine FL.call rfl rfl rfl (E.call Tryz.call78 (A2 rfl rfl)) (w_laws_markIntSS S26 hs0 v0 a0.clauses c0 (n0.mono (up_mono i27)) a1) ?_
  rintro e w30 ⟨H29, c34, rfl, S31, h32, hb35, o33⟩
  refine ⟨_, rfl, ?_⟩
  refine FL.val rfl rfl rfl (E.assign (v := Value.int .i64 ((PF.laws_markIntSS a0.clauses a1).2)) rfl) ?_
  refine FL.nil ?_
  refine FW.seq ?_
  refine FW.region ?_
  refine FL.val rfl rfl rfl (E.move (v := Value.int .i64 ((PF.laws_markIntSS a0.clauses a1).2)) rfl) ?_
  refine FL.val rfl rfl rfl (E.assign (v := Value.int .i64 ((PF.laws_markIntSS a0.clauses a1).2)) rfl) ?_
  refine FL.nil ?_
  refine FW.ret ?_
  exact ⟨.inr rfl, res1 rfl rfl ⟨_, _, rfl, S31, h32, hb35, fun b q1 q2 o ho => o33 b q1 q2 o (i27 b o ho)⟩⟩

theorem w_laws_markResStepS {H0 Ha : GH} {w0 wa : World} {l : List MO} (S0 : St H0 w0 Ha wa l) (hs0 : Sl H0 w0) (v0 : Value) (a0 : List ResStep) (c0 : List Value) (n0 : Nest (up w0.heap.size Ha) eResStep 4 v0 a0 c0) (a1 : Int) :
    Calls Tryz.prog 24 #[v0, Value.int .i64 a1] wa (M2 H0 w0 Ha l eResStep 4 v0 c0 (PF.laws_markResStepS a0 a1)) := by
  have hln := n0.rsl.ln
  have hle := n0.rsl.le
  refine calls_go (N := 41) (args := [v0, Value.int .i64 a1]) Tryz.func24 rfl rfl rfl ?_
  refine FW.seq ?_
  refine FW.region ?_
  refine FL.val rfl rfl rfl (E.assign (v := Value.int .i64 0) rfl) ?_
  refine FL.nil ?_
  refine FW.seq ?_
  refine FW.seq ?_
  refine FW.region ?_
  refine FL.val rfl rfl rfl (E.assign (v := Value.int .i64 0) rfl) ?_
  refine FL.nil ?_
  refine FW.block ?_
  refine FW.mono (FW.mark (F := fun y m => ((ResStep.mk ((PF.laws_markIntS y.clause m).1) ((PF.laws_markIntS y.clause m).2) (wr ((PF.laws_markIntS y.clause m).2 + 1)) (wr ((wr ((PF.laws_markIntS y.clause m).2 + 1)) + 1))), (wr ((wr ((wr ((PF.laws_markIntS y.clause m).2 + 1)) + 1)) + 1)))) (a0 := a0) (k0 := a1) (fun (i : Nat) (xs : List ResStep) (k : Int) f w => ∃ (H : GH) (c : List Value), St H0 w0 H w l ∧ Nest (up w0.heap.size H) eResStep 4 v0 xs c ∧ bl c = bl c0 ∧ (∀ b, b ∉ bl [v0] → b ∉ bl c0 → H b = Ha b) ∧ f 0 = v0 ∧ f 1 = Value.int .i64 k ∧ f 5 = Value.int .i64 ((i : Nat) : Int)) (fun e f w => e = Exit.exit 0 ∧ ∃ (H : GH) (c : List Value), St H0 w0 H w l ∧ Nest (up w0.heap.size H) eResStep 4 v0 (markFrom (fun y m => ((ResStep.mk ((PF.laws_markIntS y.clause m).1) ((PF.laws_markIntS y.clause m).2) (wr ((PF.laws_markIntS y.clause m).2 + 1)) (wr ((wr ((PF.laws_markIntS y.clause m).2 + 1)) + 1))), (wr ((wr ((wr ((PF.laws_markIntS y.clause m).2 + 1)) + 1)) + 1)))) a0 a1).1 c ∧ bl c = bl c0 ∧ (∀ b, b ∉ bl [v0] → b ∉ bl c0 → H b = Ha b) ∧ f 0 = v0 ∧ f 1 = Value.int .i64 (markFrom (fun y m => ((ResStep.mk ((PF.laws_markIntS y.clause m).1) ((PF.laws_markIntS y.clause m).2) (wr ((PF.laws_markIntS y.clause m).2 + 1)) (wr ((wr ((PF.laws_markIntS y.clause m).2 + 1)) + 1))), (wr ((wr ((wr ((PF.laws_markIntS y.clause m).2 + 1)) + 1)) + 1)))) a0 a1).2) ⟨_, _, S0, n0, rfl, fun _ _ _ => rfl, rfl, rfl, rfl⟩ ?_ ?_) ?_
  ·
    rintro i y xs m f1 w1 ⟨H1, c1, S1, n1, hb, ho, kv, kk, kc⟩ hx hy
    obtain ⟨p, hpt, wr0, hB, hr, nd⟩ := n1.begin hy (by decide)
    obtain ⟨u0, hci, hu0⟩ := eResStep_open hr
    have rd := wr0.opens hci
    refine FW.seq ?_
    refine FW.seq ?_
    refine FW.region ?_
    refine FL.val rfl rfl rfl (E.move kc) ?_
    refine FL.val rfl rfl rfl (E.move kv) ?_
    refine FL.val rfl rfl rfl (E.len te28 rfl hln) ?_
    refine FL.val rfl rfl rfl (E.lssT rfl rfl (lss_len hx)) ?_
    refine FL.nil ?_
    refine FW.condT rfl rfl ?_
    refine FW.skip ?_
    refine FW.seq ?_
    refine FW.block ?_
    refine FW.seq ?_
    refine FW.region ?_
    refine FL.val rfl rfl rfl (E.move kv) ?_
    refine FL.val rfl rfl rfl (E.move kc) ?_
    refine FL.val rfl rfl rfl (E.indexAddr te28 rfl rfl hpt) ?_
    refine FL.val rfl rfl rfl (E.fieldAddr tf89_0 rfl) ?_
    refine FL.val rfl rfl rfl (E.load rfl (run_load1 Tryz.isAgg39 (rd.now S1.sl) rfl)) ?_
    refine FL.val rfl rfl rfl (E.move kk) ?_
    refine FL.call rfl rfl rfl (E.call Tryz.call30 (A2 rfl rfl)) (w_laws_markIntS S1 hs0 u0 y.clause hu0 m) ?_
    rintro e w22 ⟨H21, rfl, S23, h24, o25⟩
    refine ⟨_, rfl, ?_⟩
    have wr26 := rd.inner (j := 0) rfl o25
    refine FL.val rfl rfl rfl (E.assign (v := Value.int .i64 ((PF.laws_markIntS y.clause m).2)) rfl) ?_
    refine FL.nil ?_
    refine FW.seq ?_
    refine FW.region ?_
    refine FL.val rfl rfl rfl (E.move kv) ?_
    refine FL.val rfl rfl rfl (E.move kc) ?_
    refine FL.val rfl rfl rfl (E.move (v := Value.int .i64 ((PF.laws_markIntS y.clause m).2)) rfl) ?_
    refine FL.val rfl rfl rfl (E.indexAddr te28 rfl rfl hpt) ?_
    refine FL.val rfl rfl rfl (E.fieldAddr tf89_1 rfl) ?_
    obtain ⟨w27, H28, run30, S29, wr31, o32⟩ := wr26.poke (P := Tryz.prog) (t := 3) (u := Value.int .i64 ((PF.laws_markIntS y.clause m).2)) S23 hs0 hB (j := 1) rfl rfl rfl Tryz.sizeOf3 rfl rfl (c2 := [u0, Value.int .i64 ((PF.laws_markIntS y.clause m).2), Value.int .i64 y.right, Value.int .i64 y.pivot]) rfl
    have h33 := wr26.kept (j := 0) rfl h24 eI_flat o32
    refine FL.act rfl rfl (E.store rfl rfl run30) ?_
    refine FL.nil ?_
    refine FW.seq ?_
    refine FW.region ?_
    refine FL.val rfl rfl rfl (E.move (v := Value.int .i64 ((PF.laws_markIntS y.clause m).2)) rfl) ?_
    refine FL.val rfl rfl rfl (E.add rfl rfl) ?_
    refine FL.val rfl rfl rfl (E.assign (v := Value.int .i64 (wr ((PF.laws_markIntS y.clause m).2 + 1))) rfl) ?_
    refine FL.nil ?_
    refine FW.seq ?_
    refine FW.region ?_
    refine FL.val rfl rfl rfl (E.move kv) ?_
    refine FL.val rfl rfl rfl (E.move kc) ?_
    refine FL.val rfl rfl rfl (E.move (v := Value.int .i64 (wr ((PF.laws_markIntS y.clause m).2 + 1))) rfl) ?_
    refine FL.val rfl rfl rfl (E.indexAddr te28 rfl rfl hpt) ?_
    refine FL.val rfl rfl rfl (E.fieldAddr tf89_2 rfl) ?_
    obtain ⟨w34, H35, run37, S36, wr38, o39⟩ := wr31.poke (P := Tryz.prog) (t := 3) (u := Value.int .i64 (wr ((PF.laws_markIntS y.clause m).2 + 1))) S29 hs0 hB (j := 2) rfl rfl rfl Tryz.sizeOf3 rfl rfl (c2 := [u0, Value.int .i64 ((PF.laws_markIntS y.clause m).2), Value.int .i64 (wr ((PF.laws_markIntS y.clause m).2 + 1)), Value.int .i64 y.pivot]) rfl
    have h40 := wr31.kept (j := 0) rfl h33 eI_flat o39
    refine FL.act rfl rfl (E.store rfl rfl run37) ?_
    refine FL.nil ?_
    refine FW.seq ?_
    refine FW.region ?_
    refine FL.val rfl rfl rfl (E.move (v := Value.int .i64 (wr ((PF.laws_markIntS y.clause m).2 + 1))) rfl) ?_
    refine FL.val rfl rfl rfl (E.add rfl rfl) ?_
    refine FL.val rfl rfl rfl (E.assign (v := Value.int .i64 (wr ((wr ((PF.laws_markIntS y.clause m).2 + 1)) + 1))) rfl) ?_
    refine FL.nil ?_
    refine FW.seq ?_
    refine FW.region ?_
    refine FL.val rfl rfl rfl (E.move kv) ?_
    refine FL.val rfl rfl rfl (E.move kc) ?_
    refine FL.val rfl rfl rfl (E.move (v := Value.int .i64 (wr ((wr ((PF.laws_markIntS y.clause m).2 + 1)) + 1))) rfl) ?_
    refine FL.val rfl rfl rfl (E.indexAddr te28 rfl rfl hpt) ?_
    refine FL.val rfl rfl rfl (E.fieldAddr tf89_3 rfl) ?_
    obtain ⟨w41, H42, run44, S43, wr45, o46⟩ := wr38.poke (P := Tryz.prog) (t := 3) (u := Value.int .i64 (wr ((wr ((PF.laws_markIntS y.clause m).2 + 1)) + 1))) S36 hs0 hB (j := 3) rfl rfl rfl Tryz.sizeOf3 rfl rfl (c2 := [u0, Value.int .i64 ((PF.laws_markIntS y.clause m).2), Value.int .i64 (wr ((PF.laws_markIntS y.clause m).2 + 1)), Value.int .i64 (wr ((wr ((PF.laws_markIntS y.clause m).2 + 1)) + 1))]) rfl
    have h47 := wr38.kept (j := 0) rfl h40 eI_flat o46
    refine FL.act rfl rfl (E.store rfl rfl run44) ?_
    refine FL.nil ?_
    refine FW.region ?_
    refine FL.val rfl rfl rfl (E.move (v := Value.int .i64 (wr ((wr ((PF.laws_markIntS y.clause m).2 + 1)) + 1))) rfl) ?_
    refine FL.val rfl rfl rfl (E.add rfl rfl) ?_
    refine FL.val rfl rfl rfl (E.assign (v := Value.int .i64 (wr ((wr ((wr ((PF.laws_markIntS y.clause m).2 + 1)) + 1)) + 1))) rfl) ?_
    refine FL.nil ?_
    refine FW.region ?_
    refine FL.val rfl rfl rfl (E.move kc) ?_
    refine FL.val rfl rfl rfl (E.add rfl rfl) ?_
    refine FL.val rfl rfl rfl (E.assign (v := Value.int .i64 (wr (((i : Nat) : Int) + 1))) rfl) ?_
    refine FL.nil ?_
    obtain ⟨c2, n2, hb2, ho2⟩ := n1.round eResStep_loc hy (by decide) hpt wr45 (y' := (ResStep.mk ((PF.laws_markIntS y.clause m).1) ((PF.laws_markIntS y.clause m).2) (wr ((PF.laws_markIntS y.clause m).2 + 1)) (wr ((wr ((PF.laws_markIntS y.clause m).2 + 1)) + 1)))) ⟨_, rfl, h47⟩
    exact ⟨rfl, _, _, S43, n2, hb2.trans hb, fun b q1 q2 => (ho2 b q1 (by rw [hb]; exact q2)).trans (ho b q1 q2), kv, rfl, nat_succ rfl (lt_of_get hx) hle⟩
  ·
    rintro f1 w1 ⟨H1, c1, S1, n1, hb, ho, kv, kk, kc⟩
    refine FW.seq ?_
    refine FW.seq ?_
    refine FW.region ?_
    refine FL.val rfl rfl rfl (E.move kc) ?_
    refine FL.val rfl rfl rfl (E.move kv) ?_
    refine FL.val rfl rfl rfl (E.len te28 rfl hln) ?_
    refine FL.val rfl rfl rfl (E.lss rfl rfl) ?_
    refine FL.nil ?_
    refine FW.condF rfl dlt_len ?_
    refine FW.exit ?_
    exact ⟨nofun, rfl, _, _, S1, n1, hb, ho, kv, kk⟩
  ·
    rintro e f2 w2 ⟨rfl, H2, c2, S2, n2, hb, ho, kv, kk⟩
    refine FW.seq ?_
    refine FW.region ?_
    refine FL.val rfl rfl rfl (E.move kk) ?_
    refine FL.val rfl rfl rfl (E.assign (v := Value.int .i64 ((markFrom (fun y m => ((ResStep.mk ((PF.laws_markIntS y.clause m).1) ((PF.laws_markIntS y.clause m).2) (wr ((PF.laws_markIntS y.clause m).2 + 1)) (wr ((wr ((PF.laws_markIntS y.clause m).2 + 1)) + 1))), (wr ((wr ((wr ((PF.laws_markIntS y.clause m).2 + 1)) + 1)) + 1)))) a0 a1).2)) rfl) ?_
    refine FL.nil ?_
    refine FW.ret ?_
    exact ⟨.inr rfl, res1 rfl rfl ⟨_, _, rfl, S2, n2, hb, fun b q1 q2 => weak (F := fun b => b ∉ bl [v0] ∧ b ∉ bl c0) (fun b q => ho b q.1 q.2) b ⟨q1, q2⟩⟩⟩

theorem w_laws_heldIntS {Ha : GH} {wa : World} (hs : Sl Ha wa) (v0 : Value) (a0 : List Int) (p0 : RSl Ha eI 1 v0 a0) (a1 : Int) {r : Int} (hp : (PF.laws_heldIntS a0 a1) = some r) :
    Calls Tryz.prog 42 #[v0, Value.int .i64 a1] wa (Sc Ha wa (Value.int .i64 r)) := by
  unfold PF.laws_heldIntS at hp
  have S0 := St.init hs
  refine calls_go (N := 21) (args := [v0, Value.int .i64 a1]) Tryz.func42 rfl rfl rfl ?_
  refine FW.seq ?_
  refine FW.region ?_
  refine FL.val rfl rfl rfl (E.assign (v := Value.int .i64 0) rfl) ?_
  refine FL.nil ?_
  refine FW.seq ?_
  refine FW.seq ?_
  refine FW.region ?_
  refine FL.val rfl rfl rfl (E.assign (v := Value.int .i64 0) rfl) ?_
  refine FL.nil ?_
  obtain ⟨q22, hq, hp⟩ := bndR hp
  refine FW.block ?_
  refine FW.mono (FW.forL (S := Int) (X := Int) (fun (i22 : Nat) (s22 : Int) f w => ∃ H : GH, St Ha wa H w [] ∧ Inc Ha H ∧ f 5 = Value.int .i64 ((i22 : Nat) : Int) ∧ f 0 = v0 ∧ f 1 = Value.int .i64 s22) (fun q e f w => match q with | .go s22 => e = Exit.exit 0 ∧ (∃ H : GH, St Ha wa H w [] ∧ Inc Ha H ∧ f 1 = Value.int .i64 s22) | .rt x => ((e = Exit.ret) ∧ (fun e f w => (e = Exit.normal ∨ e = Exit.ret) ∧ ∀ a, Fr (δ := []) 21 a f → ∃ v, (results Tryz.f42 a.tmps).run Tryz.prog w = .ok v w ∧ (Sc Ha wa (Value.int .i64 x)) (.returned v) w) e f w)) hq ⟨_, S0, (Inc.rfl _), rfl, rfl, rfl⟩ ?_ ?_) ?_
  ·
    clear hp hq
    rintro i22 y21 s22 f42 w41 ⟨H38, S39, i40, k43, k44, k45⟩ hx22 o53 hp
    refine FW.seq ?_
    refine FW.seq ?_
    refine FW.region ?_
    refine FL.val rfl rfl rfl (E.move k43) ?_
    refine FL.val rfl rfl rfl (E.move k44) ?_
    refine FL.val rfl rfl rfl (E.lenP te39 rfl p0) ?_
    refine FL.val rfl rfl rfl (E.lssT rfl rfl (lss_len hx22)) ?_
    refine FL.nil ?_
    refine FW.condT rfl rfl ?_
    refine FW.skip ?_
    refine FW.seq ?_
    refine FW.block ?_
    refine FW.seq ?_
    refine FW.seq ?_
    refine FW.region ?_
    refine FL.val rfl rfl rfl (E.move k44) ?_
    refine FL.val rfl rfl rfl (E.move k43) ?_
    obtain ⟨p46, cs47, pt48, l49, at50, rel51⟩ := p0.at (ix_nat hx22)
    obtain rfl := eI_open rel51
    refine FL.val rfl rfl rfl (E.indexAddr te39 rfl rfl pt48) ?_
    refine FL.val rfl rfl rfl (E.load rfl (run_load0 Tryz.isAgg3 ((at50.mono i40).now S39.sl) rfl)) ?_
    refine FL.val rfl rfl rfl (E.move k45) ?_
    refine FL.val rfl rfl rfl (E.neq rfl rfl) ?_
    refine FL.nil ?_
    rcases ifB hp with ⟨c52, hp⟩ | ⟨c52, hp⟩
    ·
      refine FW.condT rfl c52 ?_
      refine FW.seq ?_
      refine FW.region ?_
      refine FL.val rfl rfl rfl (E.assign (v := Value.int .i64 (-1)) rfl) ?_
      refine FL.nil ?_
      refine FW.ret ?_
      obtain rfl := Option.some.inj hp
      exact ⟨nofun, rfl, ⟨.inr rfl, res1 rfl rfl ⟨rfl, S39.back⟩⟩⟩
    ·
      refine FW.condF rfl c52 ?_
      refine FW.skip ?_
      refine FW.region ?_
      refine FL.val rfl rfl rfl (E.move k45) ?_
      refine FL.val rfl rfl rfl (E.add rfl rfl) ?_
      refine FL.val rfl rfl rfl (E.assign (v := Value.int .i64 (wr (s22 + 1))) rfl) ?_
      refine FL.nil ?_
      refine FW.region ?_
      refine FL.val rfl rfl rfl (E.move k43) ?_
      refine FL.val rfl rfl rfl (E.add rfl rfl) ?_
      refine FL.val rfl rfl rfl (E.assign (v := Value.int .i64 (wr (((i22 : Nat) : Int) + 1))) rfl) ?_
      refine FL.nil ?_
      obtain rfl := Option.some.inj hp
      exact ⟨rfl, ⟨_, S39, i40, (nat_succ rfl (lt_of_get hx22) (p0.mono i40).le), k44, rfl⟩⟩
  ·
    clear hp hq
    rintro s22 f64 w63 ⟨H60, S61, i62, k65, k66, k67⟩
    refine FW.seq ?_
    refine FW.seq ?_
    refine FW.region ?_
    refine FL.val rfl rfl rfl (E.move k65) ?_
    refine FL.val rfl rfl rfl (E.move k66) ?_
    refine FL.val rfl rfl rfl (E.lenP te39 rfl p0) ?_
    refine FL.val rfl rfl rfl (E.lss rfl rfl) ?_
    refine FL.nil ?_
    refine FW.condF rfl dlt_len ?_
    refine FW.exit ?_
    exact ⟨nofun, rfl, ⟨_, S61, i62, k67⟩⟩
  ·
    clear hq
    intro e f58 w57 hD
    rcases q22 with s22 | x22
    ·
      obtain ⟨rfl, hD⟩ := hD
      obtain ⟨H54, S55, i56, k59⟩ := hD
      replace hp := el_go hp
      refine FW.seq ?_
      refine FW.region ?_
      refine FL.val rfl rfl rfl (E.move k59) ?_
      refine FL.val rfl rfl rfl (E.assign (v := Value.int .i64 s22) rfl) ?_
      refine FL.nil ?_
      refine FW.ret ?_
      obtain rfl := Option.some.inj hp
      exact ⟨.inr rfl, res1 rfl rfl ⟨rfl, S55.back⟩⟩
    ·
      obtain ⟨he, hL⟩ := hD
      replace hp := el_rt hp
      obtain rfl := Option.some.inj hp
      subst he
      exact hL

theorem w_laws_heldResStepS {Ha : GH} {wa : World} (hs : Sl Ha wa) (v0 : Value) (a0 : List ResStep) (p0 : RSl Ha eResStep 4 v0 a0) (a1 : Int) {r : Int} (hp : (PF.laws_heldResStepS a0 a1) = some r) :
    Calls Tryz.prog 25 #[v0, Value.int .i64 a1] wa (Sc Ha wa (Value.int .i64 r)) := by
  unfold PF.laws_heldResStepS at hp
  have S0 := St.init hs
  refine calls_go (N := 49) (args := [v0, Value.int .i64 a1]) Tryz.func25 rfl rfl rfl ?_
  refine FW.seq ?_
  refine FW.region ?_
  refine FL.val rfl rfl rfl (E.assign (v := Value.int .i64 0) rfl) ?_
  refine FL.nil ?_
  refine FW.seq ?_
  refine FW.seq ?_
  refine FW.region ?_
  refine FL.val rfl rfl rfl (E.assign (v := Value.int .i64 0) rfl) ?_
  refine FL.nil ?_
  obtain ⟨q22, hq, hp⟩ := bndR hp
  refine FW.block ?_
  refine FW.mono (FW.forL (S := Int) (X := Int) (fun (i22 : Nat) (s22 : Int) f w => ∃ H : GH, St Ha wa H w [] ∧ Inc Ha H ∧ f 5 = Value.int .i64 ((i22 : Nat) : Int) ∧ f 0 = v0 ∧ f 1 = Value.int .i64 s22) (fun q e f w => match q with | .go s22 => e = Exit.exit 0 ∧ (∃ H : GH, St Ha wa H w [] ∧ Inc Ha H ∧ f 1 = Value.int .i64 s22) | .rt x => ((e = Exit.ret) ∧ (fun e f w => (e = Exit.normal ∨ e = Exit.ret) ∧ ∀ a, Fr (δ := []) 49 a f → ∃ v, (results Tryz.f25 a.tmps).run Tryz.prog w = .ok v w ∧ (Sc Ha wa (Value.int .i64 x)) (.returned v) w) e f w)) hq ⟨_, S0, (Inc.rfl _), rfl, rfl, rfl⟩ ?_ ?_) ?_
  ·
    clear hp hq
    rintro i22 y21 s22 f76 w75 ⟨H72, S73, i74, k77, k78, k79⟩ hx22 o121 hp
    refine FW.seq ?_
    refine FW.seq ?_
    refine FW.region ?_
    refine FL.val rfl rfl rfl (E.move k77) ?_
    refine FL.val rfl rfl rfl (E.move k78) ?_
    refine FL.val rfl rfl rfl (E.lenP te28 rfl p0) ?_
    refine FL.val rfl rfl rfl (E.lssT rfl rfl (lss_len hx22)) ?_
    refine FL.nil ?_
    refine FW.condT rfl rfl ?_
    refine FW.skip ?_
    refine FW.seq ?_
    refine FW.block ?_
    refine FW.seq ?_
    refine FW.region ?_
    refine FL.val rfl rfl rfl (E.move k78) ?_
    refine FL.val rfl rfl rfl (E.move k77) ?_
    obtain ⟨p80, cs81, pt82, l83, at84, rel85⟩ := p0.at (ix_nat hx22)
    obtain ⟨v86, rfl, h87⟩ := eResStep_open rel85
    refine FL.val rfl rfl rfl (E.indexAddr te28 rfl rfl pt82) ?_
    refine FL.val rfl rfl rfl (E.fieldAddr tf89_0 rfl) ?_
    refine FL.val rfl rfl rfl (E.load rfl (run_load1 Tryz.isAgg39 ((at84.mono i74).now S73.sl) rfl)) ?_
    refine FL.val rfl rfl rfl (E.move k79) ?_
    obtain ⟨r88, hr89, hp⟩ := bnd hp
    refine FL.call rfl rfl rfl (E.call Tryz.call42 (A2 rfl rfl)) (w_laws_heldIntS S73.sl v86 y21.clause (h87.mono i74) s22 hr89) ?_
    rintro e w90 ⟨rfl, r91⟩
    refine ⟨_, rfl, ?_⟩
    have S92 := S73.call r91
    refine FL.val rfl rfl rfl (E.assign (v := Value.int .i64 r88) rfl) ?_
    refine FL.nil ?_
    refine FW.seq ?_
    refine FW.seq ?_
    refine FW.region ?_
    refine FL.val rfl rfl rfl (E.move (v := Value.int .i64 r88) rfl) ?_
    refine FL.val rfl rfl rfl (E.lss rfl rfl) ?_
    refine FL.nil ?_
    rcases ifB hp with ⟨c93, hp⟩ | ⟨c93, hp⟩
    ·
      refine FW.condT rfl c93 ?_
      refine FW.seq ?_
      refine FW.region ?_
      refine FL.val rfl rfl rfl (E.assign (v := Value.int .i64 (-1)) rfl) ?_
      refine FL.nil ?_
      refine FW.ret ?_
      obtain rfl := Option.some.inj hp
      exact ⟨nofun, rfl, ⟨.inr rfl, res1 rfl rfl ⟨rfl, S92.back⟩⟩⟩
    ·
      refine FW.condF rfl c93 ?_
      refine FW.skip ?_
      refine FW.seq ?_
      refine FW.seq ?_
      refine FW.region ?_
      refine FL.val rfl rfl rfl (E.move k78) ?_
      refine FL.val rfl rfl rfl (E.move k77) ?_
      obtain ⟨p94, cs95, pt96, l97, at98, rel99⟩ := p0.at (ix_nat hx22)
      obtain ⟨v100, rfl, h101⟩ := eResStep_open rel99
      refine FL.val rfl rfl rfl (E.indexAddr te28 rfl rfl pt96) ?_
      refine FL.val rfl rfl rfl (E.fieldAddr tf89_1 rfl) ?_
      refine FL.val rfl rfl rfl (E.load rfl (run_load1 Tryz.isAgg3 ((at98.mono i74).now S92.sl) rfl)) ?_
      refine FL.val rfl rfl rfl (E.move (v := Value.int .i64 r88) rfl) ?_
      refine FL.val rfl rfl rfl (E.neq rfl rfl) ?_
      refine FL.nil ?_
      rcases ifB hp with ⟨c102, hp⟩ | ⟨c102, hp⟩
      ·
        refine FW.condT rfl c102 ?_
        refine FW.seq ?_
        refine FW.region ?_
        refine FL.val rfl rfl rfl (E.assign (v := Value.int .i64 (-1)) rfl) ?_
        refine FL.nil ?_
        refine FW.ret ?_
        obtain rfl := Option.some.inj hp
        exact ⟨nofun, rfl, ⟨.inr rfl, res1 rfl rfl ⟨rfl, S92.back⟩⟩⟩
      ·
        refine FW.condF rfl c102 ?_
        refine FW.skip ?_
        refine FW.seq ?_
        refine FW.region ?_
        refine FL.val rfl rfl rfl (E.move (v := Value.int .i64 r88) rfl) ?_
        refine FL.val rfl rfl rfl (E.add rfl rfl) ?_
        refine FL.val rfl rfl rfl (E.assign (v := Value.int .i64 (wr (r88 + 1))) rfl) ?_
        refine FL.nil ?_
        refine FW.seq ?_
        refine FW.seq ?_
        refine FW.region ?_
        refine FL.val rfl rfl rfl (E.move k78) ?_
        refine FL.val rfl rfl rfl (E.move k77) ?_
        obtain ⟨p103, cs104, pt105, l106, at107, rel108⟩ := p0.at (ix_nat hx22)
        obtain ⟨v109, rfl, h110⟩ := eResStep_open rel108
        refine FL.val rfl rfl rfl (E.indexAddr te28 rfl rfl pt105) ?_
        refine FL.val rfl rfl rfl (E.fieldAddr tf89_2 rfl) ?_
        refine FL.val rfl rfl rfl (E.load rfl (run_load1 Tryz.isAgg3 ((at107.mono i74).now S92.sl) rfl)) ?_
        refine FL.val rfl rfl rfl (E.move (v := Value.int .i64 (wr (r88 + 1))) rfl) ?_
        refine FL.val rfl rfl rfl (E.neq rfl rfl) ?_
        refine FL.nil ?_
        rcases ifB hp with ⟨c111, hp⟩ | ⟨c111, hp⟩
        ·
          refine FW.condT rfl c111 ?_
          refine FW.seq ?_
          refine FW.region ?_
          refine FL.val rfl rfl rfl (E.assign (v := Value.int .i64 (-1)) rfl) ?_
          refine FL.nil ?_
          refine FW.ret ?_
          obtain rfl := Option.some.inj hp
          exact ⟨nofun, rfl, ⟨.inr rfl, res1 rfl rfl ⟨rfl, S92.back⟩⟩⟩
        ·
          refine FW.condF rfl c111 ?_
          refine FW.skip ?_
          refine FW.seq ?_
          refine FW.region ?_
          refine FL.val rfl rfl rfl (E.move (v := Value.int .i64 (wr (r88 + 1))) rfl) ?_
          refine FL.val rfl rfl rfl (E.add rfl rfl) ?_
          refine FL.val rfl rfl rfl (E.assign (v := Value.int .i64 (wr ((wr (r88 + 1)) + 1))) rfl) ?_
          refine FL.nil ?_
          refine FW.seq ?_
          refine FW.seq ?_
          refine FW.region ?_
          refine FL.val rfl rfl rfl (E.move k78) ?_
          refine FL.val rfl rfl rfl (E.move k77) ?_
          obtain ⟨p112, cs113, pt114, l115, at116, rel117⟩ := p0.at (ix_nat hx22)
          obtain ⟨v118, rfl, h119⟩ := eResStep_open rel117
          refine FL.val rfl rfl rfl (E.indexAddr te28 rfl rfl pt114) ?_
          refine FL.val rfl rfl rfl (E.fieldAddr tf89_3 rfl) ?_
          refine FL.val rfl rfl rfl (E.load rfl (run_load1 Tryz.isAgg3 ((at116.mono i74).now S92.sl) rfl)) ?_
          refine FL.val rfl rfl rfl (E.move (v := Value.int .i64 (wr ((wr (r88 + 1)) + 1))) rfl) ?_
          refine FL.val rfl rfl rfl (E.neq rfl rfl) ?_
          refine FL.nil ?_
          rcases ifB hp with ⟨c120, hp⟩ | ⟨c120, hp⟩
          ·
            refine FW.condT rfl c120 ?_
            refine FW.seq ?_
            refine FW.region ?_
            refine FL.val rfl rfl rfl (E.assign (v := Value.int .i64 (-1)) rfl) ?_
            refine FL.nil ?_
            refine FW.ret ?_
            obtain rfl := Option.some.inj hp
            exact ⟨nofun, rfl, ⟨.inr rfl, res1 rfl rfl ⟨rfl, S92.back⟩⟩⟩
          ·
            refine FW.condF rfl c120 ?_
            refine FW.skip ?_
            refine FW.region ?_
            refine FL.val rfl rfl rfl (E.move (v := Value.int .i64 (wr ((wr (r88 + 1)) + 1))) rfl) ?_
            refine FL.val rfl rfl rfl (E.add rfl rfl) ?_
            refine FL.val rfl rfl rfl (E.assign (v := Value.int .i64 (wr ((wr ((wr (r88 + 1)) + 1)) + 1))) rfl) ?_
            refine FL.nil ?_
            refine FW.region ?_
            refine FL.val rfl rfl rfl (E.move k77) ?_
            refine FL.val rfl rfl rfl (E.add rfl rfl) ?_
            refine FL.val rfl rfl rfl (E.assign (v := Value.int .i64 (wr (((i22 : Nat) : Int) + 1))) rfl) ?_
            refine FL.nil ?_
            obtain rfl := Option.some.inj hp
            exact ⟨rfl, ⟨_, S92, i74, (nat_succ rfl (lt_of_get hx22) (p0.mono i74).le), k78, rfl⟩⟩
  ·
    clear hp hq
    rintro s22 f132 w131 ⟨H128, S129, i130, k133, k134, k135⟩
    refine FW.seq ?_
    refine FW.seq ?_
    refine FW.region ?_
    refine FL.val rfl rfl rfl (E.move k133) ?_
    refine FL.val rfl rfl rfl (E.move k134) ?_
    refine FL.val rfl rfl rfl (E.lenP te28 rfl p0) ?_
    refine FL.val rfl rfl rfl (E.lss rfl rfl) ?_
    refine FL.nil ?_
    refine FW.condF rfl dlt_len ?_
    refine FW.exit ?_
    exact ⟨nofun, rfl, ⟨_, S129, i130, k135⟩⟩
  ·
    clear hq
    intro e f126 w125 hD
    rcases q22 with s22 | x22
    ·
      obtain ⟨rfl, hD⟩ := hD
      obtain ⟨H122, S123, i124, k127⟩ := hD
      replace hp := el_go hp
      refine FW.seq ?_
      refine FW.region ?_
      refine FL.val rfl rfl rfl (E.move k127) ?_
      refine FL.val rfl rfl rfl (E.assign (v := Value.int .i64 s22) rfl) ?_
      refine FL.nil ?_
      refine FW.ret ?_
      obtain rfl := Option.some.inj hp
      exact ⟨.inr rfl, res1 rfl rfl ⟨rfl, S123.back⟩⟩
    ·
      obtain ⟨he, hL⟩ := hD
      replace hp := el_rt hp
      obtain rfl := Option.some.inj hp
      subst he
      exact hL

set_option maxHeartbeats 4000000 in
theorem w_laws_FnExactRestrictSteps {Ha : GH} {wa : World} (hs : Sl Ha wa) (a0 : Cnf) (v0_1 : Value) (p0_1 : RSl Ha (eL eI 1) 1 v0_1 a0.clauses) (v1 : Value) (a1 : List ResStep) (p1 : RSl Ha eResStep 4 v1 a1) (v2 : Value) (a2 : List Int) (p2 : RSl Ha eI 1 v2 a2) {r : Bool} (hp : (PF.laws_FnExactRestrictSteps a0 a1 a2) = some r) :
    Calls Tryz.prog 4 #[Value.agg #[Value.int .i64 a0.vars, v0_1], v1, v2] wa (Sc Ha wa (Value.bool r)) := by
  unfold PF.laws_FnExactRestrictSteps at hp
  have S0 := St.init hs
  refine calls_go (N := 140) (args := [Value.agg #[Value.int .i64 a0.vars, v0_1], v1, v2]) Tryz.func4 rfl rfl rfl ?_
  refine FW.seq ?_
  refine FW.region ?_
  obtain ⟨w21, run22, S23, z24⟩ := S0.boxB (P := Tryz.prog) 24 [Value.int .i64 a0.vars, v0_1] (v := Value.agg #[Value.int .i64 a0.vars, v0_1]) rfl (ones_cons rfl (ones_cons p0_1.one ones_nil))
  refine FL.val rfl rfl rfl (E.box rfl run22) ?_
  obtain ⟨H25, S26, i27, at28⟩ := S23.sealBoxB (i := 0) (l' := []) rfl rfl
  refine FL.val rfl rfl rfl (E.assign (v := Value.bool false) rfl) ?_
  refine FL.nil ?_
  refine FW.seq ?_
  refine FW.seq ?_
  refine FW.region ?_
  refine FL.val rfl rfl rfl (E.move (v := v2) rfl) ?_
  refine FL.val rfl rfl rfl (E.lenP te39 rfl p2) ?_
  refine FL.val rfl rfl rfl (E.gtr rfl rfl) ?_
  refine FL.nil ?_
  rcases ifB hp with ⟨c29, hp⟩ | ⟨c29, hp⟩
  ·
    refine FW.condT rfl c29 ?_
    refine FW.seq ?_
    refine FW.region ?_
    refine FL.val rfl rfl rfl (E.assign (v := Value.bool true) rfl) ?_
    refine FL.nil ?_
    refine FW.ret ?_
    obtain rfl := Option.some.inj hp
    exact ⟨.inr rfl, res1 rfl rfl ⟨rfl, S26.back⟩⟩
  ·
    refine FW.condF rfl c29 ?_
    refine FW.skip ?_
    refine FW.seq ?_
    refine FW.region ?_
    refine FL.val rfl rfl rfl (E.assign (v := Value.int .i64 1048576) rfl) ?_
    refine FL.nil ?_
    refine FW.seq ?_
    refine FW.region ?_
    refine FL.val rfl rfl rfl (E.load rfl (run_loadA Tryz.isAgg24 Tryz.sizeOf24 ((at28.mono sgI).now S26.sl) rfl)) ?_
    refine FL.val rfl rfl rfl (E.move (v := Value.int .i64 1048576) rfl) ?_
    obtain ⟨r30, hr31, hp⟩ := bnd hp
    refine FL.call rfl rfl rfl (E.call Tryz.call15 (A2 rfl rfl)) (w_laws_szCnf S26.sl a0 v0_1 (p0_1.mono i27) 1048576 hr31) ?_
    rintro e w32 ⟨rfl, r33⟩
    refine ⟨_, rfl, ?_⟩
    have S34 := S26.call r33
    have z35 := r33.bel.size
    refine FL.val rfl rfl rfl (E.assign (v := Value.int .i64 r30) rfl) ?_
    refine FL.nil ?_
    refine FW.seq ?_
    refine FW.seq ?_
    refine FW.region ?_
    refine FL.val rfl rfl rfl (E.move (v := Value.int .i64 r30) rfl) ?_
    refine FL.val rfl rfl rfl (E.lss rfl rfl) ?_
    refine FL.nil ?_
    rcases ifB hp with ⟨c36, hp⟩ | ⟨c36, hp⟩
    ·
      refine FW.condT rfl c36 ?_
      refine FW.seq ?_
      refine FW.region ?_
      refine FL.val rfl rfl rfl (E.assign (v := Value.bool true) rfl) ?_
      refine FL.nil ?_
      refine FW.ret ?_
      obtain rfl := Option.some.inj hp
      exact ⟨.inr rfl, res1 rfl rfl ⟨rfl, S34.back⟩⟩
    ·
      refine FW.condF rfl c36 ?_
      refine FW.skip ?_
      refine FW.seq ?_
      refine FW.region ?_
      refine FL.val rfl rfl rfl (E.move (v := v1) rfl) ?_
      refine FL.val rfl rfl rfl (E.move (v := Value.int .i64 r30) rfl) ?_
      obtain ⟨r37, hr38, hp⟩ := bnd hp
      refine FL.call rfl rfl rfl (E.call Tryz.call16 (A2 rfl rfl)) (w_laws_szResStepS S34.sl v1 a1 (p1.mono i27) r30 hr38) ?_
      rintro e w39 ⟨rfl, r40⟩
      refine ⟨_, rfl, ?_⟩
      have S41 := S34.call r40
      have z42 := r40.bel.size
      refine FL.val rfl rfl rfl (E.assign (v := Value.int .i64 r37) rfl) ?_
      refine FL.nil ?_
      refine FW.seq ?_
      refine FW.seq ?_
      refine FW.region ?_
      refine FL.val rfl rfl rfl (E.move (v := Value.int .i64 r37) rfl) ?_
      refine FL.val rfl rfl rfl (E.lss rfl rfl) ?_
      refine FL.nil ?_
      rcases ifB hp with ⟨c43, hp⟩ | ⟨c43, hp⟩
      ·
        refine FW.condT rfl c43 ?_
        refine FW.seq ?_
        refine FW.region ?_
        refine FL.val rfl rfl rfl (E.assign (v := Value.bool true) rfl) ?_
        refine FL.nil ?_
        refine FW.ret ?_
        obtain rfl := Option.some.inj hp
        exact ⟨.inr rfl, res1 rfl rfl ⟨rfl, S41.back⟩⟩
      ·
        refine FW.condF rfl c43 ?_
        refine FW.skip ?_
        refine FW.seq ?_
        refine FW.region ?_
        refine FL.val rfl rfl rfl (E.load rfl (run_loadA Tryz.isAgg24 Tryz.sizeOf24 ((at28.mono sgI).now S41.sl) rfl)) ?_
        obtain ⟨r44, hr45, hp⟩ := bnd hp
        refine FL.call rfl rfl rfl (E.call Tryz.call18 (A1 rfl)) (w_laws_toCnf S41.sl a0 v0_1 (p0_1.mono i27) hr45) ?_
        rintro e w47 ⟨H46, v50, rfl, r49, ⟨c53, ns52⟩⟩
        refine ⟨_, rfl, ?_⟩
        have h51 := ns52.rsl
        have nv54 : New H25 [v50] := New.of_up S41.sl h51.dom
        have S48 := S41.call r49
        have z55 := r49.bel.size
        have h51 := h51.mono (sg_of S48.sl)
        have ns52 := ns52.mono (sg_of S48.sl)
        refine FL.val rfl rfl rfl (E.move (v := v1) rfl) ?_
        obtain ⟨r56, hr57, hp⟩ := bnd hp
        refine FL.call rfl rfl rfl (E.call Tryz.call19 (A1 rfl)) (w_laws_toResStepS S48.sl v1 a1 (p1.mono (i27.tr r49.inc)) hr57) ?_
        rintro e w59 ⟨H58, v62, n63, cs64, rfl, r61, els65, nd66⟩
        refine ⟨_, rfl, ?_⟩
        have nv67 : New H46 cs64 := New.of_up S48.sl els65.dom
        obtain ⟨H68, r69, i70, ns73, nv72⟩ := r61.sealRowN (i := 0) (l' := []) rfl els65 nd66 (by decide) rfl
        have h71 := ns73.rsl
        have S60 := S48.call r69.run
        have z74 := r69.run.bel.size
        have h71 := h71.mono (sg_of S60.sl)
        have ns73 := ns73.mono (sg_of S60.sl)
        refine FL.val rfl rfl rfl (E.move (v := v2) rfl) ?_
        obtain ⟨r75, hr76, hp⟩ := bnd hp
        refine FL.call rfl rfl rfl (E.call Tryz.call27 (A1 rfl)) (w_laws_toIntS S60.sl v2 a2 (p2.mono ((i27.tr r49.inc).tr r69.run.inc)) hr76) ?_
        rintro e w78 ⟨H77, v81, n82, cs83, rfl, r80, els84⟩
        refine ⟨_, rfl, ?_⟩
        obtain ⟨H85, r86, i87, h88, nv89⟩ := r80.sealRowU (i := 0) (l' := []) rfl els84 (by decide) rfl
        have S79 := S60.call r86.run
        have z90 := r86.run.bel.size
        have h88 := h88.mono (sg_of S79.sl)
        obtain ⟨r91, hr92, hp⟩ := bnd hp
        refine FL.call rfl rfl rfl (E.call Tryz.call26 (A3 rfl rfl rfl)) (w_spec_RestrictSteps S79.sl r44 v50 (h51.mono (sgI.tr (r69.run.inc.tr r86.run.inc))) v62 r56 (h71.mono (sgI.tr r86.run.inc)) v81 r75 (h88.mono sgI) hr92) ?_
        rintro e w94 ⟨H93, v97, rfl, r96, h98⟩
        refine ⟨_, rfl, ?_⟩
        have S95 := S79.call r96
        have z99 := r96.bel.size
        have h98 := h98.mono (bw_of S95.sl)
        refine FL.val rfl rfl rfl (E.move (v := Value.tuple #[v97, Value.bool r91.2]) rfl) ?_
        refine FL.val rfl rfl rfl (E.extract (i := 0) rfl rfl) ?_
        refine FL.val rfl rfl rfl (E.extract (i := 1) rfl rfl) ?_
        refine FL.val rfl rfl rfl (E.assign (v := v97) rfl) ?_
        refine FL.val rfl rfl rfl (E.assign (v := Value.bool r91.2) rfl) ?_
        refine FL.nil ?_
        refine FW.seq ?_
        refine FW.region ?_
        refine FL.val rfl rfl rfl (E.load rfl (run_loadA Tryz.isAgg24 Tryz.sizeOf24 ((at28.mono (sgI.tr (((r49.inc.tr r69.run.inc).tr r86.run.inc).tr r96.inc))).now S95.sl) rfl)) ?_
        obtain ⟨r100, hr101, hp⟩ := bnd hp
        refine FL.call rfl rfl rfl (E.call Tryz.call18 (A1 rfl)) (w_laws_toCnf S95.sl a0 v0_1 (p0_1.mono ((((i27.tr r49.inc).tr r69.run.inc).tr r86.run.inc).tr r96.inc)) hr101) ?_
        rintro e w103 ⟨H102, v106, rfl, r105, ⟨c109, ns108⟩⟩
        refine ⟨_, rfl, ?_⟩
        have h107 := ns108.rsl
        have nv110 : New H93 [v106] := New.of_up S95.sl h107.dom
        have S104 := S95.call r105
        have z111 := r105.bel.size
        have h107 := h107.mono (sg_of S104.sl)
        have ns108 := ns108.mono (sg_of S104.sl)
        obtain ⟨w112, run113, S114, z115⟩ := S104.allocB (P := Tryz.prog) 31 [Value.int .i64 0, Value.slice none 0 0] Tryz.zeroValue31 rfl (ones_cons rfl (ones_cons rfl ones_nil))
        refine FL.val rfl rfl rfl (E.alloc run113) ?_
        obtain ⟨w116, run117, S118, z119⟩ := S114.store0B (P := Tryz.prog) (t := 31) (i := 0) (cs' := [Value.int .i64 r100.vars, v106]) (l' := [.box w103.heap.size 31 [Value.int .i64 r100.vars, v106]]) (v := Value.agg #[Value.int .i64 r100.vars, v106]) (c := [Value.int .i64 r100.vars, v106]) rfl Tryz.sizeOf31 rfl rfl (ones_cons rfl (ones_cons h107.one ones_nil)) (Nat.le_of_ble_eq_true rfl) rfl rfl
        refine FL.act rfl rfl (E.store rfl rfl run117) ?_
        obtain ⟨H120, S121, i122, at123⟩ := S118.sealBoxB (i := 0) (l' := []) rfl rfl
        refine FL.nil ?_
        refine FW.seq ?_
        refine FW.region ?_
        refine FL.val rfl rfl rfl (E.move (v := v1) rfl) ?_
        obtain ⟨r124, hr125, hp⟩ := bnd hp
        refine FL.call rfl rfl rfl (E.call Tryz.call19 (A1 rfl)) (w_laws_toResStepS S121.sl v1 a1 (p1.mono ((((((i27.tr r49.inc).tr r69.run.inc).tr r86.run.inc).tr r96.inc).tr r105.inc).tr i122)) hr125) ?_
        rintro e w127 ⟨H126, v130, n131, cs132, rfl, r129, els133, nd134⟩
        refine ⟨_, rfl, ?_⟩
        have nv135 : New H120 cs132 := New.of_up S121.sl els133.dom
        obtain ⟨H136, r137, i138, ns141, nv140⟩ := r129.sealRowN (i := 0) (l' := []) rfl els133 nd134 (by decide) rfl
        have h139 := ns141.rsl
        have S128 := S121.call r137.run
        have z142 := r137.run.bel.size
        have h139 := h139.mono (sg_of S128.sl)
        have ns141 := ns141.mono (sg_of S128.sl)
        refine FL.val rfl rfl rfl (E.assign (v := v130) rfl) ?_
        refine FL.nil ?_
        refine FW.seq ?_
        refine FW.region ?_
        refine FL.val rfl rfl rfl (E.move (v := v2) rfl) ?_
        obtain ⟨r143, hr144, hp⟩ := bnd hp
        refine FL.call rfl rfl rfl (E.call Tryz.call27 (A1 rfl)) (w_laws_toIntS S128.sl v2 a2 (p2.mono (((((((i27.tr r49.inc).tr r69.run.inc).tr r86.run.inc).tr r96.inc).tr r105.inc).tr i122).tr r137.run.inc)) hr144) ?_
        rintro e w146 ⟨H145, v149, n150, cs151, rfl, r148, els152⟩
        refine ⟨_, rfl, ?_⟩
        obtain ⟨H153, r154, i155, h156, nv157⟩ := r148.sealRowU (i := 0) (l' := []) rfl els152 (by decide) rfl
        have S147 := S128.call r154.run
        have z158 := r154.run.bel.size
        have h156 := h156.mono (sg_of S147.sl)
        refine FL.val rfl rfl rfl (E.assign (v := v149) rfl) ?_
        refine FL.nil ?_
        refine FW.seq ?_
        refine FW.region ?_
        refine FL.val rfl rfl rfl (E.load rfl (run_loadA Tryz.isAgg31 Tryz.sizeOf31 ((at123.mono (sgI.tr (r137.run.inc.tr r154.run.inc))).now S147.sl) rfl)) ?_
        refine FL.val rfl rfl rfl (E.move (v := v130) rfl) ?_
        refine FL.val rfl rfl rfl (E.move (v := v149) rfl) ?_
        obtain ⟨r159, hr160, hp⟩ := bnd hp
        refine FL.call rfl rfl rfl (E.call Tryz.call28 (A3 rfl rfl rfl)) (w_impl_RestrictSteps S147.sl r100 v106 (h107.mono (sgI.tr ((i122.tr r137.run.inc).tr r154.run.inc))) v130 r124 (h139.mono (sgI.tr r154.run.inc)) v149 r143 (h156.mono sgI) hr160) ?_
        rintro e w162 ⟨H161, v165, n166, cs167, rfl, r164, els168, nd169⟩
        refine ⟨_, rfl, ?_⟩
        have nv170 : New H153 cs167 := New.of_up S147.sl els168.dom
        obtain ⟨H171, r172, i173, ns176, nv175⟩ := r164.sealRowN (i := 0) (l' := []) rfl els168 nd169 (by decide) rfl
        have h174 := ns176.rsl
        have S163 := S147.call r172.run
        have z177 := r172.run.bel.size
        have h174 := h174.mono (sg_of S163.sl)
        have ns176 := ns176.mono (sg_of S163.sl)
        refine FL.val rfl rfl rfl (E.move (v := Value.tuple #[v165, Value.bool r159.2]) rfl) ?_
        refine FL.val rfl rfl rfl (E.extract (i := 0) rfl rfl) ?_
        refine FL.val rfl rfl rfl (E.extract (i := 1) rfl rfl) ?_
        refine FL.val rfl rfl rfl (E.assign (v := v165) rfl) ?_
        refine FL.val rfl rfl rfl (E.assign (v := Value.bool r159.2) rfl) ?_
        refine FL.nil ?_
        refine FW.seq ?_
        refine FW.seq ?_
        refine FW.region ?_
        refine FL.val rfl rfl rfl (E.move (v := v165) rfl) ?_
        refine FL.val rfl rfl rfl (E.move (v := v97) rfl) ?_
        obtain ⟨r178, hr179, hp⟩ := bnd hp
        refine FL.call rfl rfl rfl (E.call Tryz.call21 (A2 rfl rfl)) (w_laws_eqResStepS S163.sl v165 r159.1 (h174.mono sgI) v97 r91.1 (h98.mono (bwI.tr ((((r105.inc.tr i122).tr r137.run.inc).tr r154.run.inc).tr r172.run.inc))) hr179) ?_
        rintro e w180 ⟨rfl, r181⟩
        refine ⟨_, rfl, ?_⟩
        have S182 := S163.call r181
        have z183 := r181.bel.size
        refine FL.val rfl rfl rfl (E.not rfl) ?_
        refine FL.val rfl rfl rfl (E.move (v := Value.bool (!r178)) rfl) ?_
        refine FL.cut 4 (fun f w => ∃ H : GH, St Ha wa H w [] ∧ Inc H171 H ∧ f 1 = v1 ∧ f 2 = v2 ∧ f 3 = Value.pointer (some ⟨wa.heap.size, 0, none⟩) ∧ f 8 = v97 ∧ f 9 = Value.bool r91.2 ∧ f 10 = Value.pointer (some ⟨w103.heap.size, 0, none⟩) ∧ f 11 = v130 ∧ f 12 = v149 ∧ f 13 = v165 ∧ f 14 = Value.bool r159.2 ∧ f 64 = Value.bool (bif (!r178) then true else (!(r159.2 == r91.2)))) ?_ ?_
        ·
          rcases bcase (!r178) with c190 | c190
          ·
            refine FL.skip (wF_no rfl rfl rfl c190) rfl ?_
            refine FL.skip (wF_no rfl rfl rfl c190) rfl ?_
            refine FL.skip (wF_no rfl rfl rfl c190) rfl ?_
            refine FL.val rfl rfl rfl (E.pickT rfl c190 rfl) ?_
            exact FL.nil ⟨rfl, _, S182, (Inc.rfl _), rfl, rfl, rfl, rfl, rfl, rfl, rfl, rfl, rfl, rfl, (congrArg Value.bool (bifT c190).symm)⟩
          ·
            refine FL.val (wF_yes rfl rfl rfl c190) rfl rfl (E.move (v := Value.bool r159.2) rfl) ?_
            refine FL.val (wF_yes rfl rfl rfl c190) rfl rfl (E.move (v := Value.bool r91.2) rfl) ?_
            refine FL.val (wF_yes rfl rfl rfl c190) rfl rfl (E.neqB Tryz.runUnderlying4 rfl rfl) ?_
            refine FL.val rfl rfl rfl (E.pickF rfl c190 rfl) ?_
            exact FL.nil ⟨rfl, _, S182, (Inc.rfl _), rfl, rfl, rfl, rfl, rfl, rfl, rfl, rfl, rfl, rfl, (congrArg Value.bool (bifF c190).symm)⟩
        rintro f189 w188 ⟨H185, S186, i187, k191, k192, k193, k194, k195, k196, k197, k198, k199, k200, k201⟩
        refine FL.nil ?_
        rcases ifB hp with ⟨c202, hp⟩ | ⟨c202, hp⟩
        ·
          refine FW.condT k201 c202 ?_
          refine FW.seq ?_
          refine FW.region ?_
          refine FL.val rfl rfl rfl (E.assign (v := Value.bool false) rfl) ?_
          refine FL.nil ?_
          refine FW.ret ?_
          obtain rfl := Option.some.inj hp
          exact ⟨.inr rfl, res1 rfl rfl ⟨rfl, S186.back⟩⟩
        ·
          refine FW.condF k201 c202 ?_
          refine FW.skip ?_
          refine FW.seq ?_
          refine FW.seq ?_
          obtain ⟨r9203, hr9204, hp⟩ := bnd hp
          obtain ⟨r12203, hr12204, hp⟩ := bnd hp
          refine FW.drawB (Sl H185) (fun f w => ∃ H : GH, St Ha wa H w [] ∧ Inc H185 H ∧ f 1 = v1 ∧ f 2 = v2 ∧ f 3 = Value.pointer (some ⟨wa.heap.size, 0, none⟩) ∧ f 8 = v97 ∧ f 9 = Value.bool r91.2 ∧ f 10 = Value.pointer (some ⟨w103.heap.size, 0, none⟩) ∧ f 11 = v130 ∧ f 12 = v149 ∧ f 13 = v165 ∧ f 14 = Value.bool r159.2 ∧ f 69 = Value.bool (!r12203)) (by kernel_rfl) S186.sl ?_ ?_
          ·
            intro w203 r204
            have S205 := S186.call r204
            refine FB.take (i := 0) (l' := #[true, false, false, false, false]) rfl (by kernel_rfl) (by kernel_rfl) (by kernel_rfl) (by kernel_rfl) (by kernel_rfl) (SP.nil S205.sl) rfl rfl rfl (fun w' hw' => (E.load k196 (run_loadA Tryz.isAgg31 Tryz.sizeOf31 ((at123.mono (sgI.tr (((r137.run.inc.tr r154.run.inc).tr r172.run.inc).tr i187))).now hw') rfl))) ?_
            refine FB.take (i := 1) (l' := #[true, true, false, false, false]) rfl (by kernel_rfl) (by kernel_rfl) (by kernel_rfl) (by kernel_rfl) (by kernel_rfl) (SP.nil S205.sl) rfl rfl rfl (fun w' hw' => (E.load k193 (run_loadA Tryz.isAgg24 Tryz.sizeOf24 ((at28.mono (sgI.tr (((((((((r49.inc.tr r69.run.inc).tr r86.run.inc).tr r96.inc).tr r105.inc).tr i122).tr r137.run.inc).tr r154.run.inc).tr r172.run.inc).tr i187))).now hw') rfl))) ?_
            refine FB.all1 (i := 2) (by kernel_rfl) ?_
            ·
              refine FC.call (l' := #[true, true, true, false, false]) rfl (by kernel_rfl) rfl rfl rfl (E.call Tryz.call18 (A1 rfl)) (w_laws_toCnf S205.sl a0 v0_1 (p0_1.mono ((((((((((i27.tr r49.inc).tr r69.run.inc).tr r86.run.inc).tr r96.inc).tr r105.inc).tr i122).tr r137.run.inc).tr r154.run.inc).tr r172.run.inc).tr i187)) hr9204) ?_
              rintro e w9206 ⟨H9205, v9209, rfl, r9208, ⟨c9212, ns9211⟩⟩
              refine ⟨_, rfl, ?_⟩
              have h9210 := ns9211.rsl
              have nv9213 : New H185 [v9209] := New.of_up S205.sl h9210.dom
              have S9207 := S205.call r9208
              have z9214 := r9208.bel.size
              have h9210 := h9210.mono (sg_of S9207.sl)
              have ns9211 := ns9211.mono (sg_of S9207.sl)
              refine ⟨(SP.nil (Sl.of_inc r9208.inc S9207.sl)), ?_⟩
              refine FB.all1 (i := 3) (by kernel_rfl) ?_
              ·
                refine FC.call (l' := #[true, true, true, true, false]) rfl (by kernel_rfl) rfl rfl rfl (E.call Tryz.call22 (A2 rfl rfl)) (w_laws_eqCnf S9207.sl r100 v106 (h107.mono (sgI.tr (((((i122.tr r137.run.inc).tr r154.run.inc).tr r172.run.inc).tr i187).tr r9208.inc))) r9203 v9209 (h9210.mono sgI) hr12204) ?_
                rintro e w12205 ⟨rfl, r12206⟩
                refine ⟨_, rfl, ?_⟩
                have S12207 := S9207.call r12206
                have z12208 := r12206.bel.size
                refine ⟨(SP.nil (Sl.of_inc r9208.inc S12207.sl)), ?_⟩
                refine FB.take (i := 4) (l' := #[true, true, true, true, true]) rfl (by kernel_rfl) (by kernel_rfl) (by kernel_rfl) (by kernel_rfl) (by kernel_rfl) (SP.nil (Sl.of_inc r9208.inc S12207.sl)) rfl rfl rfl (fun w' hw' => (E.not rfl)) ?_
                exact FB.done (by kernel_rfl) ⟨_, S12207, r9208.inc, k191, k192, k193, k194, k195, k196, k197, k198, k199, k200, rfl⟩
          ·
            rintro f21208 w21207 ⟨H21204, S21205, i21206, k21209, k21210, k21211, k21212, k21213, k21214, k21215, k21216, k21217, k21218, k21219⟩
            rcases ifB hp with ⟨c21220, hp⟩ | ⟨c21220, hp⟩
            ·
              refine FW.condT k21219 c21220 ?_
              refine FW.seq ?_
              refine FW.region ?_
              refine FL.val rfl rfl rfl (E.assign (v := Value.bool false) rfl) ?_
              refine FL.nil ?_
              refine FW.ret ?_
              obtain rfl := Option.some.inj hp
              exact ⟨.inr rfl, res1 rfl rfl ⟨rfl, S21205.back⟩⟩
            ·
              refine FW.condF k21219 c21220 ?_
              refine FW.skip ?_
              refine FW.seq ?_
              refine FW.seq ?_
              refine FW.region ?_
              refine FL.val rfl rfl rfl (E.move k21215) ?_
              refine FL.val rfl rfl rfl (E.move k21209) ?_
              obtain ⟨r21221, hr21222, hp⟩ := bnd hp
              refine FL.call rfl rfl rfl (E.call Tryz.call19 (A1 rfl)) (w_laws_toResStepS S21205.sl v1 a1 (p1.mono (((((((((((i27.tr r49.inc).tr r69.run.inc).tr r86.run.inc).tr r96.inc).tr r105.inc).tr i122).tr r137.run.inc).tr r154.run.inc).tr r172.run.inc).tr i187).tr i21206)) hr21222) ?_
              rintro e w21224 ⟨H21223, v21227, n21228, cs21229, rfl, r21226, els21230, nd21231⟩
              refine ⟨_, rfl, ?_⟩
              have nv21232 : New H21204 cs21229 := New.of_up S21205.sl els21230.dom
              obtain ⟨H21233, r21234, i21235, ns21238, nv21237⟩ := r21226.sealRowN (i := 0) (l' := []) rfl els21230 nd21231 (by decide) rfl
              have h21236 := ns21238.rsl
              have S21225 := S21205.call r21234.run
              have z21239 := r21234.run.bel.size
              have h21236 := h21236.mono (sg_of S21225.sl)
              have ns21238 := ns21238.mono (sg_of S21225.sl)
              obtain ⟨r21240, hr21241, hp⟩ := bnd hp
              refine FL.call rfl rfl rfl (E.call Tryz.call21 (A2 rfl rfl)) (w_laws_eqResStepS S21225.sl v130 r124 (h139.mono (sgI.tr ((((r154.run.inc.tr r172.run.inc).tr i187).tr i21206).tr r21234.run.inc))) v21227 r21221 (h21236.mono sgI) hr21241) ?_
              rintro e w21242 ⟨rfl, r21243⟩
              refine ⟨_, rfl, ?_⟩
              have S21244 := S21225.call r21243
              have z21245 := r21243.bel.size
              refine FL.val rfl rfl rfl (E.not rfl) ?_
              refine FL.nil ?_
              rcases ifB hp with ⟨c21246, hp⟩ | ⟨c21246, hp⟩
              ·
                refine FW.condT rfl c21246 ?_
                refine FW.seq ?_
                refine FW.region ?_
                refine FL.val rfl rfl rfl (E.assign (v := Value.bool false) rfl) ?_
                refine FL.nil ?_
                refine FW.ret ?_
                obtain rfl := Option.some.inj hp
                exact ⟨.inr rfl, res1 rfl rfl ⟨rfl, S21244.back⟩⟩
              ·
                refine FW.condF rfl c21246 ?_
                refine FW.skip ?_
                refine FW.seq ?_
                refine FW.seq ?_
                refine FW.region ?_
                refine FL.val rfl rfl rfl (E.move k21216) ?_
                refine FL.val rfl rfl rfl (E.move k21210) ?_
                obtain ⟨r21247, hr21248, hp⟩ := bnd hp
                refine FL.call rfl rfl rfl (E.call Tryz.call27 (A1 rfl)) (w_laws_toIntS S21244.sl v2 a2 (p2.mono ((((((((((((i27.tr r49.inc).tr r69.run.inc).tr r86.run.inc).tr r96.inc).tr r105.inc).tr i122).tr r137.run.inc).tr r154.run.inc).tr r172.run.inc).tr i187).tr i21206).tr r21234.run.inc)) hr21248) ?_
                rintro e w21250 ⟨H21249, v21253, n21254, cs21255, rfl, r21252, els21256⟩
                refine ⟨_, rfl, ?_⟩
                obtain ⟨H21257, r21258, i21259, h21260, nv21261⟩ := r21252.sealRowU (i := 0) (l' := []) rfl els21256 (by decide) rfl
                have S21251 := S21244.call r21258.run
                have z21262 := r21258.run.bel.size
                have h21260 := h21260.mono (sg_of S21251.sl)
                obtain ⟨r21263, hr21264, hp⟩ := bnd hp
                refine FL.call rfl rfl rfl (E.call Tryz.call29 (A2 rfl rfl)) (w_laws_eqIntS S21251.sl v149 r143 (h156.mono (sgI.tr ((((r172.run.inc.tr i187).tr i21206).tr r21234.run.inc).tr r21258.run.inc))) v21253 r21247 (h21260.mono sgI) hr21264) ?_
                rintro e w21265 ⟨rfl, r21266⟩
                refine ⟨_, rfl, ?_⟩
                have S21267 := S21251.call r21266
                have z21268 := r21266.bel.size
                refine FL.val rfl rfl rfl (E.not rfl) ?_
                refine FL.nil ?_
                rcases ifB hp with ⟨c21269, hp⟩ | ⟨c21269, hp⟩
                ·
                  refine FW.condT rfl c21269 ?_
                  refine FW.seq ?_
                  refine FW.region ?_
                  refine FL.val rfl rfl rfl (E.assign (v := Value.bool false) rfl) ?_
                  refine FL.nil ?_
                  refine FW.ret ?_
                  obtain rfl := Option.some.inj hp
                  exact ⟨.inr rfl, res1 rfl rfl ⟨rfl, S21267.back⟩⟩
                ·
                  refine FW.condF rfl c21269 ?_
                  refine FW.skip ?_
                  refine FW.seq ?_
                  refine FW.region ?_
                  refine FL.val rfl rfl rfl (E.assign (v := Value.int .i64 1) rfl) ?_
                  refine FL.nil ?_
                  refine FW.seq ?_
                  refine FW.region ?_
                  refine FL.val rfl rfl rfl (E.load k21214 (run_loadA Tryz.isAgg31 Tryz.sizeOf31 ((at123.mono (sgI.tr ((((((r137.run.inc.tr r154.run.inc).tr r172.run.inc).tr i187).tr i21206).tr r21234.run.inc).tr r21258.run.inc))).now S21267.sl) rfl)) ?_
                  refine FL.val rfl rfl rfl (E.move (v := Value.int .i64 1) rfl) ?_
                  refine FL.call rfl rfl rfl (E.call Tryz.call23 (A2 rfl rfl)) (w_laws_markCnf S21267 hs r100 v106 c109 (ns108.mono (sg_up (by omega) (((((((i122.tr r137.run.inc).tr r154.run.inc).tr r172.run.inc).tr i187).tr i21206).tr r21234.run.inc).tr r21258.run.inc))) 1) ?_
                  rintro e w21271 ⟨H21270, c21276, rfl, S21272, ns21278, hb21277, o21274⟩
                  refine ⟨_, rfl, ?_⟩
                  have o21275 := (ns108.mono (sg_mono (hi := w103.heap.size) (((((((i122.tr r137.run.inc).tr r154.run.inc).tr r172.run.inc).tr i187).tr i21206).tr r21234.run.inc).tr r21258.run.inc))).outside o21274
                  have ns21278 := ns108.span (eL_loc eI_flat) (by omega) ns21278 hb21277
                  have h21273 := ns21278.rsl
                  have f21279 := at28.mono ((sg_mono (lo := wa.heap.size) (hi := wa.heap.size + 1) ((((((((((((r49.inc.tr r69.run.inc).tr r86.run.inc).tr r96.inc).tr r105.inc).tr i122).tr r137.run.inc).tr r154.run.inc).tr r172.run.inc).tr i187).tr i21206).tr r21234.run.inc).tr r21258.run.inc)).tr (sg_keep o21275 (by omega)))
                  have f21280 := h98.mono ((bw_mono (hi := w94.heap.size) ((((((((r105.inc.tr i122).tr r137.run.inc).tr r154.run.inc).tr r172.run.inc).tr i187).tr i21206).tr r21234.run.inc).tr r21258.run.inc)).tr (bw_keep o21275 (by omega)))
                  have f21281 := at123.mono ((sg_mono (lo := w103.heap.size) (hi := w103.heap.size + 1) ((((((r137.run.inc.tr r154.run.inc).tr r172.run.inc).tr i187).tr i21206).tr r21234.run.inc).tr r21258.run.inc)).tr (sg_keep o21275 (by omega)))
                  have f21282 := h139.mono ((sg_mono (lo := w116.heap.size) (hi := w127.heap.size) (((((r154.run.inc.tr r172.run.inc).tr i187).tr i21206).tr r21234.run.inc).tr r21258.run.inc)).tr (sg_keep o21275 (by omega)))
                  have f21283 := ns141.mono ((sg_mono (lo := w116.heap.size) (hi := w127.heap.size) (((((r154.run.inc.tr r172.run.inc).tr i187).tr i21206).tr r21234.run.inc).tr r21258.run.inc)).tr (sg_keep o21275 (by omega)))
                  have f21284 := h156.mono ((sg_mono (lo := w127.heap.size) (hi := w146.heap.size) ((((r172.run.inc.tr i187).tr i21206).tr r21234.run.inc).tr r21258.run.inc)).tr (sg_keep o21275 (by omega)))
                  have f21285 := h174.mono ((sg_mono (lo := w146.heap.size) (hi := w162.heap.size) (((i187.tr i21206).tr r21234.run.inc).tr r21258.run.inc)).tr (sg_keep o21275 (by omega)))
                  have f21286 := ns176.mono ((sg_mono (lo := w146.heap.size) (hi := w162.heap.size) (((i187.tr i21206).tr r21234.run.inc).tr r21258.run.inc)).tr (sg_keep o21275 (by omega)))
                  refine FL.val rfl rfl rfl (E.assign (v := Value.int .i64 ((PF.laws_markCnf r100 1).2)) rfl) ?_
                  refine FL.nil ?_
                  refine FW.seq ?_
                  refine FW.region ?_
                  refine FL.val rfl rfl rfl (E.move k21215) ?_
                  refine FL.val rfl rfl rfl (E.move (v := Value.int .i64 ((PF.laws_markCnf r100 1).2)) rfl) ?_
                  refine FL.call rfl rfl rfl (E.call Tryz.call24 (A2 rfl rfl)) (w_laws_markResStepS S21272 hs v130 r124 cs132 (f21283.mono (sg_up (by omega) (Inc.rfl _))) ((PF.laws_markCnf r100 1).2)) ?_
                  rintro e w21288 ⟨H21287, c21293, rfl, S21289, ns21295, hb21294, o21291⟩
                  refine ⟨_, rfl, ?_⟩
                  have o21292 := (f21283.mono (sg_mono (hi := w127.heap.size) (Inc.rfl _))).outside o21291
                  have ns21295 := f21283.span eResStep_loc (by omega) ns21295 hb21294
                  have h21290 := ns21295.rsl
                  have f21296 := f21279.mono ((sg_mono (lo := wa.heap.size) (hi := wa.heap.size + 1) (Inc.rfl _)).tr (sg_keep o21292 (by omega)))
                  have f21297 := f21280.mono ((bw_mono (hi := w94.heap.size) (Inc.rfl _)).tr (bw_keep o21292 (by omega)))
                  have f21298 := f21281.mono ((sg_mono (lo := w103.heap.size) (hi := w103.heap.size + 1) (Inc.rfl _)).tr (sg_keep o21292 (by omega)))
                  have f21299 := h21273.mono ((sg_mono (lo := w94.heap.size) (hi := w103.heap.size) (Inc.rfl _)).tr (sg_keep o21292 (by omega)))
                  have f21300 := ns21278.mono ((sg_mono (lo := w94.heap.size) (hi := w103.heap.size) (Inc.rfl _)).tr (sg_keep o21292 (by omega)))
                  have f21301 := f21284.mono ((sg_mono (lo := w127.heap.size) (hi := w146.heap.size) (Inc.rfl _)).tr (sg_keep o21292 (by omega)))
                  have f21302 := f21285.mono ((sg_mono (lo := w146.heap.size) (hi := w162.heap.size) (Inc.rfl _)).tr (sg_keep o21292 (by omega)))
                  have f21303 := f21286.mono ((sg_mono (lo := w146.heap.size) (hi := w162.heap.size) (Inc.rfl _)).tr (sg_keep o21292 (by omega)))
                  refine FL.val rfl rfl rfl (E.assign (v := Value.int .i64 ((PF.laws_markResStepS r124 ((PF.laws_markCnf r100 1).2)).2)) rfl) ?_
                  refine FL.nil ?_
                  refine FW.seq ?_
                  refine FW.region ?_
                  refine FL.val rfl rfl rfl (E.move k21216) ?_
                  refine FL.val rfl rfl rfl (E.move (v := Value.int .i64 ((PF.laws_markResStepS r124 ((PF.laws_markCnf r100 1).2)).2)) rfl) ?_
                  refine FL.call rfl rfl rfl (E.call Tryz.call30 (A2 rfl rfl)) (w_laws_markIntS S21289 hs v149 r143 (f21301.mono (sg_up (by omega) (Inc.rfl _))) ((PF.laws_markResStepS r124 ((PF.laws_markCnf r100 1).2)).2)) ?_
                  rintro e w21305 ⟨H21304, rfl, S21306, h21307, o21308⟩
                  refine ⟨_, rfl, ?_⟩
                  have o21309 := (f21301.mono (sg_mono (hi := w146.heap.size) (Inc.rfl _))).outside o21308
                  have h21307 := f21301.span eI_flat (by omega) h21307
                  have f21310 := f21296.mono ((sg_mono (lo := wa.heap.size) (hi := wa.heap.size + 1) (Inc.rfl _)).tr (sg_keep o21309 (by omega)))
                  have f21311 := f21297.mono ((bw_mono (hi := w94.heap.size) (Inc.rfl _)).tr (bw_keep o21309 (by omega)))
                  have f21312 := f21298.mono ((sg_mono (lo := w103.heap.size) (hi := w103.heap.size + 1) (Inc.rfl _)).tr (sg_keep o21309 (by omega)))
                  have f21313 := f21299.mono ((sg_mono (lo := w94.heap.size) (hi := w103.heap.size) (Inc.rfl _)).tr (sg_keep o21309 (by omega)))
                  have f21314 := f21300.mono ((sg_mono (lo := w94.heap.size) (hi := w103.heap.size) (Inc.rfl _)).tr (sg_keep o21309 (by omega)))
                  have f21315 := h21290.mono ((sg_mono (lo := w116.heap.size) (hi := w127.heap.size) (Inc.rfl _)).tr (sg_keep o21309 (by omega)))
                  have f21316 := ns21295.mono ((sg_mono (lo := w116.heap.size) (hi := w127.heap.size) (Inc.rfl _)).tr (sg_keep o21309 (by omega)))
                  have f21317 := f21302.mono ((sg_mono (lo := w146.heap.size) (hi := w162.heap.size) (Inc.rfl _)).tr (sg_keep o21309 (by omega)))
                  have f21318 := f21303.mono ((sg_mono (lo := w146.heap.size) (hi := w162.heap.size) (Inc.rfl _)).tr (sg_keep o21309 (by omega)))
                  refine FL.val rfl rfl rfl (E.assign (v := Value.int .i64 ((PF.laws_markIntS r143 ((PF.laws_markResStepS r124 ((PF.laws_markCnf r100 1).2)).2)).2)) rfl) ?_
                  refine FL.nil ?_
                  refine FW.seq ?_
                  refine FW.seq ?_
                  refine FW.region ?_
                  refine FL.val rfl rfl rfl (E.move (v := Value.int .i64 ((PF.laws_markIntS r143 ((PF.laws_markResStepS r124 ((PF.laws_markCnf r100 1).2)).2)).2)) rfl) ?_
                  refine FL.val rfl rfl rfl (E.lss rfl rfl) ?_
                  refine FL.val rfl rfl rfl (E.move (v := Value.bool (decide ((PF.laws_markIntS r143 ((PF.laws_markResStepS r124 ((PF.laws_markCnf r100 1).2)).2)).2 < 0))) rfl) ?_
                  obtain ⟨t21325, hqt21325, hp⟩ := bnd hp
                  refine FL.cut 5 (fun f w => ∃ H : GH, St Ha wa H w [] ∧ Inc H21304 H ∧ f 1 = v1 ∧ f 2 = v2 ∧ f 3 = Value.pointer (some ⟨wa.heap.size, 0, none⟩) ∧ f 8 = v97 ∧ f 9 = Value.bool r91.2 ∧ f 13 = v165 ∧ f 14 = Value.bool r159.2 ∧ f 96 = Value.bool t21325) ?_ ?_
                  ·
                    clear hp; have hp := hqt21325; clear hqt21325
                    rcases ifB hp with ⟨c21331, hp⟩ | ⟨c21331, hp⟩
                    ·
                      refine FL.skip (wF_no rfl rfl rfl c21331) rfl ?_
                      refine FL.skip (wF_no rfl rfl rfl c21331) rfl ?_
                      refine FL.skip (wF_no rfl rfl rfl c21331) rfl ?_
                      refine FL.skip (wF_no rfl rfl rfl c21331) rfl ?_
                      obtain rfl := Option.some.inj hp
                      refine FL.val rfl rfl rfl (E.pickT rfl c21331 rfl) ?_
                      exact FL.nil ⟨rfl, _, S21306, (Inc.rfl _), k21209, k21210, k21211, k21212, k21213, k21217, k21218, rfl⟩
                    ·
                      refine FL.val (wF_yes rfl rfl rfl c21331) rfl rfl (E.move k21217) ?_
                      refine FL.val (wF_yes rfl rfl rfl c21331) rfl rfl (E.move k21212) ?_
                      obtain ⟨r21332, hr21333, hp⟩ := bnd hp
                      refine FL.call (wF_yes rfl rfl rfl c21331) rfl rfl (E.call Tryz.call21 (A2 rfl rfl)) (w_laws_eqResStepS S21306.sl v165 r159.1 (f21317.mono sgI) v97 r91.1 (f21311.mono bwI) hr21333) ?_
                      rintro e w21334 ⟨rfl, r21335⟩
                      refine ⟨_, rfl, ?_⟩
                      have S21336 := S21306.call r21335
                      have z21337 := r21335.bel.size
                      refine FL.val (wF_yes rfl rfl rfl c21331) rfl rfl (E.not rfl) ?_
                      obtain rfl := Option.some.inj hp
                      refine FL.val rfl rfl rfl (E.pickF rfl c21331 rfl) ?_
                      exact FL.nil ⟨rfl, _, S21336, (Inc.rfl _), k21209, k21210, k21211, k21212, k21213, k21217, k21218, rfl⟩
                  rintro f21330 w21329 ⟨H21326, S21327, i21328, k21338, k21339, k21340, k21341, k21342, k21343, k21344, k21345⟩
                  refine FL.val rfl rfl rfl (E.move k21345) ?_
                  refine FL.cut 4 (fun f w => ∃ H : GH, St Ha wa H w [] ∧ Inc H21326 H ∧ f 1 = v1 ∧ f 2 = v2 ∧ f 3 = Value.pointer (some ⟨wa.heap.size, 0, none⟩) ∧ f 8 = v97 ∧ f 9 = Value.bool r91.2 ∧ f 13 = v165 ∧ f 101 = Value.bool (bif t21325 then true else (!(r159.2 == r91.2)))) ?_ ?_
                  ·
                    rcases bcase t21325 with c21352 | c21352
                    ·
                      refine FL.skip (wF_no rfl rfl rfl c21352) rfl ?_
                      refine FL.skip (wF_no rfl rfl rfl c21352) rfl ?_
                      refine FL.skip (wF_no rfl rfl rfl c21352) rfl ?_
                      refine FL.val rfl rfl rfl (E.pickT rfl c21352 rfl) ?_
                      exact FL.nil ⟨rfl, _, S21327, (Inc.rfl _), k21338, k21339, k21340, k21341, k21342, k21343, (congrArg Value.bool (bifT c21352).symm)⟩
                    ·
                      refine FL.val (wF_yes rfl rfl rfl c21352) rfl rfl (E.move k21344) ?_
                      refine FL.val (wF_yes rfl rfl rfl c21352) rfl rfl (E.move k21342) ?_
                      refine FL.val (wF_yes rfl rfl rfl c21352) rfl rfl (E.neqB Tryz.runUnderlying4 rfl rfl) ?_
                      refine FL.val rfl rfl rfl (E.pickF rfl c21352 rfl) ?_
                      exact FL.nil ⟨rfl, _, S21327, (Inc.rfl _), k21338, k21339, k21340, k21341, k21342, k21343, (congrArg Value.bool (bifF c21352).symm)⟩
                  rintro f21351 w21350 ⟨H21347, S21348, i21349, k21353, k21354, k21355, k21356, k21357, k21358, k21359⟩
                  refine FL.nil ?_
                  rcases ifB hp with ⟨c21360, hp⟩ | ⟨c21360, hp⟩
                  ·
                    refine FW.condT k21359 c21360 ?_
                    refine FW.seq ?_
                    refine FW.region ?_
                    refine FL.val rfl rfl rfl (E.assign (v := Value.bool false) rfl) ?_
                    refine FL.nil ?_
                    refine FW.ret ?_
                    obtain rfl := Option.some.inj hp
                    exact ⟨.inr rfl, res1 rfl rfl ⟨rfl, S21348.back⟩⟩
                  ·
                    refine FW.condF k21359 c21360 ?_
                    refine FW.skip ?_
                    refine FW.seq ?_
                    refine FW.region ?_
                    refine FL.val rfl rfl rfl (E.assign (v := Value.int .i64 1) rfl) ?_
                    refine FL.nil ?_
                    refine FW.seq ?_
                    refine FW.region ?_
                    refine FL.val rfl rfl rfl (E.move k21358) ?_
                    refine FL.val rfl rfl rfl (E.move (v := Value.int .i64 1) rfl) ?_
                    refine FL.call rfl rfl rfl (E.call Tryz.call24 (A2 rfl rfl)) (w_laws_markResStepS S21348 hs v165 r159.1 cs167 (f21318.mono (sg_up (by omega) (i21328.tr i21349))) 1) ?_
                    rintro e w21362 ⟨H21361, c21367, rfl, S21363, ns21369, hb21368, o21365⟩
                    refine ⟨_, rfl, ?_⟩
                    have o21366 := (f21318.mono (sg_mono (hi := w162.heap.size) (i21328.tr i21349))).outside o21365
                    have ns21369 := f21318.span eResStep_loc (by omega) ns21369 hb21368
                    have h21364 := ns21369.rsl
                    have f21370 := f21310.mono ((sg_mono (lo := wa.heap.size) (hi := wa.heap.size + 1) (i21328.tr i21349)).tr (sg_keep o21366 (by omega)))
                    have f21371 := f21311.mono ((bw_mono (hi := w94.heap.size) (i21328.tr i21349)).tr (bw_keep o21366 (by omega)))
                    refine FL.val rfl rfl rfl (E.assign (v := Value.int .i64 ((PF.laws_markResStepS r159.1 1).2)) rfl) ?_
                    refine FL.nil ?_
                    refine FW.seq ?_
                    refine FW.region ?_
                    refine FL.val rfl rfl rfl (E.assign (v := Value.int .i64 1) rfl) ?_
                    refine FL.nil ?_
                    refine FW.seq ?_
                    refine FW.region ?_
                    refine FL.val rfl rfl rfl (E.move k21358) ?_
                    refine FL.val rfl rfl rfl (E.move (v := Value.int .i64 1) rfl) ?_
                    obtain ⟨r21372, hr21373, hp⟩ := bnd hp
                    refine FL.call rfl rfl rfl (E.call Tryz.call25 (A2 rfl rfl)) (w_laws_heldResStepS S21363.sl v165 ((PF.laws_markResStepS r159.1 1).1) (h21364.mono sgI) 1 hr21373) ?_
                    rintro e w21374 ⟨rfl, r21375⟩
                    refine ⟨_, rfl, ?_⟩
                    have S21376 := S21363.call r21375
                    have z21377 := r21375.bel.size
                    refine FL.val rfl rfl rfl (E.assign (v := Value.int .i64 r21372) rfl) ?_
                    refine FL.nil ?_
                    refine FW.seq ?_
                    refine FW.seq ?_
                    refine FW.region ?_
                    refine FL.val rfl rfl rfl (E.move (v := Value.int .i64 r21372) rfl) ?_
                    refine FL.val rfl rfl rfl (E.lss rfl rfl) ?_
                    refine FL.nil ?_
                    rcases ifB hp with ⟨c21378, hp⟩ | ⟨c21378, hp⟩
                    ·
                      refine FW.condT rfl c21378 ?_
                      refine FW.seq ?_
                      refine FW.region ?_
                      refine FL.val rfl rfl rfl (E.assign (v := Value.bool false) rfl) ?_
                      refine FL.nil ?_
                      refine FW.ret ?_
                      obtain rfl := Option.some.inj hp
                      exact ⟨.inr rfl, res1 rfl rfl ⟨rfl, S21376.back⟩⟩
                    ·
                      refine FW.condF rfl c21378 ?_
                      refine FW.skip ?_
                      refine FW.seq ?_
                      refine FW.seq ?_
                      refine FW.region ?_
                      refine FL.val rfl rfl rfl (E.move (v := Value.int .i64 r21372) rfl) ?_
                      refine FL.val rfl rfl rfl (E.move (v := Value.int .i64 ((PF.laws_markResStepS r159.1 1).2)) rfl) ?_
                      refine FL.val rfl rfl rfl (E.neq rfl rfl) ?_
                      refine FL.nil ?_
                      rcases ifB hp with ⟨c21379, hp⟩ | ⟨c21379, hp⟩
                      ·
                        refine FW.condT rfl c21379 ?_
                        refine FW.seq ?_
                        refine FW.region ?_
                        refine FL.val rfl rfl rfl (E.assign (v := Value.bool false) rfl) ?_
                        refine FL.nil ?_
                        refine FW.ret ?_
                        obtain rfl := Option.some.inj hp
                        exact ⟨.inr rfl, res1 rfl rfl ⟨rfl, S21376.back⟩⟩
                      ·
                        refine FW.condF rfl c21379 ?_
                        refine FW.skip ?_
                        refine FW.seq ?_
                        refine FW.region ?_
                        refine FL.val rfl rfl rfl (E.load k21355 (run_loadA Tryz.isAgg24 Tryz.sizeOf24 ((f21370.mono sgI).now S21376.sl) rfl)) ?_
                        obtain ⟨r21380, hr21381, hp⟩ := bnd hp
                        refine FL.call rfl rfl rfl (E.call Tryz.call18 (A1 rfl)) (w_laws_toCnf S21376.sl a0 v0_1 (p0_1.mono S21363.inc) hr21381) ?_
                        rintro e w21383 ⟨H21382, v21386, rfl, r21385, ⟨c21389, ns21388⟩⟩
                        refine ⟨_, rfl, ?_⟩
                        have h21387 := ns21388.rsl
                        have nv21390 : New H21361 [v21386] := New.of_up S21376.sl h21387.dom
                        have S21384 := S21376.call r21385
                        have z21391 := r21385.bel.size
                        have h21387 := h21387.mono (sg_of S21384.sl)
                        have ns21388 := ns21388.mono (sg_of S21384.sl)
                        refine FL.val rfl rfl rfl (E.move k21353) ?_
                        obtain ⟨r21392, hr21393, hp⟩ := bnd hp
                        refine FL.call rfl rfl rfl (E.call Tryz.call19 (A1 rfl)) (w_laws_toResStepS S21384.sl v1 a1 (p1.mono (S21363.inc.tr r21385.inc)) hr21393) ?_
                        rintro e w21395 ⟨H21394, v21398, n21399, cs21400, rfl, r21397, els21401, nd21402⟩
                        refine ⟨_, rfl, ?_⟩
                        have nv21403 : New H21382 cs21400 := New.of_up S21384.sl els21401.dom
                        obtain ⟨H21404, r21405, i21406, ns21409, nv21408⟩ := r21397.sealRowN (i := 0) (l' := []) rfl els21401 nd21402 (by decide) rfl
                        have h21407 := ns21409.rsl
                        have S21396 := S21384.call r21405.run
                        have z21410 := r21405.run.bel.size
                        have h21407 := h21407.mono (sg_of S21396.sl)
                        have ns21409 := ns21409.mono (sg_of S21396.sl)
                        refine FL.val rfl rfl rfl (E.move k21354) ?_
                        obtain ⟨r21411, hr21412, hp⟩ := bnd hp
                        refine FL.call rfl rfl rfl (E.call Tryz.call27 (A1 rfl)) (w_laws_toIntS S21396.sl v2 a2 (p2.mono ((S21363.inc.tr r21385.inc).tr r21405.run.inc)) hr21412) ?_
                        rintro e w21414 ⟨H21413, v21417, n21418, cs21419, rfl, r21416, els21420⟩
                        refine ⟨_, rfl, ?_⟩
                        obtain ⟨H21421, r21422, i21423, h21424, nv21425⟩ := r21416.sealRowU (i := 0) (l' := []) rfl els21420 (by decide) rfl
                        have S21415 := S21396.call r21422.run
                        have z21426 := r21422.run.bel.size
                        have h21424 := h21424.mono (sg_of S21415.sl)
                        obtain ⟨r21427, hr21428, hp⟩ := bnd hp
                        refine FL.call rfl rfl rfl (E.call Tryz.call28 (A3 rfl rfl rfl)) (w_impl_RestrictSteps S21415.sl r21380 v21386 (h21387.mono (sgI.tr (r21405.run.inc.tr r21422.run.inc))) v21398 r21392 (h21407.mono (sgI.tr r21422.run.inc)) v21417 r21411 (h21424.mono sgI) hr21428) ?_
                        rintro e w21430 ⟨H21429, v21433, n21434, cs21435, rfl, r21432, els21436, nd21437⟩
                        refine ⟨_, rfl, ?_⟩
                        have nv21438 : New H21421 cs21435 := New.of_up S21415.sl els21436.dom
                        obtain ⟨H21439, r21440, i21441, ns21444, nv21443⟩ := r21432.sealRowN (i := 0) (l' := []) rfl els21436 nd21437 (by decide) rfl
                        have h21442 := ns21444.rsl
                        have S21431 := S21415.call r21440.run
                        have z21445 := r21440.run.bel.size
                        have h21442 := h21442.mono (sg_of S21431.sl)
                        have ns21444 := ns21444.mono (sg_of S21431.sl)
                        refine FL.val rfl rfl rfl (E.move (v := Value.tuple #[v21433, Value.bool r21427.2]) rfl) ?_
                        refine FL.val rfl rfl rfl (E.extract (i := 0) rfl rfl) ?_
                        refine FL.val rfl rfl rfl (E.extract (i := 1) rfl rfl) ?_
                        refine FL.val rfl rfl rfl (E.assign (v := v21433) rfl) ?_
                        refine FL.val rfl rfl rfl (E.assign (v := Value.bool r21427.2) rfl) ?_
                        refine FL.nil ?_
                        refine FW.seq ?_
                        refine FW.seq ?_
                        refine FW.region ?_
                        refine FL.val rfl rfl rfl (E.move (v := v21433) rfl) ?_
                        refine FL.val rfl rfl rfl (E.move k21356) ?_
                        obtain ⟨r21446, hr21447, hp⟩ := bnd hp
                        refine FL.call rfl rfl rfl (E.call Tryz.call21 (A2 rfl rfl)) (w_laws_eqResStepS S21431.sl v21433 r21427.1 (h21442.mono sgI) v97 r91.1 (f21371.mono (bwI.tr (((r21385.inc.tr r21405.run.inc).tr r21422.run.inc).tr r21440.run.inc))) hr21447) ?_
                        rintro e w21448 ⟨rfl, r21449⟩
                        refine ⟨_, rfl, ?_⟩
                        have S21450 := S21431.call r21449
                        have z21451 := r21449.bel.size
                        refine FL.val rfl rfl rfl (E.not rfl) ?_
                        refine FL.val rfl rfl rfl (E.move (v := Value.bool (!r21446)) rfl) ?_
                        refine FL.cut 4 (fun f w => ∃ H : GH, St Ha wa H w [] ∧ Inc H21439 H ∧ f 13 = v165 ∧ f 16 = Value.int .i64 ((PF.laws_markResStepS r159.1 1).2) ∧ f 131 = Value.bool (bif (!r21446) then true else (!(r21427.2 == r91.2)))) ?_ ?_
                        ·
                          rcases bcase (!r21446) with c21458 | c21458
                          ·
                            refine FL.skip (wF_no rfl rfl rfl c21458) rfl ?_
                            refine FL.skip (wF_no rfl rfl rfl c21458) rfl ?_
                            refine FL.skip (wF_no rfl rfl rfl c21458) rfl ?_
                            refine FL.val rfl rfl rfl (E.pickT rfl c21458 rfl) ?_
                            exact FL.nil ⟨rfl, _, S21450, (Inc.rfl _), k21358, rfl, (congrArg Value.bool (bifT c21458).symm)⟩
                          ·
                            refine FL.val (wF_yes rfl rfl rfl c21458) rfl rfl (E.move (v := Value.bool r21427.2) rfl) ?_
                            refine FL.val (wF_yes rfl rfl rfl c21458) rfl rfl (E.move k21357) ?_
                            refine FL.val (wF_yes rfl rfl rfl c21458) rfl rfl (E.neqB Tryz.runUnderlying4 rfl rfl) ?_
                            refine FL.val rfl rfl rfl (E.pickF rfl c21458 rfl) ?_
                            exact FL.nil ⟨rfl, _, S21450, (Inc.rfl _), k21358, rfl, (congrArg Value.bool (bifF c21458).symm)⟩
                        rintro f21457 w21456 ⟨H21453, S21454, i21455, k21459, k21460, k21461⟩
                        refine FL.nil ?_
                        rcases ifB hp with ⟨c21462, hp⟩ | ⟨c21462, hp⟩
                        ·
                          refine FW.condT k21461 c21462 ?_
                          refine FW.seq ?_
                          refine FW.region ?_
                          refine FL.val rfl rfl rfl (E.assign (v := Value.bool false) rfl) ?_
                          refine FL.nil ?_
                          refine FW.ret ?_
                          obtain rfl := Option.some.inj hp
                          exact ⟨.inr rfl, res1 rfl rfl ⟨rfl, S21454.back⟩⟩
                        ·
                          refine FW.condF k21461 c21462 ?_
                          refine FW.skip ?_
                          refine FW.seq ?_
                          refine FW.region ?_
                          refine FL.val rfl rfl rfl (E.assign (v := Value.int .i64 1) rfl) ?_
                          refine FL.nil ?_
                          refine FW.seq ?_
                          refine FW.region ?_
                          refine FL.val rfl rfl rfl (E.move k21459) ?_
                          refine FL.val rfl rfl rfl (E.move (v := Value.int .i64 1) rfl) ?_
                          obtain ⟨r21463, hr21464, hp⟩ := bnd hp
                          refine FL.call rfl rfl rfl (E.call Tryz.call25 (A2 rfl rfl)) (w_laws_heldResStepS S21454.sl v165 ((PF.laws_markResStepS r159.1 1).1) (h21364.mono (sgI.tr ((((r21385.inc.tr r21405.run.inc).tr r21422.run.inc).tr r21440.run.inc).tr i21455))) 1 hr21464) ?_
                          rintro e w21465 ⟨rfl, r21466⟩
                          refine ⟨_, rfl, ?_⟩
                          have S21467 := S21454.call r21466
                          have z21468 := r21466.bel.size
                          refine FL.val rfl rfl rfl (E.assign (v := Value.int .i64 r21463) rfl) ?_
                          refine FL.nil ?_
                          refine FW.seq ?_
                          refine FW.seq ?_
                          refine FW.region ?_
                          refine FL.val rfl rfl rfl (E.move (v := Value.int .i64 r21463) rfl) ?_
                          refine FL.val rfl rfl rfl (E.lss rfl rfl) ?_
                          refine FL.nil ?_
                          rcases ifB hp with ⟨c21469, hp⟩ | ⟨c21469, hp⟩
                          ·
                            refine FW.condT rfl c21469 ?_
                            refine FW.seq ?_
                            refine FW.region ?_
                            refine FL.val rfl rfl rfl (E.assign (v := Value.bool false) rfl) ?_
                            refine FL.nil ?_
                            refine FW.ret ?_
                            obtain rfl := Option.some.inj hp
                            exact ⟨.inr rfl, res1 rfl rfl ⟨rfl, S21467.back⟩⟩
                          ·
                            refine FW.condF rfl c21469 ?_
                            refine FW.skip ?_
                            refine FW.seq ?_
                            refine FW.seq ?_
                            refine FW.region ?_
                            refine FL.val rfl rfl rfl (E.move (v := Value.int .i64 r21463) rfl) ?_
                            refine FL.val rfl rfl rfl (E.move k21460) ?_
                            refine FL.val rfl rfl rfl (E.neq rfl rfl) ?_
                            refine FL.nil ?_
                            rcases ifB hp with ⟨c21470, hp⟩ | ⟨c21470, hp⟩
                            ·
                              refine FW.condT rfl c21470 ?_
                              refine FW.seq ?_
                              refine FW.region ?_
                              refine FL.val rfl rfl rfl (E.assign (v := Value.bool false) rfl) ?_
                              refine FL.nil ?_
                              refine FW.ret ?_
                              obtain rfl := Option.some.inj hp
                              exact ⟨.inr rfl, res1 rfl rfl ⟨rfl, S21467.back⟩⟩
                            ·
                              refine FW.condF rfl c21470 ?_
                              refine FW.skip ?_
                              refine FW.seq ?_
                              refine FW.region ?_
                              refine FL.val rfl rfl rfl (E.assign (v := Value.bool true) rfl) ?_
                              refine FL.nil ?_
                              refine FW.ret ?_
                              obtain rfl := Option.some.inj hp
                              exact ⟨.inr rfl, res1 rfl rfl ⟨rfl, S21467.back⟩⟩

end Go.Proofs
