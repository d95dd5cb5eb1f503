/- Part of the walks and plain laws behind the claim: it proves helpers, under no condition beyond their own. -/
import Derived.Test.YtgkmebdjookgnaaGreatWk1
set_option linter.unusedVariables false
set_option maxRecDepth 100000
namespace Go.Proofs
open Go.Mr Go.Pu Go.PF Go.RowKit

theorem w_slices_ContainsFunc_int_int {Ha : GH} {wa : World} (hs : Sl Ha wa) (v0 : Value) (a0 : List Int) (p0 : RSl Ha eI 1 v0 a0) (v1 : Value) (a1 : Int → Option Bool) (p1 : Fn_I_to_B Tryz.prog Ha v1 a1) {r : Bool} (hp : (PF.slices_ContainsFunc_int_int a0 a1) = some r) :
    Calls Tryz.prog 105 #[v0, v1] wa (Sc Ha wa (Value.bool r)) := by
  unfold PF.slices_ContainsFunc_int_int at hp
  have S0 := St.init hs
  refine calls_go (N := 9) (args := [v0, v1]) Tryz.func105 rfl rfl rfl ?_
  refine FW.seq ?_
  refine FW.region ?_
  refine FL.val rfl rfl rfl (E.assign (v := Value.bool false) rfl) ?_
  refine FL.nil ?_
  refine FW.seq ?_
  refine FW.region ?_
  refine FL.val rfl rfl rfl (E.move (v := v0) rfl) ?_
  refine FL.val rfl rfl rfl (E.move (v := v1) rfl) ?_
  obtain ⟨r21, hr22, hp⟩ := bnd hp
  refine FL.call rfl rfl rfl (E.call Tryz.call157 (A2 rfl rfl)) (w_slices_IndexFunc_int_int S0.sl v0 a0 p0 v1 a1 p1 hr22) ?_
  rintro e w23 ⟨rfl, r24⟩
  refine ⟨_, rfl, ?_⟩
  have S25 := S0.call r24
  refine FL.val rfl rfl rfl (E.geq rfl rfl) ?_
  refine FL.val rfl rfl rfl (E.assign (v := Value.bool (decide (0 ≤ r21))) rfl) ?_
  refine FL.nil ?_
  refine FW.ret ?_
  obtain rfl := Option.some.inj hp
  exact ⟨.inr rfl, res1 rfl rfl ⟨rfl, S25.back⟩⟩

theorem w_slices_Index_int_int {Ha : GH} {wa : World} (hs : Sl Ha wa) (v0 : Value) (a0 : List Int) (p0 : RSl Ha eI 1 v0 a0) (a1 : Int) {r : Int} (hp : (PF.slices_Index_int_int a0 a1) = some r) :
    Calls Tryz.prog 104 #[v0, Value.int .i64 a1] wa (Sc Ha wa (Value.int .i64 r)) := by
  unfold PF.slices_Index_int_int at hp
  have S0 := St.init hs
  refine calls_go (N := 19) (args := [v0, Value.int .i64 a1]) Tryz.func104 rfl rfl rfl ?_
  refine FW.seq ?_
  refine FW.region ?_
  refine FL.val rfl rfl rfl (E.assign (v := Value.int .i64 0) rfl) ?_
  refine FL.nil ?_
  refine FW.seq ?_
  refine FW.seq ?_
  refine FW.region ?_
  refine FL.val rfl rfl rfl (E.move (v := v0) rfl) ?_
  refine FL.val rfl rfl rfl (E.lenP te61 rfl p0) ?_
  refine FL.val rfl rfl rfl (E.move (v := Value.int .i64 0) rfl) ?_
  refine FL.nil ?_
  obtain ⟨q22, hq, hp⟩ := bndR hp
  refine FW.block ?_
  refine FW.mono (FW.forL (S := Unit) (X := Int) (fun (i22 : Nat) (s22 : Unit) f w => ∃ H : GH, St Ha wa H w [] ∧ Inc Ha H ∧ f 8 = Value.int .i64 ((i22 : Nat) : Int) ∧ f 0 = v0 ∧ f 1 = Value.int .i64 a1 ∧ f 7 = Value.int .i64 (len a0)) (fun q e f w => match q with | .go s22 => e = Exit.exit 0 ∧ (∃ H : GH, St Ha wa H w [] ∧ Inc Ha H) | .rt x => ((e = Exit.ret) ∧ (fun e f w => (e = Exit.normal ∨ e = Exit.ret) ∧ ∀ a, Fr 19 a f → ∃ v, (results Tryz.f104 a.tmps).run Tryz.prog w = .ok v w ∧ (Sc Ha wa (Value.int .i64 x)) (.returned v) w) e f w)) hq ⟨_, S0, (Inc.rfl _), rfl, rfl, rfl, rfl⟩ ?_ ?_) ?_
  ·
    clear hp hq
    rintro i22 y21 s22 f43 w42 ⟨H39, S40, i41, k44, k45, k46, k47⟩ hx22 o55 hp
    refine FW.seq ?_
    refine FW.region ?_
    refine FL.val rfl rfl rfl (E.lssT k44 k47 (lss_len hx22)) ?_
    refine FL.nil ?_
    refine FW.seq ?_
    refine FW.condT rfl rfl ?_
    refine FW.skip ?_
    refine FW.seq ?_
    refine FW.block ?_
    refine FW.seq ?_
    refine FW.region ?_
    refine FL.val rfl rfl rfl (E.move k44) ?_
    refine FL.val rfl rfl rfl (E.assign (v := Value.int .i64 ((i22 : Nat) : Int)) rfl) ?_
    refine FL.nil ?_
    refine FW.seq ?_
    refine FW.region ?_
    refine FL.val rfl rfl rfl (E.move k46) ?_
    refine FL.val rfl rfl rfl (E.move k45) ?_
    refine FL.val rfl rfl rfl (E.move (v := Value.int .i64 ((i22 : Nat) : Int)) rfl) ?_
    obtain ⟨p48, cs49, pt50, l51, at52, rel53⟩ := p0.at (ix_nat hx22)
    obtain rfl := eI_open rel53
    refine FL.val rfl rfl rfl (E.indexAddr te61 rfl rfl pt50) ?_
    refine FL.val rfl rfl rfl (E.load rfl (run_load0 Tryz.isAgg3 ((at52.mono i41).now S40.sl) rfl)) ?_
    refine FL.val rfl rfl rfl (E.eql rfl rfl) ?_
    refine FL.nil ?_
    rcases ifB hp with ⟨c54, hp⟩ | ⟨c54, hp⟩
    ·
      refine FW.condT rfl c54 ?_
      refine FW.seq ?_
      refine FW.region ?_
      refine FL.val rfl rfl rfl (E.move (v := Value.int .i64 ((i22 : Nat) : Int)) rfl) ?_
      refine FL.val rfl rfl rfl (E.assign (v := Value.int .i64 ((i22 : Nat) : Int)) rfl) ?_
      refine FL.nil ?_
      refine FW.ret ?_
      obtain rfl := Option.some.inj hp
      exact ⟨nofun, rfl, ⟨.inr rfl, res1 rfl rfl ⟨rfl, S40.back⟩⟩⟩
    ·
      refine FW.condF rfl c54 ?_
      refine FW.skip ?_
      refine FW.region ?_
      refine FL.val rfl rfl rfl (E.add k44 rfl) ?_
      refine FL.val rfl rfl rfl (E.move (v := Value.int .i64 (wr (((i22 : Nat) : Int) + 1))) rfl) ?_
      refine FL.nil ?_
      obtain rfl := Option.some.inj hp
      exact ⟨rfl, ⟨_, S40, i41, (nat_succ rfl (lt_of_get hx22) (p0.mono i41).le), k45, k46, k47⟩⟩
  ·
    clear hp hq
    rintro s22 f65 w64 ⟨H61, S62, i63, k66, k67, k68, k69⟩
    refine FW.seq ?_
    refine FW.region ?_
    refine FL.val rfl rfl rfl (E.lss k66 k69) ?_
    refine FL.nil ?_
    refine FW.seq ?_
    refine FW.condF rfl dlt_len ?_
    refine FW.exit ?_
    exact ⟨nofun, rfl, ⟨_, S62, i63⟩⟩
  ·
    clear hq
    intro e f60 w59 hD
    rcases q22 with s22 | x22
    ·
      obtain ⟨rfl, hD⟩ := hD
      obtain ⟨H56, S57, i58⟩ := hD
      replace hp := el_go hp
      refine FW.seq ?_
      refine FW.region ?_
      refine FL.val rfl rfl rfl (E.assign (v := Value.int .i64 (-1)) rfl) ?_
      refine FL.nil ?_
      refine FW.ret ?_
      obtain rfl := Option.some.inj hp
      exact ⟨.inr rfl, res1 rfl rfl ⟨rfl, S57.back⟩⟩
    ·
      obtain ⟨he, hL⟩ := hD
      replace hp := el_rt hp
      obtain rfl := Option.some.inj hp
      subst he
      exact hL

theorem w_slices_Contains_int_int {Ha : GH} {wa : World} (hs : Sl Ha wa) (v0 : Value) (a0 : List Int) (p0 : RSl Ha eI 1 v0 a0) (a1 : Int) {r : Bool} (hp : (PF.slices_Contains_int_int a0 a1) = some r) :
    Calls Tryz.prog 171 #[v0, Value.int .i64 a1] wa (Sc Ha wa (Value.bool r)) := by
  unfold PF.slices_Contains_int_int at hp
  have S0 := St.init hs
  refine calls_go (N := 9) (args := [v0, Value.int .i64 a1]) Tryz.func171 rfl rfl rfl ?_
  refine FW.seq ?_
  refine FW.region ?_
  refine FL.val rfl rfl rfl (E.assign (v := Value.bool false) rfl) ?_
  refine FL.nil ?_
  refine FW.seq ?_
  refine FW.region ?_
  refine FL.val rfl rfl rfl (E.move (v := v0) rfl) ?_
  refine FL.val rfl rfl rfl (E.move (v := Value.int .i64 a1) rfl) ?_
  obtain ⟨r21, hr22, hp⟩ := bnd hp
  refine FL.call rfl rfl rfl (E.call Tryz.call104 (A2 rfl rfl)) (w_slices_Index_int_int S0.sl v0 a0 p0 a1 hr22) ?_
  rintro e w23 ⟨rfl, r24⟩
  refine ⟨_, rfl, ?_⟩
  have S25 := S0.call r24
  refine FL.val rfl rfl rfl (E.geq rfl rfl) ?_
  refine FL.val rfl rfl rfl (E.assign (v := Value.bool (decide (0 ≤ r21))) rfl) ?_
  refine FL.nil ?_
  refine FW.ret ?_
  obtain rfl := Option.some.inj hp
  exact ⟨.inr rfl, res1 rfl rfl ⟨rfl, S25.back⟩⟩

theorem w_impl_part_1 {Ha : GH} {wa : World} (hs : Sl Ha wa) (a0 : Int) (q0 : Addr) (b0 : List Int) (u0_0 : Value) (g0_0 : RSl Ha eI 1 u0_0 b0) (c0 : CAt Ha q0 [u0_0]) {r : Bool} (hp : (PF.impl_part_1 a0 b0) = some r) :
    Calls Tryz.prog 236 #[Value.int .i64 a0, Value.pointer (some q0)] wa (Sc Ha wa (Value.bool r)) := by
  unfold PF.impl_part_1 at hp
  have S0 := St.init hs
  refine calls_go (N := 8) (args := [Value.int .i64 a0, Value.pointer (some q0)]) Tryz.func236 rfl rfl rfl ?_
  refine FW.seq ?_
  refine FW.region ?_
  refine FL.val rfl rfl rfl (E.assign (v := Value.bool false) rfl) ?_
  refine FL.nil ?_
  refine FW.seq ?_
  refine FW.region ?_
  refine FL.val rfl rfl rfl (E.load rfl (run_load0 Tryz.isAgg61 (c0.now S0.sl) rfl)) ?_
  refine FL.val rfl rfl rfl (E.move (v := Value.int .i64 a0) rfl) ?_
  obtain ⟨r21, hr22, hp⟩ := bnd hp
  refine FL.call rfl rfl rfl (E.call Tryz.call171 (A2 rfl rfl)) (w_slices_Contains_int_int S0.sl u0_0 b0 g0_0 a0 hr22) ?_
  rintro e w23 ⟨rfl, r24⟩
  refine ⟨_, rfl, ?_⟩
  have S25 := S0.call r24
  refine FL.val rfl rfl rfl (E.not rfl) ?_
  refine FL.val rfl rfl rfl (E.assign (v := Value.bool (!r21)) rfl) ?_
  refine FL.nil ?_
  refine FW.ret ?_
  obtain rfl := Option.some.inj hp
  exact ⟨.inr rfl, res1 rfl rfl ⟨rfl, S25.back⟩⟩

theorem w_impl_part {Ha : GH} {wa : World} (hs : Sl Ha wa) (v0 : Value) (a0 : List Int) (p0 : RSl Ha eI 1 v0 a0) (v1 : Value) (a1 : List Int) (p1 : RSl Ha eI 1 v1 a1) {r : Bool} (hp : (PF.impl_part a0 a1) = some r) :
    Calls Tryz.prog 227 #[v0, v1] wa (Sc Ha wa (Value.bool r)) := by
  unfold PF.impl_part at hp
  have S0 := St.init hs
  refine calls_go (N := 9) (args := [v0, v1]) Tryz.func227 rfl rfl rfl ?_
  refine FW.seq ?_
  refine FW.region ?_
  obtain ⟨b21, w22, run23, S24⟩ := S0.box (P := Tryz.prog) 61 [v1] (v := v1) p1.cells (ones_cons p1.one ones_nil)
  refine FL.val rfl rfl rfl (E.box rfl run23) ?_
  obtain ⟨H25, S26, i27, at28⟩ := S24.sealBox (i := 0) (l' := []) rfl rfl
  refine FL.val rfl rfl rfl (E.assign (v := Value.bool false) rfl) ?_
  refine FL.nil ?_
  refine FW.seq ?_
  refine FW.region ?_
  refine FL.val rfl rfl rfl (E.move (v := v0) rfl) ?_
  refine FL.val rfl rfl rfl (E.makeFunc A0 (A1 rfl)) ?_
  obtain ⟨r29, hr30, hp⟩ := bnd hp
  refine FL.call rfl rfl rfl (E.call Tryz.call105 (A2 rfl rfl)) (w_slices_ContainsFunc_int_int S26.sl v0 a0 (p0.mono i27) (Value.func (.func 236) #[] #[Value.pointer (some ⟨b21, 0, none⟩)]) (fun x0 => PF.impl_part_1 x0 a1) (fun H2 w2 hi2 hs2 x0 r hr => ⟨236, #[Value.pointer (some ⟨b21, 0, none⟩)], rfl, Tryz.call236, w_impl_part_1 hs2 x0 ⟨b21, 0, none⟩ a1 v1 ((p1.mono i27).mono hi2) (at28.mono hi2) hr⟩) hr30) ?_
  rintro e w31 ⟨rfl, r32⟩
  refine ⟨_, rfl, ?_⟩
  have S33 := S26.call r32
  refine FL.val rfl rfl rfl (E.not rfl) ?_
  refine FL.val rfl rfl rfl (E.assign (v := Value.bool (!r29)) rfl) ?_
  refine FL.nil ?_
  refine FW.ret ?_
  obtain rfl := Option.some.inj hp
  exact ⟨.inr rfl, res1 rfl rfl ⟨rfl, S33.back⟩⟩

theorem w_impl_isVar {Ha : GH} {wa : World} (hs : Sl Ha wa) (a0 : Int) (a1 : Int) :
    Calls Tryz.prog 147 #[Value.int .i64 a0, Value.int .i64 a1] wa (Sc Ha wa (Value.bool (PF.impl_isVar a0 a1))) := by
  obtain ⟨r, hp⟩ : ∃ r, (PF.impl_isVar a0 a1) = r := ⟨_, rfl⟩
  rw [hp]
  unfold PF.impl_isVar at hp
  have S0 := St.init hs
  refine calls_go (N := 8) (args := [Value.int .i64 a0, Value.int .i64 a1]) Tryz.func147 rfl rfl rfl ?_
  refine FW.seq ?_
  refine FW.region ?_
  refine FL.val rfl rfl rfl (E.assign (v := Value.bool false) rfl) ?_
  refine FL.nil ?_
  refine FW.seq ?_
  refine FW.region ?_
  refine FL.val rfl rfl rfl (E.move (v := Value.int .i64 a1) rfl) ?_
  refine FL.val rfl rfl rfl (E.move (v := Value.int .i64 a0) rfl) ?_
  refine FL.call rfl rfl rfl (E.call Tryz.call111 (A3 rfl rfl rfl)) (w_impl_within S0.sl a1 1 a0) ?_
  rintro e w21 ⟨rfl, r22⟩
  refine ⟨_, rfl, ?_⟩
  have S23 := S0.call r22
  refine FL.val rfl rfl rfl (E.assign (v := Value.bool (PF.impl_within a1 1 a0)) rfl) ?_
  refine FL.nil ?_
  refine FW.ret ?_
  obtain rfl := hp
  exact ⟨.inr rfl, res1 rfl rfl ⟨rfl, S23.back⟩⟩

@[reducible] def p_slices_Clone_int_int (Ha : GH) (wa : World) (r : (List Int)) : Ending → World → Prop :=
  fun e w' => ∃ H' : GH, ∃ v0 : Value, ∃ n0 : Nat, ∃ c0 : List Value, e = .returned (v0) ∧ St Ha wa H' w' [.row 3 1 v0 n0 c0] ∧ Els (up wa.heap.size H') eI 1 c0 r
theorem w_slices_Clone_int_int {Ha : GH} {wa : World} (hs : Sl Ha wa) (v0 : Value) (a0 : List Int) (p0 : RSl Ha eI 1 v0 a0) {r : (List Int)} (hp : (PF.slices_Clone_int_int a0) = some r) :
    Calls Tryz.prog 87 #[v0] wa (p_slices_Clone_int_int Ha wa r) := by
  unfold PF.slices_Clone_int_int at hp
  have S0 := St.init hs
  refine calls_go (N := 8) (args := [v0]) Tryz.func87 rfl rfl rfl ?_
  refine FW.seq ?_
  refine FW.region ?_
  refine FL.val rfl rfl rfl (E.assign (v := Value.slice none 0 0) rfl) ?_
  refine FL.nil ?_
  refine FW.seq ?_
  refine FW.seq ?_
  refine FW.region ?_
  refine FL.val rfl rfl rfl (E.move (v := v0) rfl) ?_
  obtain ⟨nb21, run22, hn23⟩ := RSl.nilTest te61 p0
  refine FL.val rfl rfl rfl (run22 _ _ _ _ _ _ _ _ _ _ _ _ rfl rfl) ?_
  refine FL.nil ?_
  rcases bcase nb21 with c24 | c24
  ·
    refine FW.condT (b := nb21) rfl c24 ?_
    rw [hn23 c24, app_nil2] at hp
    refine FW.seq ?_
    refine FW.region ?_
    refine FL.val rfl rfl rfl (E.assign (v := Value.slice none 0 0) rfl) ?_
    refine FL.nil ?_
    refine FW.ret ?_
    obtain rfl := Option.some.inj hp
    exact ⟨.inr rfl, res1 rfl rfl ⟨_, _, _, _, rfl, (S0.nil 3 1), Els.nil⟩⟩
  ·
    refine FW.condF (b := nb21) rfl c24 ?_
    refine FW.skip ?_
    refine FW.seq ?_
    refine FW.region ?_
    obtain ⟨v25, w26, run27, S28⟩ := S0.buildSlice (P := Tryz.prog) te61 [] (parts := #[]) (cells := []) rfl szs_nil fc_nil ones_nil (Nat.le_of_ble_eq_true rfl)
    have els29 : Els (up wa.heap.size Ha) eI 1 [] [] := Els.nil
    refine FL.val rfl rfl rfl (E.buildSlice (B0) run27) ?_
    refine FL.val rfl rfl rfl (E.move (v := v0) rfl) ?_
    obtain ⟨xs30, hz31, hp⟩ := bnd hp
    obtain ⟨v32, w35, n33, cs34, run36, S37, els38⟩ := S28.appendP (P := Tryz.prog) (Inc.rfl _) te61 (i := 0) rfl (els29.mono upI) p0 hz31
    have S37 : St Ha wa Ha w35 [.row 3 1 v32 n33 cs34] := S37
    have els38 : Els (up wa.heap.size Ha) eI 1 cs34 xs30 := els38.any (fun _ _ _ _ h => h)
    refine FL.val rfl rfl rfl (E.append rfl rfl run36) ?_
    refine FL.val rfl rfl rfl (E.assign (v := v32) rfl) ?_
    refine FL.nil ?_
    refine FW.ret ?_
    obtain rfl := Option.some.inj hp
    exact ⟨.inr rfl, res1 rfl rfl ⟨_, _, _, _, rfl, S37, els38⟩⟩

@[reducible] def p_slices_DeleteFunc_int_int (H0 : GH) (w0 : World) (Ha : GH) (L : List MO) (r : (List Int)) : Ending → World → Prop :=
  fun e w' => ∃ H' : GH, ∃ v0r : Value, ∃ n0r : Nat, ∃ c0r : List Value, e = .returned (v0r) ∧ (St H0 w0 H' w' (.row 3 1 v0r n0r c0r :: L) ∧ Inc Ha H') ∧ Els (up w0.heap.size H') eI 1 c0r r
theorem w_slices_DeleteFunc_int_int {H0 Ha : GH} {w0 wa : World} {L : List MO} {v0 : Value} {n0 : Nat} {k0 : List Value} (S0 : St H0 w0 Ha wa (.row 3 1 v0 n0 k0 :: L)) (a0 : List Int) (p0 : Els (up w0.heap.size Ha) eI 1 k0 a0) (v1 : Value) (a1 : Int → Option Bool) (p1 : Fn_I_to_B Tryz.prog Ha v1 a1) {r : (List Int)} (hp : (PF.slices_DeleteFunc_int_int a0 a1) = some r) :
    Calls Tryz.prog 223 #[v0, v1] wa (p_slices_DeleteFunc_int_int H0 w0 Ha L r) := by
  unfold PF.slices_DeleteFunc_int_int at hp
  refine calls_go (N := 42) (args := [v0, v1]) Tryz.func223 rfl rfl rfl ?_
  refine FW.seq ?_
  refine FW.region ?_
  refine FL.val rfl rfl rfl (E.assign (v := Value.slice none 0 0) rfl) ?_
  refine FL.nil ?_
  refine FW.seq ?_
  refine FW.region ?_
  refine FL.val rfl rfl rfl (E.move (v := v0) rfl) ?_
  refine FL.val rfl rfl rfl (E.move (v := v1) rfl) ?_
  obtain ⟨H21, S22, i23, h24, nv25⟩ := S0.sealRowU (i := 0) (l' := L) rfl p0 (by decide) rfl
  obtain ⟨r26, hr27, hp⟩ := bnd hp
  refine FL.call rfl rfl rfl (E.call Tryz.call157 (A2 rfl rfl)) (w_slices_IndexFunc_int_int S22.sl v0 a0 (h24.mono upI) v1 a1 (p1.mono i23) hr27) ?_
  rintro e w28 ⟨rfl, r29⟩
  refine ⟨_, rfl, ?_⟩
  have r29 := Run.lend i23 S0.sl r29
  have S30 := S0.call r29
  refine FL.val rfl rfl rfl (E.assign (v := Value.int .i64 r26) rfl) ?_
  refine FL.nil ?_
  refine FW.seq ?_
  refine FW.seq ?_
  refine FW.region ?_
  refine FL.val rfl rfl rfl (E.move (v := Value.int .i64 r26) rfl) ?_
  refine FL.val rfl rfl rfl (E.eql rfl rfl) ?_
  refine FL.nil ?_
  rcases ifB hp with ⟨c31, hp⟩ | ⟨c31, hp⟩
  ·
    refine FW.condT rfl c31 ?_
    refine FW.seq ?_
    refine FW.region ?_
    refine FL.val rfl rfl rfl (E.move (v := v0) rfl) ?_
    refine FL.val rfl rfl rfl (E.assign (v := v0) rfl) ?_
    refine FL.nil ?_
    refine FW.ret ?_
    obtain rfl := Option.some.inj hp
    exact ⟨.inr rfl, res1 rfl rfl ⟨_, _, _, _, rfl, ⟨S30, (Inc.rfl _)⟩, p0⟩⟩
  ·
    refine FW.condF rfl c31 ?_
    refine FW.skip ?_
    refine FW.seq ?_
    refine FW.seq ?_
    refine FW.region ?_
    refine FL.val rfl rfl rfl (E.move (v := Value.int .i64 r26) rfl) ?_
    refine FL.val rfl rfl rfl (E.add rfl rfl) ?_
    refine FL.val rfl rfl rfl (E.assign (v := Value.int .i64 (wr (r26 + 1))) rfl) ?_
    refine FL.nil ?_
    obtain ⟨q32, hq, hp⟩ := bndR hp
    refine FW.block ?_
    refine FW.mono (FW.iter (S := ((List Int) × Int × Int)) (X := Empty) (fun (s32 : ((List Int) × Int × Int)) f w => ∃ H : GH, ∃ v78 : Value, ∃ n79 : Nat, ∃ cs80 : List Value, St H0 w0 H w (.row 3 1 v78 n79 cs80 :: L) ∧ Inc Ha H ∧ Els (up w0.heap.size H) eI 1 cs80 s32.1 ∧ f 0 = v78 ∧ f 1 = v1 ∧ f 5 = Value.int .i64 s32.2.1 ∧ f 6 = Value.int .i64 s32.2.2) (fun (q : Rs ((List Int) × Int × Int) Empty) e f w => match q with | .go s32 => e = Exit.exit 0 ∧ (∃ H : GH, ∃ v78 : Value, ∃ n79 : Nat, ∃ cs80 : List Value, St H0 w0 H w (.row 3 1 v78 n79 cs80 :: L) ∧ Inc Ha H ∧ Els (up w0.heap.size H) eI 1 cs80 s32.1 ∧ f 0 = v78 ∧ f 5 = Value.int .i64 s32.2.1) | .rt x => x.elim) hq ⟨_, _, _, _, S30, (Inc.rfl _), p0, rfl, rfl, rfl, rfl⟩ ?_) ?_
    ·
      clear hp hq
      rintro s32 f131 w130 ⟨H127, v78, n79, cs80, S128, i129, els81, k132, k133, k134, k135⟩ o172 hp
      refine FW.seq ?_
      refine FW.seq ?_
      refine FW.region ?_
      refine FL.val rfl rfl rfl (E.move k135) ?_
      refine FL.val rfl rfl rfl (E.move k132) ?_
      refine FL.val rfl rfl rfl (E.lenO te61 rfl S128 (i := 0) rfl els81 (by decide)) ?_
      refine FL.val rfl rfl rfl (E.lss rfl rfl) ?_
      refine FL.nil ?_
      rcases ifB hp with ⟨c136, hp⟩ | ⟨c136, hp⟩
      ·
        refine FW.condT rfl c136 ?_
        refine FW.skip ?_
        refine FW.seq ?_
        refine FW.block ?_
        refine FW.seq ?_
        refine FW.region ?_
        refine FL.val rfl rfl rfl (E.move k132) ?_
        refine FL.val rfl rfl rfl (E.move k135) ?_
        obtain ⟨x143, hx144, hp⟩ := bnd hp
        obtain ⟨p137, cs138, pt139, l140, at141, rel142⟩ := S128.row_at (i := 0) rfl els81 (by decide) hx144
        obtain rfl := eI_open rel142
        refine FL.val rfl rfl rfl (E.indexAddr te61 rfl rfl pt139) ?_
        refine FL.val rfl rfl rfl (E.load rfl (run_load0 Tryz.isAgg3 at141 rfl)) ?_
        refine FL.val rfl rfl rfl (E.assign (v := Value.int .i64 x143) rfl) ?_
        refine FL.nil ?_
        refine FW.seq ?_
        refine FW.region ?_
        refine FL.val rfl rfl rfl (E.move k133) ?_
        refine FL.val rfl rfl rfl (E.move (v := Value.int .i64 x143) rfl) ?_
        obtain ⟨r145, hr146, hp⟩ := bnd hp
        obtain ⟨fi150, cs151, hv152, he153, hc154⟩ := (p1.mono i129) H127 w130 (Inc.rfl _) S128.sl x143 r145 hr146
        refine FL.call rfl rfl rfl (E.callV he153 (Eq.trans rfl hv152) (appA (A1 rfl) cs151)) hc154 ?_
        rintro e w147 ⟨rfl, r148⟩
        refine ⟨_, rfl, ?_⟩
        have S149 := S128.call r148
        refine FL.val rfl rfl rfl (E.not rfl) ?_
        refine FL.nil ?_
        rcases ifB hp with ⟨c155, hp⟩ | ⟨c155, hp⟩
        ·
          refine FW.condT rfl c155 ?_
          refine FW.seq ?_
          refine FW.region ?_
          refine FL.val rfl rfl rfl (E.move k132) ?_
          refine FL.val rfl rfl rfl (E.move k134) ?_
          refine FL.val rfl rfl rfl (E.move (v := Value.int .i64 x143) rfl) ?_
          obtain ⟨x162, hx163, hp⟩ := bnd hp
          obtain ⟨p156, cs157, pt158, l159, at160, rel161⟩ := S149.row_at (i := 0) rfl els81 (by decide) hx163
          obtain rfl := eI_open rel161
          refine FL.val rfl rfl rfl (E.indexAddr te61 rfl rfl pt158) ?_
          obtain ⟨xs167, hput168, hp⟩ := bnd hp
          obtain ⟨w164, cs170, run165, S166, els169, ce171⟩ := S149.putEls (P := Tryz.prog) (t := 3) (i := 0) rfl els81 hput168 pt158 Tryz.sizeOf3 (u := Value.int .i64 x143) (c := [Value.int .i64 x143]) rfl rfl (ones_cons rfl ones_nil) rfl
          have S166 : St H0 w0 H127 w164 (.row 3 1 v78 n79 cs170 :: L) := S166
          refine FL.act rfl rfl (E.store rfl rfl run165) ?_
          refine FL.nil ?_
          refine FW.region ?_
          refine FL.val rfl rfl rfl (E.move k134) ?_
          refine FL.val rfl rfl rfl (E.add rfl rfl) ?_
          refine FL.val rfl rfl rfl (E.assign (v := Value.int .i64 (wr (s32.2.1 + 1))) rfl) ?_
          refine FL.nil ?_
          refine FW.region ?_
          refine FL.val rfl rfl rfl (E.move k135) ?_
          refine FL.val rfl rfl rfl (E.add rfl rfl) ?_
          refine FL.val rfl rfl rfl (E.assign (v := Value.int .i64 (wr (s32.2.2 + 1))) rfl) ?_
          refine FL.nil ?_
          obtain rfl := Option.some.inj hp
          exact ⟨rfl, ⟨_, _, _, _, S166, i129, els169, k132, k133, rfl, rfl⟩⟩
        ·
          refine FW.condF rfl c155 ?_
          refine FW.skip ?_
          refine FW.region ?_
          refine FL.val rfl rfl rfl (E.move k135) ?_
          refine FL.val rfl rfl rfl (E.add rfl rfl) ?_
          refine FL.val rfl rfl rfl (E.assign (v := Value.int .i64 (wr (s32.2.2 + 1))) rfl) ?_
          refine FL.nil ?_
          obtain rfl := Option.some.inj hp
          exact ⟨rfl, ⟨_, _, _, _, S149, i129, els81, k132, k133, k134, rfl⟩⟩
      ·
        refine FW.condF rfl c136 ?_
        refine FW.exit ?_
        obtain rfl := Option.some.inj hp
        exact ⟨nofun, rfl, ⟨_, _, _, _, S128, i129, els81, k132, k134⟩⟩
    ·
      clear hq
      intro e f177 w176 hD
      rcases q32 with s32 | x32
      ·
        obtain ⟨rfl, hD⟩ := hD
        obtain ⟨H173, v78, n79, cs80, S174, i175, els81, k178, k179⟩ := hD
        replace hp := el_go hp
        refine FW.seq ?_
        refine FW.region ?_
        refine FL.val rfl rfl rfl (E.move k178) ?_
        refine FL.val rfl rfl rfl (E.move k179) ?_
        obtain ⟨xs180, hc181, hp⟩ := bnd hp
        obtain ⟨v182, run183, h184⟩ := S174.tail te61 (kk := .i64) (i := 0) rfl els81 hc181
        refine FL.val rfl rfl rfl (E.slice te61 rfl (congrArg some rfl) rfl rfl (run183 _)) ?_
        obtain ⟨w185, cs186, run187, S188, els189⟩ := S174.clearTail (P := Tryz.prog) te61 (i := 0) rfl els81 h184 rfl (ones_cons rfl ones_nil)
        have S188 : St H0 w0 H173 w185 (.row 3 1 v78 n79 cs186 :: L) := S188
        refine FL.val0 rfl rfl (E.clear rfl run187) ?_
        refine FL.nil ?_
        refine FW.seq ?_
        refine FW.region ?_
        refine FL.val rfl rfl rfl (E.move k178) ?_
        refine FL.val rfl rfl rfl (E.move k179) ?_
        obtain ⟨xs190, hc191, hp⟩ := bnd hp
        obtain ⟨v192, n193, cs194, run195, S196, els197⟩ := S188.cutRow te61 (kk := .i64) (i := 0) rfl els189 hc191
        have S196 : St H0 w0 H173 w185 (.row 3 1 v192 n193 cs194 :: L) := S196
        refine FL.val rfl rfl rfl (E.slice te61 rfl rfl (congrArg some rfl) rfl (run195 _)) ?_
        refine FL.val rfl rfl rfl (E.assign (v := v192) rfl) ?_
        refine FL.nil ?_
        refine FW.ret ?_
        obtain rfl := Option.some.inj hp
        exact ⟨.inr rfl, res1 rfl rfl ⟨_, _, _, _, rfl, ⟨S196, i175⟩, els197⟩⟩
      · exact x32.elim

theorem w_impl_withoutVar_1 {Ha : GH} {wa : World} (hs : Sl Ha wa) (a0 : Int) (q0 : Addr) (b0 : Int) (c0 : CAt Ha q0 [Value.int .i64 b0]) :
    Calls Tryz.prog 224 #[Value.int .i64 a0, Value.pointer (some q0)] wa (Sc Ha wa (Value.bool (PF.impl_withoutVar_1 a0 b0))) := by
  obtain ⟨r, hp⟩ : ∃ r, (PF.impl_withoutVar_1 a0 b0) = r := ⟨_, rfl⟩
  rw [hp]
  unfold PF.impl_withoutVar_1 at hp
  have S0 := St.init hs
  refine calls_go (N := 8) (args := [Value.int .i64 a0, Value.pointer (some q0)]) Tryz.func224 rfl rfl rfl ?_
  refine FW.seq ?_
  refine FW.region ?_
  refine FL.val rfl rfl rfl (E.assign (v := Value.bool false) rfl) ?_
  refine FL.nil ?_
  refine FW.seq ?_
  refine FW.draw (fun w' => Run wa.heap.size Ha wa Ha w') (by kernel_rfl) (by kernel_rfl) (run_drew S0.sl) ?_
  refine FD.val rfl rfl rfl (fun w' hw' => (E.move (v := Value.int .i64 a0) rfl)) ?_
  refine FD.call rfl rfl rfl (fun w' hw' => (E.call Tryz.call190 (A1 rfl))) (fun w' hw' => Calls.cls hw' (w_impl_abs (S0.call hw').sl a0)) ?_
  refine FD.val rfl rfl rfl (fun w' hw' => (E.load rfl (run_load0 Tryz.isAgg3 (c0.now (S0.call hw').sl) rfl))) ?_
  refine FD.val rfl rfl rfl (fun w' hw' => (E.eql rfl rfl)) ?_
  refine FD.val rfl rfl rfl (fun w' hw' => (E.assign (v := Value.bool ((PF.impl_abs a0) == b0)) rfl)) ?_
  refine FD.nil ?_
  intro w22 r24
  have S23 := S0.call r24
  refine FW.ret ?_
  obtain rfl := hp
  exact ⟨.inr rfl, res1 rfl rfl ⟨rfl, S23.back⟩⟩

@[reducible] def p_impl_withoutVar (Ha : GH) (wa : World) (r : (List Int)) : Ending → World → Prop :=
  fun e w' => ∃ H' : GH, ∃ v0 : Value, ∃ n0 : Nat, ∃ c0 : List Value, e = .returned (v0) ∧ St Ha wa H' w' [.row 3 1 v0 n0 c0] ∧ Els (up wa.heap.size H') eI 1 c0 r
theorem w_impl_withoutVar {Ha : GH} {wa : World} (hs : Sl Ha wa) (v0 : Value) (a0 : List Int) (p0 : RSl Ha eI 1 v0 a0) (a1 : Int) {r : (List Int)} (hp : (PF.impl_withoutVar a0 a1) = some r) :
    Calls Tryz.prog 195 #[v0, Value.int .i64 a1] wa (p_impl_withoutVar Ha wa r) := by
  unfold PF.impl_withoutVar at hp
  have S0 := St.init hs
  refine calls_go (N := 9) (args := [v0, Value.int .i64 a1]) Tryz.func195 rfl rfl rfl ?_
  refine FW.seq ?_
  refine FW.region ?_
  obtain ⟨b21, w22, run23, S24⟩ := S0.box (P := Tryz.prog) 3 [Value.int .i64 a1] (v := Value.int .i64 a1) rfl (ones_cons rfl ones_nil)
  refine FL.val rfl rfl rfl (E.box rfl run23) ?_
  obtain ⟨H25, S26, i27, at28⟩ := S24.sealBox (i := 0) (l' := []) rfl rfl
  refine FL.val rfl rfl rfl (E.assign (v := Value.slice none 0 0) rfl) ?_
  refine FL.nil ?_
  refine FW.seq ?_
  refine FW.region ?_
  refine FL.val rfl rfl rfl (E.move (v := v0) rfl) ?_
  obtain ⟨r29, hr30, hp⟩ := bnd hp
  refine FL.call rfl rfl rfl (E.call Tryz.call87 (A1 rfl)) (w_slices_Clone_int_int S26.sl v0 a0 (p0.mono i27) hr30) ?_
  rintro e w32 ⟨H31, v35, n36, cs37, rfl, r34, els38⟩
  refine ⟨_, rfl, ?_⟩
  have els38 := els38.mono (up_le S26.size)
  have S33 := S26.join (l' := [.row 3 1 v35 n36 cs37]) r34 rfl
  refine FL.val rfl rfl rfl (E.makeFunc A0 (A1 rfl)) ?_
  obtain ⟨r39, hr40, hp⟩ := bnd hp
  refine FL.call rfl rfl rfl (E.call Tryz.call223 (A2 rfl rfl)) (w_slices_DeleteFunc_int_int (L := []) S33 r29 els38 (Value.func (.func 224) #[] #[Value.pointer (some ⟨b21, 0, none⟩)]) (fun x0 => some (PF.impl_withoutVar_1 x0 a1)) (fun H2 w2 hi2 hs2 x0 r hr => ⟨224, #[Value.pointer (some ⟨b21, 0, none⟩)], rfl, Tryz.call224, by cases hr; exact w_impl_withoutVar_1 hs2 x0 ⟨b21, 0, none⟩ a1 ((at28.mono r34.run.inc).mono hi2)⟩) hr40) ?_
  rintro e w42 ⟨H41, v45, n46, cs47, rfl, ⟨S43, i44⟩, els48⟩
  refine ⟨_, rfl, ?_⟩
  have S43 : St Ha wa H41 w42 [.row 3 1 v45 n46 cs47] := S43
  refine FL.val rfl rfl rfl (E.assign (v := v45) rfl) ?_
  refine FL.nil ?_
  refine FW.ret ?_
  obtain rfl := Option.some.inj hp
  exact ⟨.inr rfl, res1 rfl rfl ⟨_, _, _, _, rfl, S43, els48⟩⟩

@[reducible] def p_slices_Grow_int_int (Ha : GH) (wa : World) (r : List Int) : Ending → World → Prop :=
  fun e w' => ∃ H' : GH, ∃ v0 : Value, ∃ n0 : Nat, ∃ c0 : List Value, e = .returned (v0) ∧ St Ha wa H' w' [.row 3 1 v0 n0 c0] ∧ Els (up wa.heap.size H') eI 1 c0 r
theorem w_slices_Grow_int_int {Ha : GH} {wa : World} (hs : Sl Ha wa) (a1 : Int) {r : List Int} (hp : PF.slices_Grow_int_int a1 = some r) :
    Calls Tryz.prog 158 #[.slice none 0 0, .int .i64 a1] wa (p_slices_Grow_int_int Ha wa r) := by
  unfold PF.slices_Grow_int_int at hp
  split at hp
  · rename_i h
    cases hp
    refine (growNil (En := eI) te61 hs h.1 h.2 (fun w => Any8.slices_Grow_room (P := Tryz.prog) Tryz.grow158 none 0 0 0 w (Nat.le_refl _) (by decide) (by decide) (by decide))
      (fun n w h0 hl => ?_)).mono ?_
    · have h := Any8.slices_Grow_grow (P := Tryz.prog) Tryz.grow158 _ _ Tryz.type3 rfl (by decide) none 0 0 n [] w (Nat.le_refl _) (by omega) ?_ (by unfold lim at hl; omega) (by simp) (fun _ => rfl) (by simp)
      · refine h.mono ?_
        rintro _ _ ⟨rfl, rfl⟩
        refine ⟨by simp; rfl, ?_⟩
        simp
        rfl
      · rw [Nat.zero_add]; refine Nat.le_trans (Nat.mul_le_mul hl (show _ ≤ 4096 by decide)) (by decide)
    · rintro e w' ⟨v, n, c, rfl, h1, h2⟩
      exact ⟨_, _, _, _, rfl, h1, h2 _⟩
  · cases hp

@[reducible] def p_slices_Concat_int_int (Ha : GH) (wa : World) (r : (List Int)) : Ending → World → Prop :=
  fun e w' => ∃ H' : GH, ∃ v0 : Value, ∃ n0 : Nat, ∃ c0 : List Value, e = .returned (v0) ∧ St Ha wa H' w' [.row 3 1 v0 n0 c0] ∧ Els (up wa.heap.size H') eI 1 c0 r
theorem w_slices_Concat_int_int {Ha : GH} {wa : World} (hs : Sl Ha wa) (v0 : Value) (a0 : List (List Int)) (p0 : RSl Ha (eL eI 1) 1 v0 a0) {r : (List Int)} (hp : (PF.slices_Concat_int_int a0) = some r) :
    Calls Tryz.prog 106 #[v0] wa (p_slices_Concat_int_int Ha wa r) := by
  unfold PF.slices_Concat_int_int at hp
  have S0 := St.init hs
  refine calls_go (N := 36) (args := [v0]) Tryz.func106 rfl rfl rfl ?_
  refine FW.seq ?_
  refine FW.region ?_
  refine FL.val rfl rfl rfl (E.assign (v := Value.slice none 0 0) rfl) ?_
  refine FL.nil ?_
  refine FW.seq ?_
  refine FW.region ?_
  refine FL.val rfl rfl rfl (E.assign (v := Value.int .i64 0) rfl) ?_
  refine FL.nil ?_
  refine FW.seq ?_
  refine FW.seq ?_
  refine FW.region ?_
  refine FL.val rfl rfl rfl (E.move (v := v0) rfl) ?_
  refine FL.val rfl rfl rfl (E.lenP te22 rfl p0) ?_
  refine FL.val rfl rfl rfl (E.move (v := Value.int .i64 0) rfl) ?_
  refine FL.nil ?_
  obtain ⟨q22, hq, hp⟩ := bndR hp
  refine FW.block ?_
  refine FW.mono (FW.forL (S := Int) (X := Empty) (fun (i22 : Nat) (s22 : Int) f w => ∃ H : GH, St Ha wa H w [] ∧ Inc Ha H ∧ f 11 = Value.int .i64 ((i22 : Nat) : Int) ∧ f 0 = v0 ∧ f 3 = Value.int .i64 s22 ∧ f 9 = v0 ∧ f 10 = Value.int .i64 (len a0)) (fun (q : Rs Int Empty) e f w => match q with | .go s22 => e = Exit.exit 0 ∧ (∃ H : GH, St Ha wa H w [] ∧ Inc Ha H ∧ f 0 = v0 ∧ f 3 = Value.int .i64 s22) | .rt x => x.elim) hq ⟨_, S0, (Inc.rfl _), rfl, rfl, rfl, rfl, rfl⟩ ?_ ?_) ?_
  ·
    clear hp hq
    rintro i22 y21 s22 f46 w45 ⟨H42, S43, i44, k47, k48, k49, k50, k51⟩ hx22 o61 hp
    refine FW.seq ?_
    refine FW.region ?_
    refine FL.val rfl rfl rfl (E.lssT k47 k51 (lss_len hx22)) ?_
    refine FL.nil ?_
    refine FW.seq ?_
    refine FW.condT rfl rfl ?_
    refine FW.skip ?_
    refine FW.seq ?_
    refine FW.block ?_
    refine FW.seq ?_
    refine FW.region ?_
    obtain ⟨p52, cs53, pt54, l55, at56, rel57⟩ := p0.at (ix_nat hx22)
    obtain ⟨v58, rfl, h59⟩ := eL_open rel57
    refine FL.val rfl rfl rfl (E.indexAddr te22 k50 k47 pt54) ?_
    refine FL.val rfl rfl rfl (E.load rfl (run_load0 Tryz.isAgg61 ((at56.mono i44).now S43.sl) rfl)) ?_
    refine FL.val rfl rfl rfl (E.assign (v := v58) rfl) ?_
    refine FL.nil ?_
    refine FW.seq ?_
    refine FW.region ?_
    refine FL.val rfl rfl rfl (E.move k49) ?_
    refine FL.val rfl rfl rfl (E.move (v := v58) rfl) ?_
    refine FL.val rfl rfl rfl (E.lenP te61 rfl h59) ?_
    refine FL.val rfl rfl rfl (E.add rfl rfl) ?_
    refine FL.val rfl rfl rfl (E.assign (v := Value.int .i64 (wr (s22 + (len y21)))) rfl) ?_
    refine FL.nil ?_
    refine FW.seq ?_
    refine FW.region ?_
    refine FL.val rfl rfl rfl (E.move (v := Value.int .i64 (wr (s22 + (len y21)))) rfl) ?_
    refine FL.val rfl rfl rfl (E.lss rfl rfl) ?_
    refine FL.nil ?_
    rcases ifB hp with ⟨c60, hp⟩ | ⟨c60, hp⟩
    ·
      refine FW.condT rfl c60 ?_
      cases hp
    ·
      refine FW.condF rfl c60 ?_
      refine FW.skip ?_
      refine FW.region ?_
      refine FL.val rfl rfl rfl (E.add k47 rfl) ?_
      refine FL.val rfl rfl rfl (E.move (v := Value.int .i64 (wr (((i22 : Nat) : Int) + 1))) rfl) ?_
      refine FL.nil ?_
      obtain rfl := Option.some.inj hp
      exact ⟨rfl, ⟨_, S43, i44, (nat_succ rfl (lt_of_get hx22) (p0.mono i44).le), k48, rfl, k50, k51⟩⟩
  ·
    clear hp hq
    rintro s22 f159 w158 ⟨H155, S156, i157, k160, k161, k162, k163, k164⟩
    refine FW.seq ?_
    refine FW.region ?_
    refine FL.val rfl rfl rfl (E.lss k160 k164) ?_
    refine FL.nil ?_
    refine FW.seq ?_
    refine FW.condF rfl dlt_len ?_
    refine FW.exit ?_
    exact ⟨nofun, rfl, ⟨_, S156, i157, k161, k162⟩⟩
  ·
    clear hq
    intro e f66 w65 hD
    rcases q22 with s22 | x22
    ·
      obtain ⟨rfl, hD⟩ := hD
      obtain ⟨H62, S63, i64, k67, k68⟩ := hD
      replace hp := el_go hp
      refine FW.seq ?_
      refine FW.region ?_
      refine FL.val rfl rfl rfl (E.move k68) ?_
      obtain ⟨r69, hr70, hp⟩ := bnd hp
      refine FL.call rfl rfl rfl (E.call Tryz.call158 (A2 rfl rfl)) (w_slices_Grow_int_int S63.sl s22 hr70) ?_
      rintro e w72 ⟨H71, v75, n76, cs77, rfl, r74, els78⟩
      refine ⟨_, rfl, ?_⟩
      have els78 := els78.mono (up_le S63.size)
      have S73 := S63.join (l' := [.row 3 1 v75 n76 cs77]) r74 rfl
      refine FL.val rfl rfl rfl (E.assign (v := v75) rfl) ?_
      refine FL.nil ?_
      refine FW.seq ?_
      refine FW.seq ?_
      refine FW.region ?_
      refine FL.val rfl rfl rfl (E.move k67) ?_
      refine FL.val rfl rfl rfl (E.lenP te22 rfl p0) ?_
      refine FL.val rfl rfl rfl (E.move (v := Value.int .i64 0) rfl) ?_
      refine FL.nil ?_
      obtain ⟨q80, hq, hp⟩ := bndR hp
      refine FW.block ?_
      refine FW.mono (FW.forL (S := (List Int)) (X := Empty) (fun (i80 : Nat) (s80 : (List Int)) f w => ∃ H : GH, ∃ v81 : Value, ∃ n82 : Nat, ∃ cs83 : List Value, St Ha wa H w [.row 3 1 v81 n82 cs83] ∧ Inc H71 H ∧ Els (up wa.heap.size H) eI 1 cs83 s80 ∧ f 27 = Value.int .i64 ((i80 : Nat) : Int) ∧ f 6 = v81 ∧ f 25 = v0 ∧ f 26 = Value.int .i64 (len a0)) (fun (q : Rs (List Int) Empty) e f w => match q with | .go s80 => e = Exit.exit 2 ∧ (∃ H : GH, ∃ v81 : Value, ∃ n82 : Nat, ∃ cs83 : List Value, St Ha wa H w [.row 3 1 v81 n82 cs83] ∧ Inc H71 H ∧ Els (up wa.heap.size H) eI 1 cs83 s80 ∧ f 6 = v81) | .rt x => x.elim) hq ⟨_, _, _, _, S73, (Inc.rfl _), els78, rfl, rfl, rfl, rfl⟩ ?_ ?_) ?_
      ·
        clear hp hq
        rintro i80 y79 s80 f116 w115 ⟨H112, v81, n82, cs83, S113, i114, els84, k117, k118, k119, k120⟩ hx80 o139 hp
        refine FW.seq ?_
        refine FW.region ?_
        refine FL.val rfl rfl rfl (E.lssT k117 k120 (lss_len hx80)) ?_
        refine FL.nil ?_
        refine FW.seq ?_
        refine FW.condT rfl rfl ?_
        refine FW.skip ?_
        refine FW.seq ?_
        refine FW.block ?_
        refine FW.seq ?_
        refine FW.region ?_
        obtain ⟨p121, cs122, pt123, l124, at125, rel126⟩ := p0.at (ix_nat hx80)
        obtain ⟨v127, rfl, h128⟩ := eL_open rel126
        refine FL.val rfl rfl rfl (E.indexAddr te22 k119 k117 pt123) ?_
        refine FL.val rfl rfl rfl (E.load rfl (run_load0 Tryz.isAgg61 ((at125.mono ((i64.tr r74.run.inc).tr i114)).now S113.sl) rfl)) ?_
        refine FL.val rfl rfl rfl (E.assign (v := v127) rfl) ?_
        refine FL.nil ?_
        refine FW.region ?_
        refine FL.val rfl rfl rfl (E.move k118) ?_
        refine FL.val rfl rfl rfl (E.move (v := v127) rfl) ?_
        obtain ⟨xs129, hz130, hp⟩ := bnd hp
        obtain ⟨v131, w134, n132, cs133, run135, S136, els137⟩ := S113.appendP (P := Tryz.prog) (Inc.rfl _) te61 (i := 0) rfl (els84.mono upI) (h128.mono ((i64.tr r74.run.inc).tr i114)) hz130
        have S136 : St Ha wa H112 w134 [.row 3 1 v131 n132 cs133] := S136
        have els137 : Els (up wa.heap.size H112) eI 1 cs133 xs129 := els137.any (fun _ _ _ _ h => h)
        refine FL.val rfl rfl rfl (E.append rfl rfl run135) ?_
        refine FL.val rfl rfl rfl (E.assign (v := v131) rfl) ?_
        refine FL.nil ?_
        refine FW.region ?_
        refine FL.val rfl rfl rfl (E.add k117 rfl) ?_
        refine FL.val rfl rfl rfl (E.move (v := Value.int .i64 (wr (((i80 : Nat) : Int) + 1))) rfl) ?_
        refine FL.nil ?_
        obtain rfl := Option.some.inj hp
        exact ⟨rfl, ⟨_, _, _, _, S136, i114, els137, (nat_succ rfl (lt_of_get hx80) (p0.mono ((i64.tr r74.run.inc).tr i114)).le), rfl, k119, k120⟩⟩
      ·
        clear hp hq
        rintro s80 f150 w149 ⟨H146, v81, n82, cs83, S147, i148, els84, k151, k152, k153, k154⟩
        refine FW.seq ?_
        refine FW.region ?_
        refine FL.val rfl rfl rfl (E.lss k151 k154) ?_
        refine FL.nil ?_
        refine FW.seq ?_
        refine FW.condF rfl dlt_len ?_
        refine FW.exit ?_
        exact ⟨nofun, rfl, ⟨_, _, _, _, S147, i148, els84, k152⟩⟩
      ·
        clear hq
        intro e f144 w143 hD
        rcases q80 with s80 | x80
        ·
          obtain ⟨rfl, hD⟩ := hD
          obtain ⟨H140, v81, n82, cs83, S141, i142, els84, k145⟩ := hD
          replace hp := el_go hp
          refine FW.seq ?_
          refine FW.region ?_
          refine FL.val rfl rfl rfl (E.move k145) ?_
          refine FL.val rfl rfl rfl (E.assign (v := v81) rfl) ?_
          refine FL.nil ?_
          refine FW.ret ?_
          obtain rfl := Option.some.inj hp
          exact ⟨.inr rfl, res1 rfl rfl ⟨_, _, _, _, rfl, S141, els84⟩⟩
        · exact x80.elim
    · exact x22.elim

@[reducible] def p_slices_SortFunc_int_int (H0 : GH) (w0 : World) (Ha : GH) (L : List MO) (v0 : Value) (n0 : Nat) (r : (List Int)) : Ending → World → Prop :=
  fun e w' => ∃ H' : GH, ∃ c0k : List Value, e = .returned (Value.tuple #[]) ∧ (St H0 w0 H' w' (.row 3 1 v0 n0 c0k :: L) ∧ Inc Ha H') ∧ Els (up w0.heap.size H') eI 1 c0k r
theorem w_slices_SortFunc_int_int {H0 Ha : GH} {w0 wa : World} {L : List MO} {v0 : Value} {n0 : Nat} {k0 : List Value} (S0 : St H0 w0 Ha wa (.row 3 1 v0 n0 k0 :: L)) (a0 : List Int) (p0 : Els (up w0.heap.size Ha) eI 1 k0 a0) (v1 : Value) (a1 : Int → Int → Option Int) (p1 : Fn_I_I_to_I Tryz.prog Ha v1 a1) {r : (List Int)} (hp : (PF.slices_SortFunc_int_int a0 a1) = some r) :
    Calls Tryz.prog 222 #[v0, v1] wa (p_slices_SortFunc_int_int H0 w0 Ha L v0 n0 r) := by
  refine (St.sortF (l := .row 3 1 v0 n0 k0 :: L) (i := 0) upI S0 rfl p0 (fun H2 w2 hi hs2 c x hc d y hd r hr => by cases eI_open hc; cases eI_open hd; exact p1 H2 w2 hi hs2 x y r hr) (fun p cap fv w => AnyF.slices_SortFunc_none (P := Tryz.prog) (ρ := Tryz.sort222_ren) { Tryz.sort222 with } p cap fv w) (fun α _ enc h1 cf hO g cb blk off cap d w eg hc hH hb hs => Any.slices_SortFunc Tryz.sort222 enc h1 cf hO g cb blk off cap d w eg hc hH hb hs) hp).mono ?_
  rintro e w' ⟨rfl, c', h1, h2⟩
  exact ⟨_, _, rfl, ⟨h1, Inc.rfl _⟩, h2⟩

theorem w_cmp_isNaN_int {Ha : GH} {wa : World} (hs : Sl Ha wa) (a0 : Int) :
    Calls Tryz.prog 189 #[Value.int .i64 a0] wa (Sc Ha wa (Value.bool (PF.cmp_isNaN_int a0))) := by
  obtain ⟨r, hp⟩ : ∃ r, (PF.cmp_isNaN_int a0) = r := ⟨_, rfl⟩
  rw [hp]
  unfold PF.cmp_isNaN_int at hp
  have S0 := St.init hs
  refine calls_go (N := 6) (args := [Value.int .i64 a0]) Tryz.func189 rfl rfl rfl ?_
  refine FW.seq ?_
  refine FW.region ?_
  refine FL.val rfl rfl rfl (E.assign (v := Value.bool false) rfl) ?_
  refine FL.nil ?_
  refine FW.seq ?_
  refine FW.region ?_
  refine FL.val rfl rfl rfl (E.move (v := Value.int .i64 a0) rfl) ?_
  refine FL.val rfl rfl rfl (E.move (v := Value.int .i64 a0) rfl) ?_
  refine FL.val rfl rfl rfl (E.neq rfl rfl) ?_
  refine FL.val rfl rfl rfl (E.assign (v := Value.bool (!(a0 == a0))) rfl) ?_
  refine FL.nil ?_
  refine FW.ret ?_
  obtain rfl := hp
  exact ⟨.inr rfl, res1 rfl rfl ⟨rfl, S0.back⟩⟩

theorem w_cmp_Compare_int {Ha : GH} {wa : World} (hs : Sl Ha wa) (a0 : Int) (a1 : Int) :
    Calls Tryz.prog 140 #[Value.int .i64 a0, Value.int .i64 a1] wa (Sc Ha wa (Value.int .i64 (PF.cmp_Compare_int a0 a1))) := by
  obtain ⟨r, hp⟩ : ∃ r, (PF.cmp_Compare_int a0 a1) = r := ⟨_, rfl⟩
  rw [hp]
  unfold PF.cmp_Compare_int at hp
  have S0 := St.init hs
  refine calls_go (N := 20) (args := [Value.int .i64 a0, Value.int .i64 a1]) Tryz.func140 rfl rfl rfl ?_
  refine FW.seq ?_
  refine FW.region ?_
  refine FL.val rfl rfl rfl (E.assign (v := Value.int .i64 0) rfl) ?_
  refine FL.nil ?_
  refine FW.seq ?_
  refine FW.region ?_
  refine FL.val rfl rfl rfl (E.move (v := Value.int .i64 a0) rfl) ?_
  refine FL.call rfl rfl rfl (E.call Tryz.call189 (A1 rfl)) (w_cmp_isNaN_int S0.sl a0) ?_
  rintro e w21 ⟨rfl, r22⟩
  refine ⟨_, rfl, ?_⟩
  have S23 := S0.call r22
  refine FL.val rfl rfl rfl (E.assign (v := Value.bool (PF.cmp_isNaN_int a0)) rfl) ?_
  refine FL.nil ?_
  refine FW.seq ?_
  refine FW.region ?_
  refine FL.val rfl rfl rfl (E.move (v := Value.int .i64 a1) rfl) ?_
  refine FL.call rfl rfl rfl (E.call Tryz.call189 (A1 rfl)) (w_cmp_isNaN_int S23.sl a1) ?_
  rintro e w24 ⟨rfl, r25⟩
  refine ⟨_, rfl, ?_⟩
  have S26 := S23.call r25
  refine FL.val rfl rfl rfl (E.assign (v := Value.bool (PF.cmp_isNaN_int a1)) rfl) ?_
  refine FL.nil ?_
  refine FW.seq ?_
  refine FW.seq ?_
  refine FW.region ?_
  refine FL.val rfl rfl rfl (E.move (v := Value.bool (PF.cmp_isNaN_int a0)) rfl) ?_
  refine FL.nil ?_
  rcases ifT hp with ⟨c27, hp⟩ | ⟨c27, hp⟩
  ·
    refine FW.condT rfl c27 ?_
    refine FW.seq ?_
    refine FW.seq ?_
    refine FW.region ?_
    refine FL.val rfl rfl rfl (E.move (v := Value.bool (PF.cmp_isNaN_int a1)) rfl) ?_
    refine FL.nil ?_
    rcases ifT hp with ⟨c28, hp⟩ | ⟨c28, hp⟩
    ·
      refine FW.condT rfl c28 ?_
      refine FW.seq ?_
      refine FW.region ?_
      refine FL.val rfl rfl rfl (E.assign (v := Value.int .i64 0) rfl) ?_
      refine FL.nil ?_
      refine FW.ret ?_
      obtain rfl := hp
      exact ⟨.inr rfl, res1 rfl rfl ⟨rfl, S26.back⟩⟩
    ·
      refine FW.condF rfl c28 ?_
      refine FW.skip ?_
      refine FW.seq ?_
      refine FW.region ?_
      refine FL.val rfl rfl rfl (E.assign (v := Value.int .i64 (-1)) rfl) ?_
      refine FL.nil ?_
      refine FW.ret ?_
      obtain rfl := hp
      exact ⟨.inr rfl, res1 rfl rfl ⟨rfl, S26.back⟩⟩
  ·
    refine FW.condF rfl c27 ?_
    refine FW.skip ?_
    refine FW.seq ?_
    refine FW.seq ?_
    refine FW.region ?_
    refine FL.val rfl rfl rfl (E.move (v := Value.bool (PF.cmp_isNaN_int a1)) rfl) ?_
    refine FL.nil ?_
    rcases ifT hp with ⟨c29, hp⟩ | ⟨c29, hp⟩
    ·
      refine FW.condT rfl c29 ?_
      refine FW.seq ?_
      refine FW.region ?_
      refine FL.val rfl rfl rfl (E.assign (v := Value.int .i64 1) rfl) ?_
      refine FL.nil ?_
      refine FW.ret ?_
      obtain rfl := hp
      exact ⟨.inr rfl, res1 rfl rfl ⟨rfl, S26.back⟩⟩
    ·
      refine FW.condF rfl c29 ?_
      refine FW.skip ?_
      refine FW.seq ?_
      refine FW.seq ?_
      refine FW.region ?_
      refine FL.val rfl rfl rfl (E.move (v := Value.int .i64 a0) rfl) ?_
      refine FL.val rfl rfl rfl (E.move (v := Value.int .i64 a1) rfl) ?_
      refine FL.val rfl rfl rfl (E.lss rfl rfl) ?_
      refine FL.nil ?_
      rcases ifT hp with ⟨c30, hp⟩ | ⟨c30, hp⟩
      ·
        refine FW.condT rfl c30 ?_
        refine FW.seq ?_
        refine FW.region ?_
        refine FL.val rfl rfl rfl (E.assign (v := Value.int .i64 (-1)) rfl) ?_
        refine FL.nil ?_
        refine FW.ret ?_
        obtain rfl := hp
        exact ⟨.inr rfl, res1 rfl rfl ⟨rfl, S26.back⟩⟩
      ·
        refine FW.condF rfl c30 ?_
        refine FW.skip ?_
        refine FW.seq ?_
        refine FW.seq ?_
        refine FW.region ?_
        refine FL.val rfl rfl rfl (E.move (v := Value.int .i64 a0) rfl) ?_
        refine FL.val rfl rfl rfl (E.move (v := Value.int .i64 a1) rfl) ?_
        refine FL.val rfl rfl rfl (E.gtr rfl rfl) ?_
        refine FL.nil ?_
        rcases ifT hp with ⟨c31, hp⟩ | ⟨c31, hp⟩
        ·
          refine FW.condT rfl c31 ?_
          refine FW.seq ?_
          refine FW.region ?_
          refine FL.val rfl rfl rfl (E.assign (v := Value.int .i64 1) rfl) ?_
          refine FL.nil ?_
          refine FW.ret ?_
          obtain rfl := hp
          exact ⟨.inr rfl, res1 rfl rfl ⟨rfl, S26.back⟩⟩
        ·
          refine FW.condF rfl c31 ?_
          refine FW.skip ?_
          refine FW.seq ?_
          refine FW.region ?_
          refine FL.val rfl rfl rfl (E.assign (v := Value.int .i64 0) rfl) ?_
          refine FL.nil ?_
          refine FW.ret ?_
          obtain rfl := hp
          exact ⟨.inr rfl, res1 rfl rfl ⟨rfl, S26.back⟩⟩

theorem w_cmp_Or_int {Ha : GH} {wa : World} (hs : Sl Ha wa) (v0 : Value) (a0 : List Int) (p0 : RSl Ha eI 1 v0 a0) {r : Int} (hp : (PF.cmp_Or_int a0) = some r) :
    Calls Tryz.prog 139 #[v0] wa (Sc Ha wa (Value.int .i64 r)) := by
  unfold PF.cmp_Or_int at hp
  have S0 := St.init hs
  refine calls_go (N := 18) (args := [v0]) Tryz.func139 rfl rfl rfl ?_
  refine FW.seq ?_
  refine FW.region ?_
  refine FL.val rfl rfl rfl (E.assign (v := Value.int .i64 0) rfl) ?_
  refine FL.nil ?_
  refine FW.seq ?_
  refine FW.region ?_
  refine FL.val rfl rfl rfl (E.assign (v := Value.int .i64 0) rfl) ?_
  refine FL.nil ?_
  refine FW.seq ?_
  refine FW.seq ?_
  refine FW.region ?_
  refine FL.val rfl rfl rfl (E.move (v := v0) rfl) ?_
  refine FL.val rfl rfl rfl (E.lenP te61 rfl p0) ?_
  refine FL.val rfl rfl rfl (E.move (v := Value.int .i64 0) rfl) ?_
  refine FL.nil ?_
  obtain ⟨q22, hq, hp⟩ := bndR hp
  refine FW.block ?_
  refine FW.mono (FW.forL (S := Unit) (X := Int) (fun (i22 : Nat) (s22 : Unit) f w => ∃ H : GH, St Ha wa H w [] ∧ Inc Ha H ∧ f 8 = Value.int .i64 ((i22 : Nat) : Int) ∧ f 3 = Value.int .i64 0 ∧ f 6 = v0 ∧ f 7 = Value.int .i64 (len a0)) (fun q e f w => match q with | .go s22 => e = Exit.exit 0 ∧ (∃ H : GH, St Ha wa H w [] ∧ Inc Ha H ∧ f 3 = Value.int .i64 0) | .rt x => ((e = Exit.ret) ∧ (fun e f w => (e = Exit.normal ∨ e = Exit.ret) ∧ ∀ a, Fr 18 a f → ∃ v, (results Tryz.f139 a.tmps).run Tryz.prog w = .ok v w ∧ (Sc Ha wa (Value.int .i64 x)) (.returned v) w) e f w)) hq ⟨_, S0, (Inc.rfl _), rfl, rfl, rfl, rfl⟩ ?_ ?_) ?_
  ·
    clear hp hq
    rintro i22 y21 s22 f43 w42 ⟨H39, S40, i41, k44, k45, k46, k47⟩ hx22 o55 hp
    refine FW.seq ?_
    refine FW.region ?_
    refine FL.val rfl rfl rfl (E.lssT k44 k47 (lss_len hx22)) ?_
    refine FL.nil ?_
    refine FW.seq ?_
    refine FW.condT rfl rfl ?_
    refine FW.skip ?_
    refine FW.seq ?_
    refine FW.block ?_
    refine FW.seq ?_
    refine FW.region ?_
    obtain ⟨p48, cs49, pt50, l51, at52, rel53⟩ := p0.at (ix_nat hx22)
    obtain rfl := eI_open rel53
    refine FL.val rfl rfl rfl (E.indexAddr te61 k46 k44 pt50) ?_
    refine FL.val rfl rfl rfl (E.load rfl (run_load0 Tryz.isAgg3 ((at52.mono i41).now S40.sl) rfl)) ?_
    refine FL.val rfl rfl rfl (E.assign (v := Value.int .i64 y21) rfl) ?_
    refine FL.nil ?_
    refine FW.seq ?_
    refine FW.region ?_
    refine FL.val rfl rfl rfl (E.move (v := Value.int .i64 y21) rfl) ?_
    refine FL.val rfl rfl rfl (E.move k45) ?_
    refine FL.val rfl rfl rfl (E.neq rfl rfl) ?_
    refine FL.nil ?_
    rcases ifB hp with ⟨c54, hp⟩ | ⟨c54, hp⟩
    ·
      refine FW.condT rfl c54 ?_
      refine FW.seq ?_
      refine FW.region ?_
      refine FL.val rfl rfl rfl (E.move (v := Value.int .i64 y21) rfl) ?_
      refine FL.val rfl rfl rfl (E.assign (v := Value.int .i64 y21) rfl) ?_
      refine FL.nil ?_
      refine FW.ret ?_
      obtain rfl := Option.some.inj hp
      exact ⟨nofun, rfl, ⟨.inr rfl, res1 rfl rfl ⟨rfl, S40.back⟩⟩⟩
    ·
      refine FW.condF rfl c54 ?_
      refine FW.skip ?_
      refine FW.region ?_
      refine FL.val rfl rfl rfl (E.add k44 rfl) ?_
      refine FL.val rfl rfl rfl (E.move (v := Value.int .i64 (wr (((i22 : Nat) : Int) + 1))) rfl) ?_
      refine FL.nil ?_
      obtain rfl := Option.some.inj hp
      exact ⟨rfl, ⟨_, S40, i41, (nat_succ rfl (lt_of_get hx22) (p0.mono i41).le), k45, k46, k47⟩⟩
  ·
    clear hp hq
    rintro s22 f66 w65 ⟨H62, S63, i64, k67, k68, k69, k70⟩
    refine FW.seq ?_
    refine FW.region ?_
    refine FL.val rfl rfl rfl (E.lss k67 k70) ?_
    refine FL.nil ?_
    refine FW.seq ?_
    refine FW.condF rfl dlt_len ?_
    refine FW.exit ?_
    exact ⟨nofun, rfl, ⟨_, S63, i64, k68⟩⟩
  ·
    clear hq
    intro e f60 w59 hD
    rcases q22 with s22 | x22
    ·
      obtain ⟨rfl, hD⟩ := hD
      obtain ⟨H56, S57, i58, k61⟩ := hD
      replace hp := el_go hp
      refine FW.seq ?_
      refine FW.region ?_
      refine FL.val rfl rfl rfl (E.move k61) ?_
      refine FL.val rfl rfl rfl (E.assign (v := Value.int .i64 0) rfl) ?_
      refine FL.nil ?_
      refine FW.ret ?_
      obtain rfl := Option.some.inj hp
      exact ⟨.inr rfl, res1 rfl rfl ⟨rfl, S57.back⟩⟩
    ·
      obtain ⟨he, hL⟩ := hD
      replace hp := el_rt hp
      obtain rfl := Option.some.inj hp
      subst he
      exact hL

theorem w_impl_compareLiterals {Ha : GH} {wa : World} (hs : Sl Ha wa) (a0 : Int) (a1 : Int) {r : Int} (hp : (PF.impl_compareLiterals a0 a1) = some r) :
    Calls Tryz.prog 142 #[Value.int .i64 a0, Value.int .i64 a1] wa (Sc Ha wa (Value.int .i64 r)) := by
  unfold PF.impl_compareLiterals at hp
  have S0 := St.init hs
  refine calls_go (N := 15) (args := [Value.int .i64 a0, Value.int .i64 a1]) Tryz.func142 rfl rfl rfl ?_
  refine FW.seq ?_
  refine FW.region ?_
  refine FL.val rfl rfl rfl (E.assign (v := Value.int .i64 0) rfl) ?_
  refine FL.nil ?_
  refine FW.seq ?_
  refine FW.region ?_
  refine FL.val rfl rfl rfl (E.move (v := Value.int .i64 a0) rfl) ?_
  refine FL.call rfl rfl rfl (E.call Tryz.call190 (A1 rfl)) (w_impl_abs S0.sl a0) ?_
  rintro e w21 ⟨rfl, r22⟩
  refine ⟨_, rfl, ?_⟩
  have S23 := S0.call r22
  refine FL.val rfl rfl rfl (E.move (v := Value.int .i64 a1) rfl) ?_
  refine FL.call rfl rfl rfl (E.call Tryz.call190 (A1 rfl)) (w_impl_abs S23.sl a1) ?_
  rintro e w24 ⟨rfl, r25⟩
  refine ⟨_, rfl, ?_⟩
  have S26 := S23.call r25
  refine FL.call rfl rfl rfl (E.call Tryz.call140 (A2 rfl rfl)) (w_cmp_Compare_int S26.sl (PF.impl_abs a0) (PF.impl_abs a1)) ?_
  rintro e w27 ⟨rfl, r28⟩
  refine ⟨_, rfl, ?_⟩
  have S29 := S26.call r28
  refine FL.val rfl rfl rfl (E.move (v := Value.int .i64 a1) rfl) ?_
  refine FL.val rfl rfl rfl (E.move (v := Value.int .i64 a0) rfl) ?_
  refine FL.call rfl rfl rfl (E.call Tryz.call140 (A2 rfl rfl)) (w_cmp_Compare_int S29.sl a1 a0) ?_
  rintro e w30 ⟨rfl, r31⟩
  refine ⟨_, rfl, ?_⟩
  have S32 := S29.call r31
  obtain ⟨v33, w34, run35, S36⟩ := S32.buildSlice (P := Tryz.prog) te61 [Value.int .i64 (PF.cmp_Compare_int (PF.impl_abs a0) (PF.impl_abs a1)), Value.int .i64 (PF.cmp_Compare_int a1 a0)] (parts := #[(0, Value.int .i64 (PF.cmp_Compare_int (PF.impl_abs a0) (PF.impl_abs a1))), (1, Value.int .i64 (PF.cmp_Compare_int a1 a0))]) (cells := [Value.int .i64 (PF.cmp_Compare_int (PF.impl_abs a0) (PF.impl_abs a1)), Value.int .i64 (PF.cmp_Compare_int a1 a0)]) rfl (szs_cons rfl (szs_cons rfl szs_nil)) (fc_cons rfl (fc_cons rfl fc_nil)) (ones_cons rfl (ones_cons rfl ones_nil)) (Nat.le_of_ble_eq_true rfl)
  have els37 : Els (up wa.heap.size Ha) eI 1 [Value.int .i64 (PF.cmp_Compare_int (PF.impl_abs a0) (PF.impl_abs a1)), Value.int .i64 (PF.cmp_Compare_int a1 a0)] [(PF.cmp_Compare_int (PF.impl_abs a0) (PF.impl_abs a1)), (PF.cmp_Compare_int a1 a0)] := (Els.snoc (H := (up wa.heap.size Ha)) (E := eI) (k := 1) (c := [Value.int .i64 (PF.cmp_Compare_int a1 a0)]) (x := (PF.cmp_Compare_int a1 a0)) (Els.snoc (H := (up wa.heap.size Ha)) (E := eI) (k := 1) (c := [Value.int .i64 (PF.cmp_Compare_int (PF.impl_abs a0) (PF.impl_abs a1))]) (x := (PF.cmp_Compare_int (PF.impl_abs a0) (PF.impl_abs a1))) Els.nil rfl rfl) rfl rfl)
  refine FL.val rfl rfl rfl (E.buildSlice (B2 rfl rfl) run35) ?_
  obtain ⟨H38, S39, i40, h41, nv42⟩ := S36.sealRowU (i := 0) (l' := []) rfl els37 (by decide) rfl
  obtain ⟨r43, hr44, hp⟩ := bnd hp
  refine FL.call rfl rfl rfl (E.call Tryz.call139 (A1 rfl)) (w_cmp_Or_int S39.sl v33 [(PF.cmp_Compare_int (PF.impl_abs a0) (PF.impl_abs a1)), (PF.cmp_Compare_int a1 a0)] (h41.mono upI) hr44) ?_
  rintro e w45 ⟨rfl, r46⟩
  refine ⟨_, rfl, ?_⟩
  have r46 := Run.lend i40 S36.sl r46
  have S47 := S36.call r46
  refine FL.val rfl rfl rfl (E.assign (v := Value.int .i64 r43) rfl) ?_
  refine FL.nil ?_
  refine FW.ret ?_
  obtain rfl := Option.some.inj hp
  exact ⟨.inr rfl, res1 rfl rfl ⟨rfl, S47.back⟩⟩

@[reducible] def p_slices_Compact_int_int (H0 : GH) (w0 : World) (Ha : GH) (L : List MO) (r : (List Int)) : Ending → World → Prop :=
  fun e w' => ∃ H' : GH, ∃ v0r : Value, ∃ n0r : Nat, ∃ c0r : List Value, e = .returned (v0r) ∧ (St H0 w0 H' w' (.row 3 1 v0r n0r c0r :: L) ∧ Inc Ha H') ∧ Els (up w0.heap.size H') eI 1 c0r r
theorem w_slices_Compact_int_int {H0 Ha : GH} {w0 wa : World} {L : List MO} {v0 : Value} {n0 : Nat} {k0 : List Value} (S0 : St H0 w0 Ha wa (.row 3 1 v0 n0 k0 :: L)) (a0 : List Int) (p0 : Els (up w0.heap.size Ha) eI 1 k0 a0) {r : (List Int)} (hp : (PF.slices_Compact_int_int a0) = some r) :
    Calls Tryz.prog 114 #[v0] wa (p_slices_Compact_int_int H0 w0 Ha L r) := by
  cases hp
  refine (St.compactF (l := .row 3 1 v0 n0 k0 :: L) (i := 0) S0 rfl p0 (enc := Value.int .i64) (fun _ => rfl) (fun _ _ _ h => by cases eI_open h; rfl) (fun _ _ => rfl) 0 (fun w => compact_none Tryz.comp114 w) (fun blk off cap d w hH hs hc => AnyE.slices_Compact Tryz.comp114 (Value.int .i64) (fun _ => rfl) (EqlAt.intD _ _ _) (NeqAt.intD _ _ _) 0 (fun w => Tryz.zeroValue3 w) blk off cap d w hH hs hc)).mono ?_
  rintro e w' ⟨v', n', c', rfl, h1, h2⟩
  exact ⟨_, _, _, _, rfl, ⟨h1, Inc.rfl _⟩, h2⟩

@[reducible] def p_impl_clause (Ha : GH) (wa : World) (r : ((List Int) × Bool)) : Ending → World → Prop :=
  fun e w' => ∃ H' : GH, ∃ v0 : Value, ∃ n0 : Nat, ∃ c0 : List Value, e = .returned (Value.tuple #[v0, Value.bool r.2]) ∧ St Ha wa H' w' [.row 3 1 v0 n0 c0] ∧ Els (up wa.heap.size H') eI 1 c0 r.1
theorem w_impl_clause {Ha : GH} {wa : World} (hs : Sl Ha wa) (v0 : Value) (a0 : List Int) (p0 : RSl Ha eI 1 v0 a0) {r : ((List Int) × Bool)} (hp : (PF.impl_clause a0) = some r) :
    Calls Tryz.prog 194 #[v0] wa (p_impl_clause Ha wa r) := by
  unfold PF.impl_clause at hp
  have S0 := St.init hs
  refine calls_go (N := 30) (args := [v0]) Tryz.func194 rfl rfl rfl ?_
  refine FW.seq ?_
  refine FW.region ?_
  refine FL.val rfl rfl rfl (E.assign (v := Value.slice none 0 0) rfl) ?_
  refine FL.val rfl rfl rfl (E.assign (v := Value.bool false) rfl) ?_
  refine FL.nil ?_
  refine FW.seq ?_
  refine FW.region ?_
  refine FL.val rfl rfl rfl (E.move (v := v0) rfl) ?_
  obtain ⟨r21, hr22, hp⟩ := bnd hp
  refine FL.call rfl rfl rfl (E.call Tryz.call87 (A1 rfl)) (w_slices_Clone_int_int S0.sl v0 a0 p0 hr22) ?_
  rintro e w24 ⟨H23, v27, n28, cs29, rfl, r26, els30⟩
  refine ⟨_, rfl, ?_⟩
  have els30 := els30.mono (up_le S0.size)
  have S25 := S0.join (l' := [.row 3 1 v27 n28 cs29]) r26 rfl
  refine FL.val rfl rfl rfl (E.assign (v := v27) rfl) ?_
  refine FL.nil ?_
  refine FW.seq ?_
  refine FW.region ?_
  refine FL.val rfl rfl rfl (E.move (v := v27) rfl) ?_
  obtain ⟨r31, hr32, hp⟩ := bnd hp
  refine FL.call rfl rfl rfl (E.call Tryz.call222 (A2 rfl rfl)) (w_slices_SortFunc_int_int (L := []) S25 r21 els30 (Value.func (.func 142) #[] #[]) (fun x0 x1 => PF.impl_compareLiterals x0 x1) (fun H2 w2 hi2 hs2 x0 x1 r hr => ⟨142, #[], rfl, Tryz.call142, w_impl_compareLiterals hs2 x0 x1  hr⟩) hr32) ?_
  rintro e w34 ⟨H33, cs37, rfl, ⟨S35, i36⟩, els38⟩
  refine ⟨_, rfl, ?_⟩
  have S35 : St Ha wa H33 w34 [.row 3 1 v27 n28 cs37] := S35
  refine FL.nil ?_
  refine FW.seq ?_
  refine FW.region ?_
  refine FL.val rfl rfl rfl (E.move (v := v27) rfl) ?_
  obtain ⟨r39, hr40, hp⟩ := bnd hp
  refine FL.call rfl rfl rfl (E.call Tryz.call114 (A1 rfl)) (w_slices_Compact_int_int (L := []) S35 r31 els38 hr40) ?_
  rintro e w42 ⟨H41, v45, n46, cs47, rfl, ⟨S43, i44⟩, els48⟩
  refine ⟨_, rfl, ?_⟩
  have S43 : St Ha wa H41 w42 [.row 3 1 v45 n46 cs47] := S43
  refine FL.val rfl rfl rfl (E.assign (v := v45) rfl) ?_
  refine FL.nil ?_
  refine FW.seq ?_
  refine FW.seq ?_
  refine FW.region ?_
  refine FL.val rfl rfl rfl (E.assign (v := Value.int .i64 1) rfl) ?_
  refine FL.nil ?_
  obtain ⟨q49, hq, hp⟩ := bndR hp
  refine FW.block ?_
  refine FW.mono (FW.iter (S := Int) (X := ((List Int) × Bool)) (fun (s49 : Int) f w => ∃ H : GH, St Ha wa H w [.row 3 1 v45 n46 cs47] ∧ Inc H41 H ∧ f 4 = v45 ∧ f 5 = Value.int .i64 s49) (fun q e f w => match q with | .go s49 => e = Exit.exit 0 ∧ (∃ H : GH, St Ha wa H w [.row 3 1 v45 n46 cs47] ∧ Inc H41 H ∧ f 4 = v45) | .rt x => ((e = Exit.ret) ∧ (fun e f w => (e = Exit.normal ∨ e = Exit.ret) ∧ ∀ a, Fr 30 a f → ∃ v, (results Tryz.f194 a.tmps).run Tryz.prog w = .ok v w ∧ (p_impl_clause Ha wa x) (.returned v) w) e f w)) hq ⟨_, S43, (Inc.rfl _), rfl, rfl⟩ ?_) ?_
  ·
    clear hp hq
    rintro s49 f83 w82 ⟨H79, S80, i81, k84, k85⟩ o108 hp
    refine FW.seq ?_
    refine FW.seq ?_
    refine FW.region ?_
    refine FL.val rfl rfl rfl (E.move k85) ?_
    refine FL.val rfl rfl rfl (E.move k84) ?_
    refine FL.val rfl rfl rfl (E.lenO te61 rfl S80 (i := 0) rfl els48 (by decide)) ?_
    refine FL.val rfl rfl rfl (E.lss rfl rfl) ?_
    refine FL.nil ?_
    rcases ifB hp with ⟨c86, hp⟩ | ⟨c86, hp⟩
    ·
      refine FW.condT rfl c86 ?_
      refine FW.skip ?_
      refine FW.seq ?_
      refine FW.block ?_
      refine FW.seq ?_
      refine FW.draw (fun w' => Run w82.heap.size H79 w82 H79 w') (by kernel_rfl) (by kernel_rfl) (run_drew S80.sl) ?_
      refine FD.val rfl rfl rfl (fun w' hw' => (E.move k84)) ?_
      refine FD.val rfl rfl rfl (fun w' hw' => (E.move k85)) ?_
      obtain ⟨x94, hx95, hp⟩ := bnd hp
      obtain ⟨p88, cs89, pt90, l91, at92, rel93⟩ := S80.row_at (i := 0) rfl els48 (by decide) hx95
      obtain rfl := eI_open rel93
      refine FD.val rfl rfl rfl (fun w' hw' => (E.indexAddr te61 rfl rfl pt90)) ?_
      refine FD.val rfl rfl rfl (fun w' hw' => (E.load rfl (run_load0 Tryz.isAgg3 (at92.cls hw') rfl))) ?_
      refine FD.val rfl rfl rfl (fun w' hw' => (E.move k84)) ?_
      refine FD.val rfl rfl rfl (fun w' hw' => (E.move k85)) ?_
      refine FD.val rfl rfl rfl (fun w' hw' => (E.sub rfl rfl)) ?_
      obtain ⟨x102, hx103, hp⟩ := bnd hp
      obtain ⟨p96, cs97, pt98, l99, at100, rel101⟩ := S80.row_at (i := 0) rfl els48 (by decide) hx103
      obtain rfl := eI_open rel101
      refine FD.val rfl rfl rfl (fun w' hw' => (E.indexAddr te61 rfl rfl pt98)) ?_
      refine FD.val rfl rfl rfl (fun w' hw' => (E.load rfl (run_load0 Tryz.isAgg3 (at100.cls hw') rfl))) ?_
      refine FD.val rfl rfl rfl (fun w' hw' => (E.neg rfl)) ?_
      refine FD.val rfl rfl rfl (fun w' hw' => (E.eql rfl rfl)) ?_
      refine FD.nil ?_
      intro w104 r106
      have S105 := S80.call r106
      rcases ifB hp with ⟨c107, hp⟩ | ⟨c107, hp⟩
      ·
        refine FW.condT rfl c107 ?_
        refine FW.seq ?_
        refine FW.region ?_
        refine FL.val rfl rfl rfl (E.assign (v := Value.slice none 0 0) rfl) ?_
        refine FL.val rfl rfl rfl (E.assign (v := Value.bool false) rfl) ?_
        refine FL.nil ?_
        refine FW.ret ?_
        obtain rfl := Option.some.inj hp
        exact ⟨nofun, rfl, ⟨.inr rfl, res2 rfl rfl rfl ⟨_, _, _, _, rfl, ((S105.nil 3 1).sel [0] (by decide) rfl), Els.nil⟩⟩⟩
      ·
        refine FW.condF rfl c107 ?_
        refine FW.skip ?_
        refine FW.region ?_
        refine FL.val rfl rfl rfl (E.move k85) ?_
        refine FL.val rfl rfl rfl (E.add rfl rfl) ?_
        refine FL.val rfl rfl rfl (E.assign (v := Value.int .i64 (wr (s49 + 1))) rfl) ?_
        refine FL.nil ?_
        obtain rfl := Option.some.inj hp
        exact ⟨rfl, ⟨_, S105, i81, k84, rfl⟩⟩
    ·
      refine FW.condF rfl c86 ?_
      refine FW.exit ?_
      obtain rfl := Option.some.inj hp
      exact ⟨nofun, rfl, ⟨_, S80, i81, k84⟩⟩
  ·
    clear hq
    intro e f113 w112 hD
    rcases q49 with s49 | x49
    ·
      obtain ⟨rfl, hD⟩ := hD
      obtain ⟨H109, S110, i111, k114⟩ := hD
      replace hp := el_go hp
      refine FW.seq ?_
      refine FW.region ?_
      refine FL.val rfl rfl rfl (E.move k114) ?_
      refine FL.val rfl rfl rfl (E.assign (v := v45) rfl) ?_
      refine FL.val rfl rfl rfl (E.assign (v := Value.bool true) rfl) ?_
      refine FL.nil ?_
      refine FW.ret ?_
      obtain rfl := Option.some.inj hp
      exact ⟨.inr rfl, res2 rfl rfl rfl ⟨_, _, _, _, rfl, S110, (els48.mono (up_mono i111))⟩⟩
    ·
      obtain ⟨he, hL⟩ := hD
      replace hp := el_rt hp
      obtain rfl := Option.some.inj hp
      subst he
      exact hL

@[reducible] def p_impl_resolve (Ha : GH) (wa : World) (r : ((List Int) × Bool)) : Ending → World → Prop :=
  fun e w' => ∃ H' : GH, ∃ v0 : Value, ∃ n0 : Nat, ∃ c0 : List Value, e = .returned (Value.tuple #[v0, Value.bool r.2]) ∧ St Ha wa H' w' [.row 3 1 v0 n0 c0] ∧ Els (up wa.heap.size H') eI 1 c0 r.1
theorem w_impl_resolve {Ha : GH} {wa : World} (hs : Sl Ha wa) (v0 : Value) (a0 : List Int) (p0 : RSl Ha eI 1 v0 a0) (v1 : Value) (a1 : List Int) (p1 : RSl Ha eI 1 v1 a1) (a2 : Int) {r : ((List Int) × Bool)} (hp : (PF.impl_resolve a0 a1 a2) = some r) :
    Calls Tryz.prog 148 #[v0, v1, Value.int .i64 a2] wa (p_impl_resolve Ha wa r) := by
  unfold PF.impl_resolve at hp
  have S0 := St.init hs
  refine calls_go (N := 30) (args := [v0, v1, Value.int .i64 a2]) Tryz.func148 rfl rfl rfl ?_
  refine FW.seq ?_
  refine FW.region ?_
  refine FL.val rfl rfl rfl (E.assign (v := Value.slice none 0 0) rfl) ?_
  refine FL.val rfl rfl rfl (E.assign (v := Value.bool false) rfl) ?_
  refine FL.nil ?_
  refine FW.seq ?_
  refine FW.seq ?_
  refine FW.region ?_
  refine FL.val rfl rfl rfl (E.move (v := v0) rfl) ?_
  refine FL.val rfl rfl rfl (E.move (v := Value.int .i64 a2) rfl) ?_
  obtain ⟨r21, hr22, hp⟩ := bnd hp
  refine FL.call rfl rfl rfl (E.call Tryz.call171 (A2 rfl rfl)) (w_slices_Contains_int_int S0.sl v0 a0 p0 a2 hr22) ?_
  rintro e w23 ⟨rfl, r24⟩
  refine ⟨_, rfl, ?_⟩
  have S25 := S0.call r24
  refine FL.val rfl rfl rfl (E.not rfl) ?_
  refine FL.val rfl rfl rfl (E.move (v := Value.bool (!r21)) rfl) ?_
  obtain ⟨t31, hqt31, hp⟩ := bnd hp
  refine FL.cut 6 (fun f w => ∃ H : GH, St Ha wa H w [] ∧ Inc Ha H ∧ f 0 = v0 ∧ f 1 = v1 ∧ f 2 = Value.int .i64 a2 ∧ f 18 = Value.bool t31) ?_ ?_
  ·
    clear hp; have hp := hqt31; clear hqt31
    rcases ifB hp with ⟨c37, hp⟩ | ⟨c37, hp⟩
    ·
      refine FL.skip (wF_no rfl rfl rfl c37) rfl ?_
      refine FL.skip (wF_no rfl rfl rfl c37) rfl ?_
      refine FL.skip (wF_no rfl rfl rfl c37) rfl ?_
      refine FL.skip (wF_no rfl rfl rfl c37) rfl ?_
      refine FL.skip (wF_no rfl rfl rfl c37) rfl ?_
      obtain rfl := Option.some.inj hp
      refine FL.val rfl rfl rfl (E.pickT rfl c37 rfl) ?_
      exact FL.nil ⟨rfl, _, S25, (Inc.rfl _), rfl, rfl, rfl, rfl⟩
    ·
      refine FL.val (wF_yes rfl rfl rfl c37) rfl rfl (E.move (v := v1) rfl) ?_
      refine FL.val (wF_yes rfl rfl rfl c37) rfl rfl (E.move (v := Value.int .i64 a2) rfl) ?_
      refine FL.val (wF_yes rfl rfl rfl c37) rfl rfl (E.neg rfl) ?_
      obtain ⟨r38, hr39, hp⟩ := bnd hp
      refine FL.call (wF_yes rfl rfl rfl c37) rfl rfl (E.call Tryz.call171 (A2 rfl rfl)) (w_slices_Contains_int_int S25.sl v1 a1 p1 (wr (-a2)) hr39) ?_
      rintro e w40 ⟨rfl, r41⟩
      refine ⟨_, rfl, ?_⟩
      have S42 := S25.call r41
      refine FL.val (wF_yes rfl rfl rfl c37) rfl rfl (E.not rfl) ?_
      obtain rfl := Option.some.inj hp
      refine FL.val rfl rfl rfl (E.pickF rfl c37 rfl) ?_
      exact FL.nil ⟨rfl, _, S42, (Inc.rfl _), rfl, rfl, rfl, rfl⟩
  rintro f36 w35 ⟨H32, S33, i34, k43, k44, k45, k46⟩
  refine FL.nil ?_
  rcases ifB hp with ⟨c47, hp⟩ | ⟨c47, hp⟩
  ·
    refine FW.condT k46 c47 ?_
    refine FW.seq ?_
    refine FW.region ?_
    refine FL.val rfl rfl rfl (E.assign (v := Value.slice none 0 0) rfl) ?_
    refine FL.val rfl rfl rfl (E.assign (v := Value.bool false) rfl) ?_
    refine FL.nil ?_
    refine FW.ret ?_
    obtain rfl := Option.some.inj hp
    exact ⟨.inr rfl, res2 rfl rfl rfl ⟨_, _, _, _, rfl, (S33.nil 3 1), Els.nil⟩⟩
  ·
    refine FW.condF k46 c47 ?_
    refine FW.skip ?_
    refine FW.seq ?_
    refine FW.region ?_
    refine FL.val rfl rfl rfl (E.move k43) ?_
    refine FL.val rfl rfl rfl (E.move k45) ?_
    obtain ⟨r48, hr49, hp⟩ := bnd hp
    refine FL.call rfl rfl rfl (E.call Tryz.call195 (A2 rfl rfl)) (w_impl_withoutVar S33.sl v0 a0 (p0.mono i34) a2 hr49) ?_
    rintro e w51 ⟨H50, v54, n55, cs56, rfl, r53, els57⟩
    refine ⟨_, rfl, ?_⟩
    have els57 := els57.mono (up_le S33.size)
    have S52 := S33.join (l' := [.row 3 1 v54 n55 cs56]) r53 rfl
    refine FL.val rfl rfl rfl (E.move k44) ?_
    refine FL.val rfl rfl rfl (E.move k45) ?_
    obtain ⟨r58, hr59, hp⟩ := bnd hp
    refine FL.call rfl rfl rfl (E.call Tryz.call195 (A2 rfl rfl)) (w_impl_withoutVar S52.sl v1 a1 (p1.mono (i34.tr r53.run.inc)) a2 hr59) ?_
    rintro e w61 ⟨H60, v64, n65, cs66, rfl, r63, els67⟩
    refine ⟨_, rfl, ?_⟩
    have els67 := els67.mono (up_le S52.size)
    have S62 := S52.join (l' := [.row 3 1 v64 n65 cs66, .row 3 1 v54 n55 cs56]) r63 rfl
    obtain ⟨H68, S69, i70, h71, nv72⟩ := S62.sealRowU (i := 1) (l' := [.row 3 1 v64 n65 cs66]) rfl (els57.mono (up_mono r63.run.inc)) (by decide) rfl
    obtain ⟨H73, S74, i75, h76, nv77⟩ := S69.sealRowU (i := 0) (l' := []) rfl (els67.mono (up_mono i70)) (by decide) rfl
    obtain ⟨v78, w79, run80, S81⟩ := S74.buildSlice (P := Tryz.prog) te22 [v54, v64] (parts := #[(0, v54), (1, v64)]) (cells := [v54, v64]) rfl (szs_cons (cells_size h71.cells) (szs_cons (cells_size h76.cells) szs_nil)) (fc_cons h71.cells (fc_cons h76.cells fc_nil)) (ones_cons h71.one (ones_cons h76.one ones_nil)) (Nat.le_of_ble_eq_true rfl)
    have els82 : Els (up wa.heap.size H73) (eL eI 1) 1 [v54, v64] [r48, r58] := (Els.snoc (H := (up wa.heap.size H73)) (E := (eL eI 1)) (k := 1) (c := [v64]) (x := r58) (Els.snoc (H := (up wa.heap.size H73)) (E := (eL eI 1)) (k := 1) (c := [v54]) (x := r48) Els.nil rfl ⟨_, rfl, (h71.mono (up_mono i75))⟩) rfl ⟨_, rfl, h76⟩)
    refine FL.val rfl rfl rfl (E.buildSlice (B2 rfl rfl) run80) ?_
    obtain ⟨H83, S84, i85, h86, nv87⟩ := S81.sealRowU (i := 0) (l' := []) rfl els82 (by decide) rfl
    obtain ⟨r88, hr89, hp⟩ := bnd hp
    refine FL.call rfl rfl rfl (E.call Tryz.call106 (A1 rfl)) (w_slices_Concat_int_int S84.sl v78 [r48, r58] (h86.mono upI) hr89) ?_
    rintro e w91 ⟨H90, v96, n97, cs98, rfl, r93, els99⟩
    refine ⟨_, rfl, ?_⟩
    obtain ⟨H94, r93, hU95⟩ := St.lendX i85 S81.sl r93
    have els99 := els99.mono (hU95.tr (up_le S81.size))
    have S92 := S81.join (l' := [.row 3 1 v96 n97 cs98, .row 61 1 v78 2 [v54, v64]]) r93 rfl
    obtain ⟨H100, S101, i102, h103, nv104⟩ := S92.sealRowU (i := 0) (l' := [.row 61 1 v78 2 [v54, v64]]) rfl els99 (by decide) rfl
    obtain ⟨r105, hr106, hp⟩ := bnd hp
    refine FL.call rfl rfl rfl (E.call Tryz.call194 (A1 rfl)) (w_impl_clause S101.sl v96 r88 (h103.mono upI) hr106) ?_
    rintro e w108 ⟨H107, v113, n114, cs115, rfl, r110, els116⟩
    refine ⟨_, rfl, ?_⟩
    obtain ⟨H111, r110, hU112⟩ := St.lendX i102 S92.sl r110
    have els116 := els116.mono (hU112.tr (up_le S92.size))
    have S109 := S92.join (l' := [.row 3 1 v113 n114 cs115, .row 3 1 v96 n97 cs98, .row 61 1 v78 2 [v54, v64]]) r110 rfl
    refine FL.val rfl rfl rfl (E.extract (i := 0) rfl rfl) ?_
    refine FL.val rfl rfl rfl (E.extract (i := 1) rfl rfl) ?_
    refine FL.val rfl rfl rfl (E.assign (v := v113) rfl) ?_
    refine FL.val rfl rfl rfl (E.assign (v := Value.bool r105.2) rfl) ?_
    refine FL.nil ?_
    refine FW.ret ?_
    obtain rfl := Option.some.inj hp
    exact ⟨.inr rfl, res2 rfl rfl rfl ⟨_, _, _, _, rfl, (S109.sel [0] (by decide) rfl), els116⟩⟩

theorem w_impl_correct {Ha : GH} {wa : World} (hs : Sl Ha wa) (a0 : Cnf) (v0_1 : Value) (p0_1 : RSl Ha (eL eI 1) 1 v0_1 a0.clauses) (v1 : Value) (a1 : List ResStep) (p1 : RSl Ha eResStep 4 v1 a1) (a2 : Int) {r : Bool} (hp : (PF.impl_correct a0 a1 a2) = some r) :
    Calls Tryz.prog 198 #[Value.agg #[Value.int .i64 a0.vars, v0_1], v1, Value.int .i64 a2] wa (Sc Ha wa (Value.bool r)) := by
  unfold PF.impl_correct at hp
  have S0 := St.init hs
  refine calls_go (N := 105) (args := [Value.agg #[Value.int .i64 a0.vars, v0_1], v1, Value.int .i64 a2]) Tryz.func198 rfl rfl rfl ?_
  refine FW.seq ?_
  refine FW.region ?_
  obtain ⟨b21, w22, run23, S24⟩ := S0.box (P := Tryz.prog) 30 [Value.int .i64 a0.vars, v0_1] (v := Value.agg #[Value.int .i64 a0.vars, v0_1]) rfl (ones_cons rfl (ones_cons p0_1.one ones_nil))
  refine FL.val rfl rfl rfl (E.box rfl run23) ?_
  obtain ⟨H25, S26, i27, at28⟩ := S24.sealBox (i := 0) (l' := []) rfl rfl
  refine FL.val rfl rfl rfl (E.assign (v := Value.bool false) rfl) ?_
  refine FL.nil ?_
  refine FW.seq ?_
  refine FW.region ?_
  refine FL.val rfl rfl rfl (E.move (v := v1) rfl) ?_
  refine FL.val rfl rfl rfl (E.move (v := Value.int .i64 a2) rfl) ?_
  obtain ⟨x35, hx36, hp⟩ := bnd hp
  obtain ⟨p29, cs30, pt31, l32, at33, rel34⟩ := p1.at hx36
  obtain ⟨v37, rfl, h38⟩ := eResStep_open rel34
  refine FL.val rfl rfl rfl (E.indexAddr te41 rfl rfl pt31) ?_
  refine FL.val rfl rfl rfl (E.load rfl (run_loadA Tryz.isAgg103 Tryz.sizeOf103 ((at33.mono i27).now S26.sl) rfl)) ?_
  obtain ⟨b39, w40, run41, S42⟩ := S26.alloc (P := Tryz.prog) 103 [Value.slice none 0 0, Value.int .i64 0, Value.int .i64 0, Value.int .i64 0] Tryz.zeroValue103 rfl (ones_cons rfl (ones_cons rfl (ones_cons rfl (ones_cons rfl ones_nil))))
  refine FL.val rfl rfl rfl (E.alloc run41) ?_
  obtain ⟨w43, run44, S45⟩ := S42.store0 (P := Tryz.prog) (t := 103) (i := 0) (cs' := [v37, Value.int .i64 x35.left, Value.int .i64 x35.right, Value.int .i64 x35.pivot]) (l' := [.box b39 103 [v37, Value.int .i64 x35.left, Value.int .i64 x35.right, Value.int .i64 x35.pivot]]) (v := Value.agg #[v37, Value.int .i64 x35.left, Value.int .i64 x35.right, Value.int .i64 x35.pivot]) (c := [v37, Value.int .i64 x35.left, Value.int .i64 x35.right, Value.int .i64 x35.pivot]) rfl Tryz.sizeOf103 rfl rfl (ones_cons h38.one (ones_cons rfl (ones_cons rfl (ones_cons rfl ones_nil)))) (Nat.le_of_ble_eq_true rfl) rfl rfl
  refine FL.act rfl rfl (E.store rfl rfl run44) ?_
  obtain ⟨H46, S47, i48, at49⟩ := S45.sealBox (i := 0) (l' := []) rfl rfl
  refine FL.nil ?_
  refine FW.seq ?_
  refine FW.seq ?_
  refine FW.region ?_
  refine FL.val rfl rfl rfl (E.fieldAddr tf30_0 rfl) ?_
  refine FL.val rfl rfl rfl (E.load rfl (run_load1 Tryz.isAgg3 ((at28.mono i48).now S47.sl) rfl)) ?_
  refine FL.val rfl rfl rfl (E.fieldAddr tf103_0 rfl) ?_
  refine FL.val rfl rfl rfl (E.load rfl (run_load1 Tryz.isAgg61 (at49.now S47.sl) rfl)) ?_
  obtain ⟨r50, hr51, hp⟩ := bnd hp
  refine FL.call rfl rfl rfl (E.call Tryz.call176 (A2 rfl rfl)) (w_impl_IsClause S47.sl a0.vars v37 x35.clause (h38.mono (i27.tr i48)) hr51) ?_
  rintro e w52 ⟨rfl, r53⟩
  refine ⟨_, rfl, ?_⟩
  have S54 := S47.call r53
  refine FL.val rfl rfl rfl (E.not rfl) ?_
  refine FL.nil ?_
  rcases ifB hp with ⟨c55, hp⟩ | ⟨c55, hp⟩
  ·
    refine FW.condT rfl c55 ?_
    refine FW.seq ?_
    refine FW.region ?_
    refine FL.val rfl rfl rfl (E.assign (v := Value.bool false) rfl) ?_
    refine FL.nil ?_
    refine FW.ret ?_
    obtain rfl := Option.some.inj hp
    exact ⟨.inr rfl, res1 rfl rfl ⟨rfl, S54.back⟩⟩
  ·
    refine FW.condF rfl c55 ?_
    refine FW.skip ?_
    refine FW.seq ?_
    refine FW.seq ?_
    refine FW.region ?_
    refine FL.val rfl rfl rfl (E.fieldAddr tf103_1 rfl) ?_
    refine FL.val rfl rfl rfl (E.load rfl (run_load1 Tryz.isAgg3 (at49.now S54.sl) rfl)) ?_
    refine FL.val rfl rfl rfl (E.eql rfl rfl) ?_
    refine FL.nil ?_
    rcases ifB hp with ⟨c56, hp⟩ | ⟨c56, hp⟩
    ·
      refine FW.condT rfl c56 ?_
      refine FW.seq ?_
      refine FW.draw (fun w' => Run w52.heap.size H46 w52 H46 w') (by kernel_rfl) (by kernel_rfl) (run_drew S54.sl) ?_
      refine FD.val rfl rfl rfl (fun w' hw' => (E.fieldAddr tf103_3 rfl)) ?_
      refine FD.val rfl rfl rfl (fun w' hw' => (E.load rfl (run_load1 Tryz.isAgg3 (at49.now (S54.call hw').sl) rfl))) ?_
      refine FD.val rfl rfl rfl (fun w' hw' => (E.eql rfl rfl)) ?_
      refine FD.val rfl rfl rfl (fun w' hw' => (E.move (v := Value.bool (x35.pivot == 0)) rfl)) ?_
      refine FD.cut 8 (fun f => f 3 = Value.pointer (some ⟨b21, 0, none⟩) ∧ f 7 = Value.pointer (some ⟨b39, 0, none⟩) ∧ f 36 = Value.bool (bif (x35.pivot == 0) then (PF.impl_within x35.right 0 (wr ((len a0.clauses) - 1))) else false)) ?_ ?_
      ·
        rcases bcase (x35.pivot == 0) with c64 | c64
        ·
          refine FD.val (wF_yes rfl rfl rfl c64) rfl rfl (fun w' hw' => (E.fieldAddr tf103_2 rfl)) ?_
          refine FD.val (wF_yes rfl rfl rfl c64) rfl rfl (fun w' hw' => (E.load rfl (run_load1 Tryz.isAgg3 (at49.now (S54.call hw').sl) rfl))) ?_
          refine FD.val (wF_yes rfl rfl rfl c64) rfl rfl (fun w' hw' => (E.fieldAddr tf30_1 rfl)) ?_
          refine FD.val (wF_yes rfl rfl rfl c64) rfl rfl (fun w' hw' => (E.load rfl (run_load1 Tryz.isAgg22 ((at28.mono i48).now (S54.call hw').sl) rfl))) ?_
          refine FD.val (wF_yes rfl rfl rfl c64) rfl rfl (fun w' hw' => (E.lenP te22 rfl p0_1)) ?_
          refine FD.val (wF_yes rfl rfl rfl c64) rfl rfl (fun w' hw' => (E.sub rfl rfl)) ?_
          refine FD.call (wF_yes rfl rfl rfl c64) rfl rfl (fun w' hw' => (E.call Tryz.call111 (A3 rfl rfl rfl))) (fun w' hw' => Calls.cls hw' (w_impl_within (S54.call hw').sl x35.right 0 (wr ((len a0.clauses) - 1)))) ?_
          refine FD.val rfl rfl rfl (fun w' hw' => (E.pickT rfl c64 rfl)) ?_
          exact FD.nil ⟨rfl, rfl, (congrArg Value.bool (bifT c64).symm)⟩
        ·
          refine FD.skip (wF_no rfl rfl rfl c64) rfl ?_
          refine FD.skip (wF_no rfl rfl rfl c64) rfl ?_
          refine FD.skip (wF_no rfl rfl rfl c64) rfl ?_
          refine FD.skip (wF_no rfl rfl rfl c64) rfl ?_
          refine FD.skip (wF_no rfl rfl rfl c64) rfl ?_
          refine FD.skip (wF_no rfl rfl rfl c64) rfl ?_
          refine FD.skip (wF_no rfl rfl rfl c64) rfl ?_
          refine FD.val rfl rfl rfl (fun w' hw' => (E.pickF rfl c64 rfl)) ?_
          exact FD.nil ⟨rfl, rfl, (congrArg Value.bool (bifF c64).symm)⟩
      rintro f63 ⟨k65, k66, k67⟩
      refine FD.val rfl rfl rfl (fun w' hw' => (E.move k67)) ?_
      obtain ⟨t80, hqt80, hp⟩ := bnd hp
      refine FD.cut 10 (fun f => f 47 = Value.bool t80) ?_ ?_
      ·
        clear hp; have hp := hqt80; clear hqt80
        rcases ifB hp with ⟨c86, hp⟩ | ⟨c86, hp⟩
        ·
          refine FD.val (wF_yes rfl rfl rfl c86) rfl rfl (fun w' hw' => (E.fieldAddr tf30_1 k65)) ?_
          refine FD.val (wF_yes rfl rfl rfl c86) rfl rfl (fun w' hw' => (E.load rfl (run_load1 Tryz.isAgg22 ((at28.mono i48).now (S54.call hw').sl) rfl))) ?_
          refine FD.val (wF_yes rfl rfl rfl c86) rfl rfl (fun w' hw' => (E.fieldAddr tf103_2 k66)) ?_
          refine FD.val (wF_yes rfl rfl rfl c86) rfl rfl (fun w' hw' => (E.load rfl (run_load1 Tryz.isAgg3 (at49.now (S54.call hw').sl) rfl))) ?_
          obtain ⟨x93, hx94, hp⟩ := bnd hp
          obtain ⟨p87, cs88, pt89, l90, at91, rel92⟩ := p0_1.at hx94
          obtain ⟨v95, rfl, h96⟩ := eL_open rel92
          refine FD.val (wF_yes rfl rfl rfl c86) rfl rfl (fun w' hw' => (E.indexAddr te22 rfl rfl pt89)) ?_
          refine FD.val (wF_yes rfl rfl rfl c86) rfl rfl (fun w' hw' => (E.load rfl (run_load0 Tryz.isAgg61 ((at91.mono (i27.tr i48)).now (S54.call hw').sl) rfl))) ?_
          refine FD.val (wF_yes rfl rfl rfl c86) rfl rfl (fun w' hw' => (E.fieldAddr tf103_0 k66)) ?_
          refine FD.val (wF_yes rfl rfl rfl c86) rfl rfl (fun w' hw' => (E.load rfl (run_load1 Tryz.isAgg61 (at49.now (S54.call hw').sl) rfl))) ?_
          obtain ⟨r97, hr98, hp⟩ := bnd hp
          refine FD.call (wF_yes rfl rfl rfl c86) rfl rfl (fun w' hw' => (E.call Tryz.call80 (A2 rfl rfl))) (fun w' hw' => Calls.cls hw' (w_slices_Equal_int_int (S54.call hw').sl v95 x93 (h96.mono (i27.tr i48)) v37 x35.clause (h38.mono (i27.tr i48)) hr98)) ?_
          obtain rfl := Option.some.inj hp
          refine FD.val rfl rfl rfl (fun w' hw' => (E.pickT rfl c86 rfl)) ?_
          exact FD.nil rfl
        ·
          refine FD.skip (wF_no rfl rfl rfl c86) rfl ?_
          refine FD.skip (wF_no rfl rfl rfl c86) rfl ?_
          refine FD.skip (wF_no rfl rfl rfl c86) rfl ?_
          refine FD.skip (wF_no rfl rfl rfl c86) rfl ?_
          refine FD.skip (wF_no rfl rfl rfl c86) rfl ?_
          refine FD.skip (wF_no rfl rfl rfl c86) rfl ?_
          refine FD.skip (wF_no rfl rfl rfl c86) rfl ?_
          refine FD.skip (wF_no rfl rfl rfl c86) rfl ?_
          refine FD.skip (wF_no rfl rfl rfl c86) rfl ?_
          obtain rfl := Option.some.inj hp
          refine FD.val rfl rfl rfl (fun w' hw' => (E.pickF rfl c86 rfl)) ?_
          exact FD.nil rfl
      intro f85 k99
      refine FD.val rfl rfl rfl (fun w' hw' => (E.assign k99)) ?_
      refine FD.nil ?_
      intro w100 r102
      have S101 := S54.call r102
      refine FW.ret ?_
      obtain rfl := Option.some.inj hp
      exact ⟨.inr rfl, res1 rfl rfl ⟨rfl, S101.back⟩⟩
    ·
      refine FW.condF rfl c56 ?_
      refine FW.skip ?_
      refine FW.seq ?_
      refine FW.region ?_
      refine FL.val rfl rfl rfl (E.load rfl (run_loadA Tryz.isAgg30 Tryz.sizeOf30 ((at28.mono i48).now S54.sl) rfl)) ?_
      refine FL.val rfl rfl rfl (E.move (v := v1) rfl) ?_
      refine FL.val rfl rfl rfl (E.move (v := Value.int .i64 a2) rfl) ?_
      refine FL.val rfl rfl rfl (E.fieldAddr tf103_1 rfl) ?_
      refine FL.val rfl rfl rfl (E.load rfl (run_load1 Tryz.isAgg3 (at49.now S54.sl) rfl)) ?_
      obtain ⟨r103, hr104, hp⟩ := bnd hp
      refine FL.call rfl rfl rfl (E.call Tryz.call226 (A4 rfl rfl rfl rfl)) (w_impl_earlier S54.sl a0 v0_1 (p0_1.mono (i27.tr i48)) v1 a1 (p1.mono (i27.tr i48)) a2 x35.left hr104) ?_
      rintro e w106 ⟨H105, v109, rfl, r108, h110⟩
      refine ⟨_, rfl, ?_⟩
      have S107 := S54.call r108
      refine FL.val rfl rfl rfl (E.move (v := Value.tuple #[v109, Value.bool r103.2]) rfl) ?_
      refine FL.val rfl rfl rfl (E.extract (i := 0) rfl rfl) ?_
      refine FL.val rfl rfl rfl (E.extract (i := 1) rfl rfl) ?_
      refine FL.val rfl rfl rfl (E.assign (v := v109) rfl) ?_
      refine FL.val rfl rfl rfl (E.assign (v := Value.bool r103.2) rfl) ?_
      refine FL.nil ?_
      refine FW.seq ?_
      refine FW.seq ?_
      refine FW.region ?_
      refine FL.val rfl rfl rfl (E.move (v := Value.bool r103.2) rfl) ?_
      refine FL.val rfl rfl rfl (E.not rfl) ?_
      refine FL.nil ?_
      rcases ifB hp with ⟨c111, hp⟩ | ⟨c111, hp⟩
      ·
        refine FW.condT rfl c111 ?_
        refine FW.seq ?_
        refine FW.region ?_
        refine FL.val rfl rfl rfl (E.assign (v := Value.bool false) rfl) ?_
        refine FL.nil ?_
        refine FW.ret ?_
        obtain rfl := Option.some.inj hp
        exact ⟨.inr rfl, res1 rfl rfl ⟨rfl, S107.back⟩⟩
      ·
        refine FW.condF rfl c111 ?_
        refine FW.skip ?_
        refine FW.seq ?_
        refine FW.seq ?_
        refine FW.region ?_
        refine FL.val rfl rfl rfl (E.fieldAddr tf103_2 rfl) ?_
        refine FL.val rfl rfl rfl (E.load rfl (run_load1 Tryz.isAgg3 ((at49.mono r108.inc).now S107.sl) rfl)) ?_
        refine FL.val rfl rfl rfl (E.eql rfl rfl) ?_
        refine FL.nil ?_
        rcases ifB hp with ⟨c112, hp⟩ | ⟨c112, hp⟩
        ·
          refine FW.condT rfl c112 ?_
          refine FW.seq ?_
          refine FW.region ?_
          refine FL.val rfl rfl rfl (E.fieldAddr tf103_3 rfl) ?_
          refine FL.val rfl rfl rfl (E.load rfl (run_load1 Tryz.isAgg3 ((at49.mono r108.inc).now S107.sl) rfl)) ?_
          refine FL.val rfl rfl rfl (E.eql rfl rfl) ?_
          refine FL.val rfl rfl rfl (E.move (v := Value.bool (x35.pivot == 0)) rfl) ?_
          obtain ⟨t118, hqt118, hp⟩ := bnd hp
          refine FL.cut 5 (fun f w => ∃ H : GH, St Ha wa H w [] ∧ Inc H105 H ∧ f 70 = Value.bool t118) ?_ ?_
          ·
            clear hp; have hp := hqt118; clear hqt118
            rcases ifB hp with ⟨c124, hp⟩ | ⟨c124, hp⟩
            ·
              refine FL.val (wF_yes rfl rfl rfl c124) rfl rfl (E.move (v := v109) rfl) ?_
              refine FL.val (wF_yes rfl rfl rfl c124) rfl rfl (E.fieldAddr tf103_0 rfl) ?_
              refine FL.val (wF_yes rfl rfl rfl c124) rfl rfl (E.load rfl (run_load1 Tryz.isAgg61 ((at49.mono r108.inc).now S107.sl) rfl)) ?_
              obtain ⟨r125, hr126, hp⟩ := bnd hp
              refine FL.call (wF_yes rfl rfl rfl c124) rfl rfl (E.call Tryz.call227 (A2 rfl rfl)) (w_impl_part S107.sl v109 r103.1 h110 v37 x35.clause (h38.mono ((i27.tr i48).tr r108.inc)) hr126) ?_
              rintro e w127 ⟨rfl, r128⟩
              refine ⟨_, rfl, ?_⟩
              have S129 := S107.call r128
              obtain rfl := Option.some.inj hp
              refine FL.val rfl rfl rfl (E.pickT rfl c124 rfl) ?_
              exact FL.nil ⟨rfl, _, S129, (Inc.rfl _), rfl⟩
            ·
              refine FL.skip (wF_no rfl rfl rfl c124) rfl ?_
              refine FL.skip (wF_no rfl rfl rfl c124) rfl ?_
              refine FL.skip (wF_no rfl rfl rfl c124) rfl ?_
              refine FL.skip (wF_no rfl rfl rfl c124) rfl ?_
              obtain rfl := Option.some.inj hp
              refine FL.val rfl rfl rfl (E.pickF rfl c124 rfl) ?_
              exact FL.nil ⟨rfl, _, S107, (Inc.rfl _), rfl⟩
          rintro f123 w122 ⟨H119, S120, i121, k130⟩
          refine FL.val rfl rfl rfl (E.assign k130) ?_
          refine FL.nil ?_
          refine FW.ret ?_
          obtain rfl := Option.some.inj hp
          exact ⟨.inr rfl, res1 rfl rfl ⟨rfl, S120.back⟩⟩
        ·
          refine FW.condF rfl c112 ?_
          refine FW.skip ?_
          refine FW.seq ?_
          refine FW.region ?_
          refine FL.val rfl rfl rfl (E.load rfl (run_loadA Tryz.isAgg30 Tryz.sizeOf30 ((at28.mono (i48.tr r108.inc)).now S107.sl) rfl)) ?_
          refine FL.val rfl rfl rfl (E.move (v := v1) rfl) ?_
          refine FL.val rfl rfl rfl (E.move (v := Value.int .i64 a2) rfl) ?_
          refine FL.val rfl rfl rfl (E.fieldAddr tf103_2 rfl) ?_
          refine FL.val rfl rfl rfl (E.load rfl (run_load1 Tryz.isAgg3 ((at49.mono r108.inc).now S107.sl) rfl)) ?_
          obtain ⟨r131, hr132, hp⟩ := bnd hp
          refine FL.call rfl rfl rfl (E.call Tryz.call226 (A4 rfl rfl rfl rfl)) (w_impl_earlier S107.sl a0 v0_1 (p0_1.mono ((i27.tr i48).tr r108.inc)) v1 a1 (p1.mono ((i27.tr i48).tr r108.inc)) a2 x35.right hr132) ?_
          rintro e w134 ⟨H133, v137, rfl, r136, h138⟩
          refine ⟨_, rfl, ?_⟩
          have S135 := S107.call r136
          refine FL.val rfl rfl rfl (E.move (v := Value.tuple #[v137, Value.bool r131.2]) rfl) ?_
          refine FL.val rfl rfl rfl (E.extract (i := 0) rfl rfl) ?_
          refine FL.val rfl rfl rfl (E.extract (i := 1) rfl rfl) ?_
          refine FL.val rfl rfl rfl (E.assign (v := v137) rfl) ?_
          refine FL.val rfl rfl rfl (E.assign (v := Value.bool r131.2) rfl) ?_
          refine FL.nil ?_
          refine FW.seq ?_
          refine FW.seq ?_
          refine FW.region ?_
          refine FL.val rfl rfl rfl (E.move (v := Value.bool r131.2) rfl) ?_
          refine FL.val rfl rfl rfl (E.not rfl) ?_
          refine FL.val rfl rfl rfl (E.move (v := Value.bool (!r131.2)) rfl) ?_
          refine FL.cut 7 (fun f w => ∃ H : GH, St Ha wa H w [] ∧ Inc H133 H ∧ f 7 = Value.pointer (some ⟨b39, 0, none⟩) ∧ f 8 = v109 ∧ f 10 = v137 ∧ f 89 = Value.bool (bif (!r131.2) then true else (!(PF.impl_isVar a0.vars x35.pivot)))) ?_ ?_
          ·
            rcases bcase (!r131.2) with c148 | c148
            ·
              refine FL.skip (wF_no rfl rfl rfl c148) rfl ?_
              refine FL.skip (wF_no rfl rfl rfl c148) rfl ?_
              refine FL.skip (wF_no rfl rfl rfl c148) rfl ?_
              refine FL.skip (wF_no rfl rfl rfl c148) rfl ?_
              refine FL.skip (wF_no rfl rfl rfl c148) rfl ?_
              refine FL.skip (wF_no rfl rfl rfl c148) rfl ?_
              refine FL.val rfl rfl rfl (E.pickT rfl c148 rfl) ?_
              exact FL.nil ⟨rfl, _, S135, (Inc.rfl _), rfl, rfl, rfl, (congrArg Value.bool (bifT c148).symm)⟩
            ·
              refine FL.val (wF_yes rfl rfl rfl c148) rfl rfl (E.fieldAddr tf30_0 rfl) ?_
              refine FL.val (wF_yes rfl rfl rfl c148) rfl rfl (E.load rfl (run_load1 Tryz.isAgg3 ((at28.mono ((i48.tr r108.inc).tr r136.inc)).now S135.sl) rfl)) ?_
              refine FL.val (wF_yes rfl rfl rfl c148) rfl rfl (E.fieldAddr tf103_3 rfl) ?_
              refine FL.val (wF_yes rfl rfl rfl c148) rfl rfl (E.load rfl (run_load1 Tryz.isAgg3 ((at49.mono (r108.inc.tr r136.inc)).now S135.sl) rfl)) ?_
              refine FL.call (wF_yes rfl rfl rfl c148) rfl rfl (E.call Tryz.call147 (A2 rfl rfl)) (w_impl_isVar S135.sl a0.vars x35.pivot) ?_
              rintro e w149 ⟨rfl, r150⟩
              refine ⟨_, rfl, ?_⟩
              have S151 := S135.call r150
              refine FL.val (wF_yes rfl rfl rfl c148) rfl rfl (E.not rfl) ?_
              refine FL.val rfl rfl rfl (E.pickF rfl c148 rfl) ?_
              exact FL.nil ⟨rfl, _, S151, (Inc.rfl _), rfl, rfl, rfl, (congrArg Value.bool (bifF c148).symm)⟩
          rintro f147 w146 ⟨H143, S144, i145, k152, k153, k154, k155⟩
          refine FL.nil ?_
          rcases ifB hp with ⟨c156, hp⟩ | ⟨c156, hp⟩
          ·
            refine FW.condT k155 c156 ?_
            refine FW.seq ?_
            refine FW.region ?_
            refine FL.val rfl rfl rfl (E.assign (v := Value.bool false) rfl) ?_
            refine FL.nil ?_
            refine FW.ret ?_
            obtain rfl := Option.some.inj hp
            exact ⟨.inr rfl, res1 rfl rfl ⟨rfl, S144.back⟩⟩
          ·
            refine FW.condF k155 c156 ?_
            refine FW.skip ?_
            refine FW.seq ?_
            refine FW.region ?_
            refine FL.val rfl rfl rfl (E.move k153) ?_
            refine FL.val rfl rfl rfl (E.move k154) ?_
            refine FL.val rfl rfl rfl (E.fieldAddr tf103_3 k152) ?_
            refine FL.val rfl rfl rfl (E.load rfl (run_load1 Tryz.isAgg3 ((at49.mono ((r108.inc.tr r136.inc).tr i145)).now S144.sl) rfl)) ?_
            obtain ⟨r157, hr158, hp⟩ := bnd hp
            refine FL.call rfl rfl rfl (E.call Tryz.call148 (A3 rfl rfl rfl)) (w_impl_resolve S144.sl v109 r103.1 (h110.mono (r136.inc.tr i145)) v137 r131.1 (h138.mono i145) x35.pivot hr158) ?_
            rintro e w160 ⟨H159, v163, n164, cs165, rfl, r162, els166⟩
            refine ⟨_, rfl, ?_⟩
            have els166 := els166.mono (up_le S144.size)
            have S161 := S144.join (l' := [.row 3 1 v163 n164 cs165]) r162 rfl
            refine FL.val rfl rfl rfl (E.move (v := Value.tuple #[v163, Value.bool r157.2]) rfl) ?_
            refine FL.val rfl rfl rfl (E.extract (i := 0) rfl rfl) ?_
            refine FL.val rfl rfl rfl (E.extract (i := 1) rfl rfl) ?_
            refine FL.val rfl rfl rfl (E.assign (v := v163) rfl) ?_
            refine FL.val rfl rfl rfl (E.assign (v := Value.bool r157.2) rfl) ?_
            refine FL.nil ?_
            refine FW.seq ?_
            refine FW.region ?_
            refine FL.val rfl rfl rfl (E.move (v := Value.bool r157.2) rfl) ?_
            refine FL.val rfl rfl rfl (E.move (v := Value.bool r157.2) rfl) ?_
            obtain ⟨t177, hqt177, hp⟩ := bnd hp
            refine FL.cut 5 (fun f w => ∃ H : GH, St Ha wa H w [.row 3 1 v163 n164 cs165] ∧ Inc H159 H ∧ f 104 = Value.bool t177) ?_ ?_
            ·
              clear hp; have hp := hqt177; clear hqt177
              rcases ifB hp with ⟨c183, hp⟩ | ⟨c183, hp⟩
              ·
                refine FL.val (wF_yes rfl rfl rfl c183) rfl rfl (E.move (v := v163) rfl) ?_
                refine FL.val (wF_yes rfl rfl rfl c183) rfl rfl (E.fieldAddr tf103_0 k152) ?_
                refine FL.val (wF_yes rfl rfl rfl c183) rfl rfl (E.load rfl (run_load1 Tryz.isAgg61 ((at49.mono (((r108.inc.tr r136.inc).tr i145).tr r162.run.inc)).now S161.sl) rfl)) ?_
                obtain ⟨H184, S185, i186, h187, nv188⟩ := S161.sealRowU (i := 0) (l' := []) rfl els166 (by decide) rfl
                obtain ⟨r189, hr190, hp⟩ := bnd hp
                refine FL.call (wF_yes rfl rfl rfl c183) rfl rfl (E.call Tryz.call80 (A2 rfl rfl)) (w_slices_Equal_int_int S185.sl v163 r157.1 (h187.mono upI) v37 x35.clause (h38.mono ((((((i27.tr i48).tr r108.inc).tr r136.inc).tr i145).tr r162.run.inc).tr i186)) hr190) ?_
                rintro e w191 ⟨rfl, r192⟩
                refine ⟨_, rfl, ?_⟩
                have r192 := Run.lend i186 S161.sl r192
                have S193 := S161.call r192
                obtain rfl := Option.some.inj hp
                refine FL.val rfl rfl rfl (E.pickT rfl c183 rfl) ?_
                exact FL.nil ⟨rfl, _, S193, (Inc.rfl _), rfl⟩
              ·
                refine FL.skip (wF_no rfl rfl rfl c183) rfl ?_
                refine FL.skip (wF_no rfl rfl rfl c183) rfl ?_
                refine FL.skip (wF_no rfl rfl rfl c183) rfl ?_
                refine FL.skip (wF_no rfl rfl rfl c183) rfl ?_
                obtain rfl := Option.some.inj hp
                refine FL.val rfl rfl rfl (E.pickF rfl c183 rfl) ?_
                exact FL.nil ⟨rfl, _, S161, (Inc.rfl _), rfl⟩
            rintro f182 w181 ⟨H178, S179, i180, k194⟩
            refine FL.val rfl rfl rfl (E.assign k194) ?_
            refine FL.nil ?_
            refine FW.ret ?_
            obtain rfl := Option.some.inj hp
            exact ⟨.inr rfl, res1 rfl rfl ⟨rfl, S179.back⟩⟩

theorem w_impl_firstWrong {Ha : GH} {wa : World} (hs : Sl Ha wa) (a0 : Cnf) (v0_1 : Value) (p0_1 : RSl Ha (eL eI 1) 1 v0_1 a0.clauses) (v1 : Value) (a1 : List ResStep) (p1 : RSl Ha eResStep 4 v1 a1) {r : Int} (hp : (PF.impl_firstWrong a0 a1) = some r) :
    Calls Tryz.prog 160 #[Value.agg #[Value.int .i64 a0.vars, v0_1], v1] wa (Sc Ha wa (Value.int .i64 r)) := by
  unfold PF.impl_firstWrong at hp
  have S0 := St.init hs
  refine calls_go (N := 18) (args := [Value.agg #[Value.int .i64 a0.vars, v0_1], v1]) Tryz.func160 rfl rfl rfl ?_
  refine FW.seq ?_
  refine FW.region ?_
  obtain ⟨b21, w22, run23, S24⟩ := S0.box (P := Tryz.prog) 30 [Value.int .i64 a0.vars, v0_1] (v := Value.agg #[Value.int .i64 a0.vars, v0_1]) rfl (ones_cons rfl (ones_cons p0_1.one ones_nil))
  refine FL.val rfl rfl rfl (E.box rfl run23) ?_
  obtain ⟨H25, S26, i27, at28⟩ := S24.sealBox (i := 0) (l' := []) rfl rfl
  refine FL.val rfl rfl rfl (E.assign (v := Value.int .i64 0) rfl) ?_
  refine FL.nil ?_
  refine FW.seq ?_
  refine FW.seq ?_
  refine FW.region ?_
  refine FL.val rfl rfl rfl (E.move (v := v1) rfl) ?_
  refine FL.val rfl rfl rfl (E.lenP te41 rfl p1) ?_
  refine FL.val rfl rfl rfl (E.move (v := Value.int .i64 0) rfl) ?_
  refine FL.nil ?_
  obtain ⟨q30, hq, hp⟩ := bndR hp
  refine FW.block ?_
  refine FW.mono (FW.forL (S := Unit) (X := Int) (fun (i30 : Nat) (s30 : Unit) f w => ∃ H : GH, St Ha wa H w [] ∧ Inc H25 H ∧ f 8 = Value.int .i64 ((i30 : Nat) : Int) ∧ f 1 = v1 ∧ f 2 = Value.pointer (some ⟨b21, 0, none⟩) ∧ f 7 = Value.int .i64 (len a1)) (fun q e f w => match q with | .go s30 => e = Exit.exit 0 ∧ (∃ H : GH, St Ha wa H w [] ∧ Inc H25 H) | .rt x => ((e = Exit.ret) ∧ (fun e f w => (e = Exit.normal ∨ e = Exit.ret) ∧ ∀ a, Fr 18 a f → ∃ v, (results Tryz.f160 a.tmps).run Tryz.prog w = .ok v w ∧ (Sc Ha wa (Value.int .i64 x)) (.returned v) w) e f w)) hq ⟨_, S26, (Inc.rfl _), rfl, rfl, rfl, rfl⟩ ?_ ?_) ?_
  ·
    clear hp hq
    rintro i30 y29 s30 f50 w49 ⟨H46, S47, i48, k51, k52, k53, k54⟩ hx30 o61 hp
    refine FW.seq ?_
    refine FW.region ?_
    refine FL.val rfl rfl rfl (E.lssT k51 k54 (lss_len hx30)) ?_
    refine FL.nil ?_
    refine FW.seq ?_
    refine FW.condT rfl rfl ?_
    refine FW.skip ?_
    refine FW.seq ?_
    refine FW.block ?_
    refine FW.seq ?_
    refine FW.region ?_
    refine FL.val rfl rfl rfl (E.move k51) ?_
    refine FL.val rfl rfl rfl (E.assign (v := Value.int .i64 ((i30 : Nat) : Int)) rfl) ?_
    refine FL.nil ?_
    refine FW.seq ?_
    refine FW.region ?_
    refine FL.val rfl rfl rfl (E.load k53 (run_loadA Tryz.isAgg30 Tryz.sizeOf30 ((at28.mono i48).now S47.sl) rfl)) ?_
    refine FL.val rfl rfl rfl (E.move k52) ?_
    refine FL.val rfl rfl rfl (E.move (v := Value.int .i64 ((i30 : Nat) : Int)) rfl) ?_
    obtain ⟨r55, hr56, hp⟩ := bnd hp
    refine FL.call rfl rfl rfl (E.call Tryz.call198 (A3 rfl rfl rfl)) (w_impl_correct S47.sl a0 v0_1 (p0_1.mono (i27.tr i48)) v1 a1 (p1.mono (i27.tr i48)) ((i30 : Nat) : Int) hr56) ?_
    rintro e w57 ⟨rfl, r58⟩
    refine ⟨_, rfl, ?_⟩
    have S59 := S47.call r58
    refine FL.val rfl rfl rfl (E.not rfl) ?_
    refine FL.nil ?_
    rcases ifB hp with ⟨c60, hp⟩ | ⟨c60, hp⟩
    ·
      refine FW.condT rfl c60 ?_
      refine FW.seq ?_
      refine FW.region ?_
      refine FL.val rfl rfl rfl (E.move (v := Value.int .i64 ((i30 : Nat) : Int)) rfl) ?_
      refine FL.val rfl rfl rfl (E.assign (v := Value.int .i64 ((i30 : Nat) : Int)) rfl) ?_
      refine FL.nil ?_
      refine FW.ret ?_
      obtain rfl := Option.some.inj hp
      exact ⟨nofun, rfl, ⟨.inr rfl, res1 rfl rfl ⟨rfl, S59.back⟩⟩⟩
    ·
      refine FW.condF rfl c60 ?_
      refine FW.skip ?_
      refine FW.region ?_
      refine FL.val rfl rfl rfl (E.add k51 rfl) ?_
      refine FL.val rfl rfl rfl (E.move (v := Value.int .i64 (wr (((i30 : Nat) : Int) + 1))) rfl) ?_
      refine FL.nil ?_
      obtain rfl := Option.some.inj hp
      exact ⟨rfl, ⟨_, S59, i48, (nat_succ rfl (lt_of_get hx30) (p1.mono (i27.tr i48)).le), k52, k53, k54⟩⟩
  ·
    clear hp hq
    rintro s30 f71 w70 ⟨H67, S68, i69, k72, k73, k74, k75⟩
    refine FW.seq ?_
    refine FW.region ?_
    refine FL.val rfl rfl rfl (E.lss k72 k75) ?_
    refine FL.nil ?_
    refine FW.seq ?_
    refine FW.condF rfl dlt_len ?_
    refine FW.exit ?_
    exact ⟨nofun, rfl, ⟨_, S68, i69⟩⟩
  ·
    clear hq
    intro e f66 w65 hD
    rcases q30 with s30 | x30
    ·
      obtain ⟨rfl, hD⟩ := hD
      obtain ⟨H62, S63, i64⟩ := hD
      replace hp := el_go hp
      refine FW.seq ?_
      refine FW.region ?_
      refine FL.val rfl rfl rfl (E.assign (v := Value.int .i64 (-1)) rfl) ?_
      refine FL.nil ?_
      refine FW.ret ?_
      obtain rfl := Option.some.inj hp
      exact ⟨.inr rfl, res1 rfl rfl ⟨rfl, S63.back⟩⟩
    ·
      obtain ⟨he, hL⟩ := hD
      replace hp := el_rt hp
      obtain rfl := Option.some.inj hp
      subst he
      exact hL

theorem w_impl_IsDerivation {Ha : GH} {wa : World} (hs : Sl Ha wa) (a0 : Cnf) (v0_1 : Value) (p0_1 : RSl Ha (eL eI 1) 1 v0_1 a0.clauses) (v1 : Value) (a1 : List ResStep) (p1 : RSl Ha eResStep 4 v1 a1) {r : Bool} (hp : (PF.impl_IsDerivation a0 a1) = some r) :
    Calls Tryz.prog 110 #[Value.agg #[Value.int .i64 a0.vars, v0_1], v1] wa (Sc Ha wa (Value.bool r)) := by
  unfold PF.impl_IsDerivation at hp
  have S0 := St.init hs
  refine calls_go (N := 18) (args := [Value.agg #[Value.int .i64 a0.vars, v0_1], v1]) Tryz.func110 rfl rfl rfl ?_
  refine FW.seq ?_
  refine FW.region ?_
  obtain ⟨b21, w22, run23, S24⟩ := S0.box (P := Tryz.prog) 30 [Value.int .i64 a0.vars, v0_1] (v := Value.agg #[Value.int .i64 a0.vars, v0_1]) rfl (ones_cons rfl (ones_cons p0_1.one ones_nil))
  refine FL.val rfl rfl rfl (E.box rfl run23) ?_
  obtain ⟨H25, S26, i27, at28⟩ := S24.sealBox (i := 0) (l' := []) rfl rfl
  refine FL.val rfl rfl rfl (E.assign (v := Value.bool false) rfl) ?_
  refine FL.nil ?_
  refine FW.seq ?_
  refine FW.region ?_
  refine FL.val rfl rfl rfl (E.load rfl (run_loadA Tryz.isAgg30 Tryz.sizeOf30 (at28.now S26.sl) rfl)) ?_
  obtain ⟨r29, hr30, hp⟩ := bnd hp
  refine FL.call rfl rfl rfl (E.call Tryz.call135 (A1 rfl)) (w_impl_IsCnf S26.sl a0 v0_1 (p0_1.mono i27) hr30) ?_
  rintro e w31 ⟨rfl, r32⟩
  refine ⟨_, rfl, ?_⟩
  have S33 := S26.call r32
  refine FL.val rfl rfl rfl (E.move (v := Value.bool r29) rfl) ?_
  refine FL.cut 4 (fun f w => ∃ H : GH, St Ha wa H w [] ∧ Inc H25 H ∧ f 1 = v1 ∧ f 2 = Value.pointer (some ⟨b21, 0, none⟩) ∧ f 11 = Value.bool (bif r29 then (decide ((len a1) ≤ 200)) else false)) ?_ ?_
  ·
    rcases bcase r29 with c40 | c40
    ·
      refine FL.val (wF_yes rfl rfl rfl c40) rfl rfl (E.move (v := v1) rfl) ?_
      refine FL.val (wF_yes rfl rfl rfl c40) rfl rfl (E.lenP te41 rfl p1) ?_
      refine FL.val (wF_yes rfl rfl rfl c40) rfl rfl (E.leq rfl rfl) ?_
      refine FL.val rfl rfl rfl (E.pickT rfl c40 rfl) ?_
      exact FL.nil ⟨rfl, _, S33, (Inc.rfl _), rfl, rfl, (congrArg Value.bool (bifT c40).symm)⟩
    ·
      refine FL.skip (wF_no rfl rfl rfl c40) rfl ?_
      refine FL.skip (wF_no rfl rfl rfl c40) rfl ?_
      refine FL.skip (wF_no rfl rfl rfl c40) rfl ?_
      refine FL.val rfl rfl rfl (E.pickF rfl c40 rfl) ?_
      exact FL.nil ⟨rfl, _, S33, (Inc.rfl _), rfl, rfl, (congrArg Value.bool (bifF c40).symm)⟩
  rintro f39 w38 ⟨H35, S36, i37, k41, k42, k43⟩
  refine FL.val rfl rfl rfl (E.move k43) ?_
  obtain ⟨t49, hqt49, hp⟩ := bnd hp
  refine FL.cut 5 (fun f w => ∃ H : GH, St Ha wa H w [] ∧ Inc H35 H ∧ f 17 = Value.bool t49) ?_ ?_
  ·
    clear hp; have hp := hqt49; clear hqt49
    rcases ifB hp with ⟨c55, hp⟩ | ⟨c55, hp⟩
    ·
      refine FL.val (wF_yes rfl rfl rfl c55) rfl rfl (E.load k42 (run_loadA Tryz.isAgg30 Tryz.sizeOf30 ((at28.mono i37).now S36.sl) rfl)) ?_
      refine FL.val (wF_yes rfl rfl rfl c55) rfl rfl (E.move k41) ?_
      obtain ⟨r56, hr57, hp⟩ := bnd hp
      refine FL.call (wF_yes rfl rfl rfl c55) rfl rfl (E.call Tryz.call160 (A2 rfl rfl)) (w_impl_firstWrong S36.sl a0 v0_1 (p0_1.mono (i27.tr i37)) v1 a1 (p1.mono (i27.tr i37)) hr57) ?_
      rintro e w58 ⟨rfl, r59⟩
      refine ⟨_, rfl, ?_⟩
      have S60 := S36.call r59
      refine FL.val (wF_yes rfl rfl rfl c55) rfl rfl (E.lss rfl rfl) ?_
      obtain rfl := Option.some.inj hp
      refine FL.val rfl rfl rfl (E.pickT rfl c55 rfl) ?_
      exact FL.nil ⟨rfl, _, S60, (Inc.rfl _), rfl⟩
    ·
      refine FL.skip (wF_no rfl rfl rfl c55) rfl ?_
      refine FL.skip (wF_no rfl rfl rfl c55) rfl ?_
      refine FL.skip (wF_no rfl rfl rfl c55) rfl ?_
      refine FL.skip (wF_no rfl rfl rfl c55) rfl ?_
      obtain rfl := Option.some.inj hp
      refine FL.val rfl rfl rfl (E.pickF rfl c55 rfl) ?_
      exact FL.nil ⟨rfl, _, S36, (Inc.rfl _), rfl⟩
  rintro f54 w53 ⟨H50, S51, i52, k61⟩
  refine FL.val rfl rfl rfl (E.assign k61) ?_
  refine FL.nil ?_
  refine FW.ret ?_
  obtain rfl := Option.some.inj hp
  exact ⟨.inr rfl, res1 rfl rfl ⟨rfl, S51.back⟩⟩

theorem w_impl_ResStep_isAxiom {Ha : GH} {wa : World} (hs : Sl Ha wa) (a0 : ResStep) (v0_0 : Value) (p0_0 : RSl Ha eI 1 v0_0 a0.clause) :
    Calls Tryz.prog 121 #[Value.agg #[v0_0, Value.int .i64 a0.left, Value.int .i64 a0.right, Value.int .i64 a0.pivot]] wa (Sc Ha wa (Value.bool (PF.impl_ResStep_isAxiom a0))) := by
  obtain ⟨r, hp⟩ : ∃ r, (PF.impl_ResStep_isAxiom a0) = r := ⟨_, rfl⟩
  rw [hp]
  unfold PF.impl_ResStep_isAxiom at hp
  have S0 := St.init hs
  refine calls_go (N := 6) (args := [Value.agg #[v0_0, Value.int .i64 a0.left, Value.int .i64 a0.right, Value.int .i64 a0.pivot]]) Tryz.func121 rfl rfl rfl ?_
  refine FW.seq ?_
  refine FW.region ?_
  obtain ⟨b21, w22, run23, S24⟩ := S0.box (P := Tryz.prog) 103 [v0_0, Value.int .i64 a0.left, Value.int .i64 a0.right, Value.int .i64 a0.pivot] (v := Value.agg #[v0_0, Value.int .i64 a0.left, Value.int .i64 a0.right, Value.int .i64 a0.pivot]) rfl (ones_cons p0_0.one (ones_cons rfl (ones_cons rfl (ones_cons rfl ones_nil))))
  refine FL.val rfl rfl rfl (E.box rfl run23) ?_
  obtain ⟨H25, S26, i27, at28⟩ := S24.sealBox (i := 0) (l' := []) rfl rfl
  refine FL.val rfl rfl rfl (E.assign (v := Value.bool false) rfl) ?_
  refine FL.nil ?_
  refine FW.seq ?_
  refine FW.region ?_
  refine FL.val rfl rfl rfl (E.fieldAddr tf103_1 rfl) ?_
  refine FL.val rfl rfl rfl (E.load rfl (run_load1 Tryz.isAgg3 (at28.now S26.sl) rfl)) ?_
  refine FL.val rfl rfl rfl (E.lss rfl rfl) ?_
  refine FL.val rfl rfl rfl (E.assign (v := Value.bool (decide (a0.left < 0))) rfl) ?_
  refine FL.nil ?_
  refine FW.ret ?_
  obtain rfl := hp
  exact ⟨.inr rfl, res1 rfl rfl ⟨rfl, S26.back⟩⟩

theorem w_impl_ResStep_isWeakening {Ha : GH} {wa : World} (hs : Sl Ha wa) (a0 : ResStep) (v0_0 : Value) (p0_0 : RSl Ha eI 1 v0_0 a0.clause) :
    Calls Tryz.prog 161 #[Value.agg #[v0_0, Value.int .i64 a0.left, Value.int .i64 a0.right, Value.int .i64 a0.pivot]] wa (Sc Ha wa (Value.bool (PF.impl_ResStep_isWeakening a0))) := by
  obtain ⟨r, hp⟩ : ∃ r, (PF.impl_ResStep_isWeakening a0) = r := ⟨_, rfl⟩
  rw [hp]
  unfold PF.impl_ResStep_isWeakening at hp
  have S0 := St.init hs
  refine calls_go (N := 11) (args := [Value.agg #[v0_0, Value.int .i64 a0.left, Value.int .i64 a0.right, Value.int .i64 a0.pivot]]) Tryz.func161 rfl rfl rfl ?_
  refine FW.seq ?_
  refine FW.region ?_
  obtain ⟨b21, w22, run23, S24⟩ := S0.box (P := Tryz.prog) 103 [v0_0, Value.int .i64 a0.left, Value.int .i64 a0.right, Value.int .i64 a0.pivot] (v := Value.agg #[v0_0, Value.int .i64 a0.left, Value.int .i64 a0.right, Value.int .i64 a0.pivot]) rfl (ones_cons p0_0.one (ones_cons rfl (ones_cons rfl (ones_cons rfl ones_nil))))
  refine FL.val rfl rfl rfl (E.box rfl run23) ?_
  obtain ⟨H25, S26, i27, at28⟩ := S24.sealBox (i := 0) (l' := []) rfl rfl
  refine FL.val rfl rfl rfl (E.assign (v := Value.bool false) rfl) ?_
  refine FL.nil ?_
  refine FW.seq ?_
  refine FW.region ?_
  refine FL.val rfl rfl rfl (E.fieldAddr tf103_1 rfl) ?_
  refine FL.val rfl rfl rfl (E.load rfl (run_load1 Tryz.isAgg3 (at28.now S26.sl) rfl)) ?_
  refine FL.val rfl rfl rfl (E.geq rfl rfl) ?_
  refine FL.val rfl rfl rfl (E.move (v := Value.bool (decide (0 ≤ a0.left))) rfl) ?_
  refine FL.cut 4 (fun f w => ∃ H : GH, St Ha wa H w [] ∧ Inc H25 H ∧ f 10 = Value.bool (bif (decide (0 ≤ a0.left)) then (decide (a0.right < 0)) else false)) ?_ ?_
  ·
    rcases bcase (decide (0 ≤ a0.left)) with c35 | c35
    ·
      refine FL.val (wF_yes rfl rfl rfl c35) rfl rfl (E.fieldAddr tf103_2 rfl) ?_
      refine FL.val (wF_yes rfl rfl rfl c35) rfl rfl (E.load rfl (run_load1 Tryz.isAgg3 (at28.now S26.sl) rfl)) ?_
      refine FL.val (wF_yes rfl rfl rfl c35) rfl rfl (E.lss rfl rfl) ?_
      refine FL.val rfl rfl rfl (E.pickT rfl c35 rfl) ?_
      exact FL.nil ⟨rfl, _, S26, (Inc.rfl _), (congrArg Value.bool (bifT c35).symm)⟩
    ·
      refine FL.skip (wF_no rfl rfl rfl c35) rfl ?_
      refine FL.skip (wF_no rfl rfl rfl c35) rfl ?_
      refine FL.skip (wF_no rfl rfl rfl c35) rfl ?_
      refine FL.val rfl rfl rfl (E.pickF rfl c35 rfl) ?_
      exact FL.nil ⟨rfl, _, S26, (Inc.rfl _), (congrArg Value.bool (bifF c35).symm)⟩
  rintro f34 w33 ⟨H30, S31, i32, k36⟩
  refine FL.val rfl rfl rfl (E.assign k36) ?_
  refine FL.nil ?_
  refine FW.ret ?_
  obtain rfl := hp
  exact ⟨.inr rfl, res1 rfl rfl ⟨rfl, S31.back⟩⟩

@[reducible] def p_impl_ResStep_premises (Ha : GH) (wa : World) (r : (List Int)) : Ending → World → Prop :=
  fun e w' => ∃ H' : GH, ∃ v0 : Value, ∃ n0 : Nat, ∃ c0 : List Value, e = .returned (v0) ∧ St Ha wa H' w' [.row 3 1 v0 n0 c0] ∧ Els (up wa.heap.size H') eI 1 c0 r
theorem w_impl_ResStep_premises {Ha : GH} {wa : World} (hs : Sl Ha wa) (a0 : ResStep) (v0_0 : Value) (p0_0 : RSl Ha eI 1 v0_0 a0.clause) :
    Calls Tryz.prog 112 #[Value.agg #[v0_0, Value.int .i64 a0.left, Value.int .i64 a0.right, Value.int .i64 a0.pivot]] wa (p_impl_ResStep_premises Ha wa (PF.impl_ResStep_premises a0)) := by
  obtain ⟨r, hp⟩ : ∃ r, (PF.impl_ResStep_premises a0) = r := ⟨_, rfl⟩
  rw [hp]
  unfold PF.impl_ResStep_premises at hp
  have S0 := St.init hs
  refine calls_go (N := 17) (args := [Value.agg #[v0_0, Value.int .i64 a0.left, Value.int .i64 a0.right, Value.int .i64 a0.pivot]]) Tryz.func112 rfl rfl rfl ?_
  refine FW.seq ?_
  refine FW.region ?_
  obtain ⟨b21, w22, run23, S24⟩ := S0.box (P := Tryz.prog) 103 [v0_0, Value.int .i64 a0.left, Value.int .i64 a0.right, Value.int .i64 a0.pivot] (v := Value.agg #[v0_0, Value.int .i64 a0.left, Value.int .i64 a0.right, Value.int .i64 a0.pivot]) rfl (ones_cons p0_0.one (ones_cons rfl (ones_cons rfl (ones_cons rfl ones_nil))))
  refine FL.val rfl rfl rfl (E.box rfl run23) ?_
  obtain ⟨H25, S26, i27, at28⟩ := S24.sealBox (i := 0) (l' := []) rfl rfl
  refine FL.val rfl rfl rfl (E.assign (v := Value.slice none 0 0) rfl) ?_
  refine FL.nil ?_
  refine FW.seq ?_
  refine FW.block ?_
  refine FW.seq ?_
  refine FW.region ?_
  refine FL.val rfl rfl rfl (E.load rfl (run_loadA Tryz.isAgg103 Tryz.sizeOf103 (at28.now S26.sl) rfl)) ?_
  refine FL.call rfl rfl rfl (E.call Tryz.call121 (A1 rfl)) (w_impl_ResStep_isAxiom S26.sl a0 v0_0 (p0_0.mono i27)) ?_
  rintro e w29 ⟨rfl, r30⟩
  refine ⟨_, rfl, ?_⟩
  have S31 := S26.call r30
  refine FL.val rfl rfl rfl (E.assign (v := Value.bool (PF.impl_ResStep_isAxiom a0)) rfl) ?_
  refine FL.nil ?_
  rcases ifT hp with ⟨c32, hp⟩ | ⟨c32, hp⟩
  ·
    refine FW.condT rfl c32 ?_
    refine FW.seq ?_
    refine FW.region ?_
    refine FL.val rfl rfl rfl (E.assign (v := Value.slice none 0 0) rfl) ?_
    refine FL.nil ?_
    refine FW.ret ?_
    obtain rfl := hp
    exact ⟨.inr rfl, res1 rfl rfl ⟨_, _, _, _, rfl, (S31.nil 3 1), Els.nil⟩⟩
  ·
    refine FW.condF rfl c32 ?_
    refine FW.seq ?_
    refine FW.region ?_
    refine FL.val rfl rfl rfl (E.load rfl (run_loadA Tryz.isAgg103 Tryz.sizeOf103 (at28.now S31.sl) rfl)) ?_
    refine FL.call rfl rfl rfl (E.call Tryz.call161 (A1 rfl)) (w_impl_ResStep_isWeakening S31.sl a0 v0_0 (p0_0.mono i27)) ?_
    rintro e w33 ⟨rfl, r34⟩
    refine ⟨_, rfl, ?_⟩
    have S35 := S31.call r34
    refine FL.val rfl rfl rfl (E.assign (v := Value.bool (PF.impl_ResStep_isWeakening a0)) rfl) ?_
    refine FL.nil ?_
    rcases ifT hp with ⟨c36, hp⟩ | ⟨c36, hp⟩
    ·
      refine FW.condT rfl c36 ?_
      refine FW.seq ?_
      refine FW.region ?_
      refine FL.val rfl rfl rfl (E.fieldAddr tf103_1 rfl) ?_
      refine FL.val rfl rfl rfl (E.load rfl (run_load1 Tryz.isAgg3 (at28.now S35.sl) rfl)) ?_
      obtain ⟨v37, w38, run39, S40⟩ := S35.buildSlice (P := Tryz.prog) te61 [Value.int .i64 a0.left] (parts := #[(0, Value.int .i64 a0.left)]) (cells := [Value.int .i64 a0.left]) rfl (szs_cons rfl szs_nil) (fc_cons rfl fc_nil) (ones_cons rfl ones_nil) (Nat.le_of_ble_eq_true rfl)
      have els41 : Els (up wa.heap.size H25) eI 1 [Value.int .i64 a0.left] [a0.left] := (Els.snoc (H := (up wa.heap.size H25)) (E := eI) (k := 1) (c := [Value.int .i64 a0.left]) (x := a0.left) Els.nil rfl rfl)
      refine FL.val rfl rfl rfl (E.buildSlice (B1 rfl) run39) ?_
      refine FL.val rfl rfl rfl (E.assign (v := v37) rfl) ?_
      refine FL.nil ?_
      refine FW.ret ?_
      obtain rfl := hp
      exact ⟨.inr rfl, res1 rfl rfl ⟨_, _, _, _, rfl, S40, els41⟩⟩
    ·
      refine FW.condF rfl c36 ?_
      refine FW.skip ?_
      refine FW.seq ?_
      refine FW.region ?_
      refine FL.val rfl rfl rfl (E.fieldAddr tf103_1 rfl) ?_
      refine FL.val rfl rfl rfl (E.load rfl (run_load1 Tryz.isAgg3 (at28.now S35.sl) rfl)) ?_
      refine FL.val rfl rfl rfl (E.fieldAddr tf103_2 rfl) ?_
      refine FL.val rfl rfl rfl (E.load rfl (run_load1 Tryz.isAgg3 (at28.now S35.sl) rfl)) ?_
      obtain ⟨v42, w43, run44, S45⟩ := S35.buildSlice (P := Tryz.prog) te61 [Value.int .i64 a0.left, Value.int .i64 a0.right] (parts := #[(0, Value.int .i64 a0.left), (1, Value.int .i64 a0.right)]) (cells := [Value.int .i64 a0.left, Value.int .i64 a0.right]) rfl (szs_cons rfl (szs_cons rfl szs_nil)) (fc_cons rfl (fc_cons rfl fc_nil)) (ones_cons rfl (ones_cons rfl ones_nil)) (Nat.le_of_ble_eq_true rfl)
      have els46 : Els (up wa.heap.size H25) eI 1 [Value.int .i64 a0.left, Value.int .i64 a0.right] [a0.left, a0.right] := (Els.snoc (H := (up wa.heap.size H25)) (E := eI) (k := 1) (c := [Value.int .i64 a0.right]) (x := a0.right) (Els.snoc (H := (up wa.heap.size H25)) (E := eI) (k := 1) (c := [Value.int .i64 a0.left]) (x := a0.left) Els.nil rfl rfl) rfl rfl)
      refine FL.val rfl rfl rfl (E.buildSlice (B2 rfl rfl) run44) ?_
      refine FL.val rfl rfl rfl (E.assign (v := v42) rfl) ?_
      refine FL.nil ?_
      refine FW.ret ?_
      obtain rfl := hp
      exact ⟨.inr rfl, res1 rfl rfl ⟨_, _, _, _, rfl, S45, els46⟩⟩

@[reducible] def p_slices_Sort_int_int (H0 : GH) (w0 : World) (Ha : GH) (L : List MO) (v0 : Value) (n0 : Nat) (r : (List Int)) : Ending → World → Prop :=
  fun e w' => ∃ H' : GH, ∃ c0k : List Value, e = .returned (Value.tuple #[]) ∧ (St H0 w0 H' w' (.row 3 1 v0 n0 c0k :: L) ∧ Inc Ha H') ∧ Els (up w0.heap.size H') eI 1 c0k r
theorem w_slices_Sort_int_int {H0 Ha : GH} {w0 wa : World} {L : List MO} {v0 : Value} {n0 : Nat} {k0 : List Value} (S0 : St H0 w0 Ha wa (.row 3 1 v0 n0 k0 :: L)) (a0 : List Int) (p0 : Els (up w0.heap.size Ha) eI 1 k0 a0) {r : (List Int)} (hp : (PF.slices_Sort_int_int a0) = some r) :
    Calls Tryz.prog 113 #[v0] wa (p_slices_Sort_int_int H0 w0 Ha L v0 n0 r) := by
  refine (St.sortInts (l := .row 3 1 v0 n0 k0 :: L) (i := 0) S0 rfl p0 (fun p cap w => Any.slices_Sort_int_none Tryz.sint113 p cap w) (fun blk off cap zs w hH hb hs => Any.slices_Sort_int Tryz.sint113 blk off cap zs w hH hb hs) hp).mono ?_
  rintro e w' ⟨rfl, c', h1, h2⟩
  exact ⟨_, _, rfl, ⟨h1, Inc.rfl _⟩, h2⟩

@[reducible] def p_impl_DagOfProof (Ha : GH) (wa : World) (r : (Dag × Bool)) : Ending → World → Prop :=
  fun e w' => ∃ H' : GH, ∃ v0_0 : Value, e = .returned (Value.tuple #[Value.agg #[v0_0], Value.bool r.2]) ∧ Run wa.heap.size Ha wa H' w' ∧ (∃ c, Nest (up wa.heap.size H') (eL eI 1) 1 v0_0 r.1.preds c)
theorem w_impl_DagOfProof {Ha : GH} {wa : World} (hs : Sl Ha wa) (a0 : Cnf) (v0_1 : Value) (p0_1 : RSl Ha (eL eI 1) 1 v0_1 a0.clauses) (v1 : Value) (a1 : List ResStep) (p1 : RSl Ha eResStep 4 v1 a1) {r : (Dag × Bool)} (hp : (PF.impl_DagOfProof a0 a1) = some r) :
    Calls Tryz.prog 50 #[Value.agg #[Value.int .i64 a0.vars, v0_1], v1] wa (p_impl_DagOfProof Ha wa r) := by
  unfold PF.impl_DagOfProof at hp
  have S0 := St.init hs
  refine calls_go (N := 40) (args := [Value.agg #[Value.int .i64 a0.vars, v0_1], v1]) Tryz.func50 rfl rfl rfl ?_
  refine FW.seq ?_
  refine FW.region ?_
  obtain ⟨b21, w22, run23, S24⟩ := S0.box (P := Tryz.prog) 30 [Value.int .i64 a0.vars, v0_1] (v := Value.agg #[Value.int .i64 a0.vars, v0_1]) rfl (ones_cons rfl (ones_cons p0_1.one ones_nil))
  refine FL.val rfl rfl rfl (E.box rfl run23) ?_
  obtain ⟨H25, S26, i27, at28⟩ := S24.sealBox (i := 0) (l' := []) rfl rfl
  have S33 := S26.nil 61 1
  have els34 : Els (up wa.heap.size H25) (eL eI 1) 1 [] [] := Els.nil
  obtain ⟨b29, w30, run31, S32⟩ := S33.alloc (P := Tryz.prog) 68 [Value.slice none 0 0] Tryz.zeroValue68 rfl (ones_cons rfl ones_nil)
  refine FL.val rfl rfl rfl (E.alloc run31) ?_
  refine FL.val rfl rfl rfl (E.assign (v := Value.bool false) rfl) ?_
  refine FL.nil ?_
  refine FW.seq ?_
  refine FW.seq ?_
  refine FW.region ?_
  refine FL.val rfl rfl rfl (E.load rfl (run_loadA Tryz.isAgg30 Tryz.sizeOf30 (at28.now S32.sl) rfl)) ?_
  refine FL.val rfl rfl rfl (E.move (v := v1) rfl) ?_
  obtain ⟨r35, hr36, hp⟩ := bnd hp
  refine FL.call rfl rfl rfl (E.call Tryz.call110 (A2 rfl rfl)) (w_impl_IsDerivation S32.sl a0 v0_1 (p0_1.mono i27) v1 a1 (p1.mono i27) hr36) ?_
  rintro e w37 ⟨rfl, r38⟩
  refine ⟨_, rfl, ?_⟩
  have S39 := S32.call r38
  refine FL.val rfl rfl rfl (E.not rfl) ?_
  refine FL.val rfl rfl rfl (E.move (v := Value.bool (!r35)) rfl) ?_
  refine FL.cut 5 (fun f w => ∃ H : GH, St Ha wa H w [.box b29 68 [(Value.slice none 0 0)], .row 61 1 (Value.slice none 0 0) 0 []] ∧ Inc H25 H ∧ f 1 = v1 ∧ f 4 = Value.pointer (some (⟨b29, 0, none⟩ : Addr)) ∧ f 19 = Value.bool (bif (!r35) then true else (!(PF.impl_within (len a1) 1 10)))) ?_ ?_
  ·
    rcases bcase (!r35) with c49 | c49
    ·
      refine FL.skip (wF_no rfl rfl rfl c49) rfl ?_
      refine FL.skip (wF_no rfl rfl rfl c49) rfl ?_
      refine FL.skip (wF_no rfl rfl rfl c49) rfl ?_
      refine FL.skip (wF_no rfl rfl rfl c49) rfl ?_
      refine FL.val rfl rfl rfl (E.pickT rfl c49 rfl) ?_
      exact FL.nil ⟨rfl, _, S39, (Inc.rfl _), rfl, rfl, (congrArg Value.bool (bifT c49).symm)⟩
    ·
      refine FL.val (wF_yes rfl rfl rfl c49) rfl rfl (E.move (v := v1) rfl) ?_
      refine FL.val (wF_yes rfl rfl rfl c49) rfl rfl (E.lenP te41 rfl p1) ?_
      refine FL.call (wF_yes rfl rfl rfl c49) rfl rfl (E.call Tryz.call111 (A3 rfl rfl rfl)) (w_impl_within S39.sl (len a1) 1 10) ?_
      rintro e w50 ⟨rfl, r51⟩
      refine ⟨_, rfl, ?_⟩
      have S52 := S39.call r51
      refine FL.val (wF_yes rfl rfl rfl c49) rfl rfl (E.not rfl) ?_
      refine FL.val rfl rfl rfl (E.pickF rfl c49 rfl) ?_
      exact FL.nil ⟨rfl, _, S52, (Inc.rfl _), rfl, rfl, (congrArg Value.bool (bifF c49).symm)⟩
  rintro f48 w47 ⟨H44, S45, i46, k53, k54, k55⟩
  refine FL.nil ?_
  rcases ifB hp with ⟨c56, hp⟩ | ⟨c56, hp⟩
  ·
    refine FW.condT k55 c56 ?_
    refine FW.seq ?_
    refine FW.region ?_
    refine FL.val rfl rfl rfl (E.build (B0) (run_build _ 68 #[] #[Value.slice none 0 0] (by rfl))) ?_
    have S57 := S45.nil 61 1
    have els58 : Els (up wa.heap.size H44) (eL eI 1) 1 [] [] := Els.nil
    obtain ⟨w59, run60, S61⟩ := S57.store0 (P := Tryz.prog) (t := 68) (i := 1) (cs' := [(Value.slice none 0 0)]) (l' := [.row 61 1 (Value.slice none 0 0) 0 [], .box b29 68 [(Value.slice none 0 0)], .row 61 1 (Value.slice none 0 0) 0 []]) (v := Value.agg #[(Value.slice none 0 0)]) (c := [(Value.slice none 0 0)]) rfl Tryz.sizeOf68 rfl rfl (ones_cons (Ln.one (S57.row_ln (i := 0) rfl)) ones_nil) (Nat.le_of_ble_eq_true rfl) rfl rfl
    refine FL.act rfl rfl (E.store k54 rfl run60) ?_
    refine FL.val rfl rfl rfl (E.assign (v := Value.bool false) rfl) ?_
    refine FL.nil ?_
    refine FW.ret ?_
    obtain ⟨H62, S63, i64, ns67, nv66⟩ := S61.sealRowN (i := 0) (l' := [.box b29 68 [(Value.slice none 0 0)], .row 61 1 (Value.slice none 0 0) 0 []]) rfl els58 (show (bl []).Nodup from List.nodup_nil) (by decide) rfl
    have h65 := ns67.rsl
    obtain rfl := Option.some.inj hp
    exact ⟨.inr rfl, resC2 rfl k54 (loadVar_A Tryz.isAgg68 Tryz.sizeOf68 (S63.box_now (i := 0) rfl) rfl) rfl ⟨_, _, rfl, S63.run, ⟨_, ns67⟩⟩⟩
  ·
    refine FW.condF k55 c56 ?_
    refine FW.skip ?_
    refine FW.seq ?_
    refine FW.region ?_
    have S72 := S45.nil 61 1
    have els73 : Els (up wa.heap.size H44) (eL eI 1) 1 [] [] := Els.nil
    obtain ⟨b68, w69, run70, S71⟩ := S72.alloc (P := Tryz.prog) 68 [Value.slice none 0 0] Tryz.zeroValue68 rfl (ones_cons rfl ones_nil)
    refine FL.val rfl rfl rfl (E.alloc run70) ?_
    refine FL.nil ?_
    refine FW.seq ?_
    refine FW.seq ?_
    refine FW.region ?_
    refine FL.val rfl rfl rfl (E.move k53) ?_
    refine FL.val rfl rfl rfl (E.lenP te41 rfl p1) ?_
    refine FL.val rfl rfl rfl (E.move (v := Value.int .i64 0) rfl) ?_
    refine FL.nil ?_
    obtain ⟨q75, hq, hp⟩ := bndR hp
    refine FW.block ?_
    refine FW.mono (FW.forL (S := (List (List Int))) (X := Empty) (fun (i75 : Nat) (s75 : (List (List Int))) f w => ∃ H : GH, ∃ v4137 : Value, ∃ n4138 : Nat, ∃ cs4139 : List Value, St Ha wa H w [.box b68 68 [v4137], .row 61 1 v4137 n4138 cs4139, .box b29 68 [(Value.slice none 0 0)], .row 61 1 (Value.slice none 0 0) 0 []] ∧ Inc H44 H ∧ Els (up wa.heap.size H) (eL eI 1) 1 cs4139 s75 ∧ (bl cs4139).Nodup ∧ f 23 = Value.int .i64 ((i75 : Nat) : Int) ∧ f 4 = Value.pointer (some (⟨b29, 0, none⟩ : Addr)) ∧ f 6 = Value.pointer (some (⟨b68, 0, none⟩ : Addr)) ∧ f 21 = v1 ∧ f 22 = Value.int .i64 (len a1)) (fun (q : Rs (List (List Int)) Empty) e f w => match q with | .go s75 => e = Exit.exit 0 ∧ (∃ H : GH, ∃ v4137 : Value, ∃ n4138 : Nat, ∃ cs4139 : List Value, St Ha wa H w [.box b68 68 [v4137], .row 61 1 v4137 n4138 cs4139, .box b29 68 [(Value.slice none 0 0)], .row 61 1 (Value.slice none 0 0) 0 []] ∧ Inc H44 H ∧ Els (up wa.heap.size H) (eL eI 1) 1 cs4139 s75 ∧ (bl cs4139).Nodup ∧ f 4 = Value.pointer (some (⟨b29, 0, none⟩ : Addr)) ∧ f 6 = Value.pointer (some (⟨b68, 0, none⟩ : Addr))) | .rt x => x.elim) hq ⟨_, _, _, _, S71, (Inc.rfl _), els73, (show (bl []).Nodup from List.nodup_nil), rfl, k54, rfl, rfl, rfl⟩ ?_ ?_) ?_
    ·
      clear hp hq
      rintro i75 y74 s75 f8207 w8206 ⟨H8203, v4137, n4138, cs4139, S8204, i8205, els4140, nd4141, k8208, k8209, k8210, k8211, k8212⟩ hx75 o12264 hp
      refine FW.seq ?_
      refine FW.region ?_
      refine FL.val rfl rfl rfl (E.lssT k8208 k8212 (lss_len hx75)) ?_
      refine FL.nil ?_
      refine FW.seq ?_
      refine FW.condT rfl rfl ?_
      refine FW.skip ?_
      refine FW.seq ?_
      refine FW.block ?_
      refine FW.seq ?_
      refine FW.region ?_
      obtain ⟨p8213, cs8214, pt8215, l8216, at8217, rel8218⟩ := p1.at (ix_nat hx75)
      obtain ⟨v8219, rfl, h8220⟩ := eResStep_open rel8218
      refine FL.val rfl rfl rfl (E.indexAddr te41 k8211 k8208 pt8215) ?_
      refine FL.val rfl rfl rfl (E.load rfl (run_loadA Tryz.isAgg103 Tryz.sizeOf103 ((at8217.mono ((i27.tr i46).tr i8205)).now S8204.sl) rfl)) ?_
      obtain ⟨b8221, w8222, run8223, S8224⟩ := S8204.alloc (P := Tryz.prog) 103 [Value.slice none 0 0, Value.int .i64 0, Value.int .i64 0, Value.int .i64 0] Tryz.zeroValue103 rfl (ones_cons rfl (ones_cons rfl (ones_cons rfl (ones_cons rfl ones_nil))))
      refine FL.val rfl rfl rfl (E.alloc run8223) ?_
      obtain ⟨w8225, run8226, S8227⟩ := S8224.store0 (P := Tryz.prog) (t := 103) (i := 0) (cs' := [v8219, Value.int .i64 y74.left, Value.int .i64 y74.right, Value.int .i64 y74.pivot]) (l' := [.box b8221 103 [v8219, Value.int .i64 y74.left, Value.int .i64 y74.right, Value.int .i64 y74.pivot], .box b68 68 [v4137], .row 61 1 v4137 n4138 cs4139, .box b29 68 [(Value.slice none 0 0)], .row 61 1 (Value.slice none 0 0) 0 []]) (v := Value.agg #[v8219, Value.int .i64 y74.left, Value.int .i64 y74.right, Value.int .i64 y74.pivot]) (c := [v8219, Value.int .i64 y74.left, Value.int .i64 y74.right, Value.int .i64 y74.pivot]) rfl Tryz.sizeOf103 rfl rfl (ones_cons h8220.one (ones_cons rfl (ones_cons rfl (ones_cons rfl ones_nil)))) (Nat.le_of_ble_eq_true rfl) rfl rfl
      refine FL.act rfl rfl (E.store rfl rfl run8226) ?_
      obtain ⟨H8228, S8229, i8230, at8231⟩ := S8227.sealBox (i := 0) (l' := [.box b68 68 [v4137], .row 61 1 v4137 n4138 cs4139, .box b29 68 [(Value.slice none 0 0)], .row 61 1 (Value.slice none 0 0) 0 []]) rfl rfl
      refine FL.nil ?_
      refine FW.seq ?_
      refine FW.region ?_
      refine FL.val rfl rfl rfl (E.load rfl (run_loadA Tryz.isAgg103 Tryz.sizeOf103 (at8231.now S8229.sl) rfl)) ?_
      refine FL.call rfl rfl rfl (E.call Tryz.call112 (A1 rfl)) (w_impl_ResStep_premises S8229.sl y74 v8219 (h8220.mono (((i27.tr i46).tr i8205).tr i8230))) ?_
      rintro e w8233 ⟨H8232, v8236, n8237, cs8238, rfl, r8235, els8239⟩
      refine ⟨_, rfl, ?_⟩
      have els8239 := els8239.mono (up_le S8229.size)
      have S8234 := S8229.join (l' := [.row 3 1 v8236 n8237 cs8238, .box b68 68 [v4137], .row 61 1 v4137 n4138 cs4139, .box b29 68 [(Value.slice none 0 0)], .row 61 1 (Value.slice none 0 0) 0 []]) r8235 rfl
      refine FL.val rfl rfl rfl (E.assign (v := v8236) rfl) ?_
      refine FL.nil ?_
      refine FW.seq ?_
      refine FW.region ?_
      refine FL.val rfl rfl rfl (E.move (v := v8236) rfl) ?_
      obtain ⟨r8240, hr8241, hp⟩ := bnd hp
      refine FL.call rfl rfl rfl (E.call Tryz.call113 (A1 rfl)) (w_slices_Sort_int_int (L := [.box b68 68 [v4137], .row 61 1 v4137 n4138 cs4139, .box b29 68 [(Value.slice none 0 0)], .row 61 1 (Value.slice none 0 0) 0 []]) S8234 (PF.impl_ResStep_premises y74) els8239 hr8241) ?_
      rintro e w8243 ⟨H8242, cs8246, rfl, ⟨S8244, i8245⟩, els8247⟩
      refine ⟨_, rfl, ?_⟩
      have S8244 : St Ha wa H8242 w8243 [.row 3 1 v8236 n8237 cs8246, .box b68 68 [v4137], .row 61 1 v4137 n4138 cs4139, .box b29 68 [(Value.slice none 0 0)], .row 61 1 (Value.slice none 0 0) 0 []] := S8244
      refine FL.nil ?_
      obtain ⟨r9848, hr9849, hp⟩ := bnd hp
      obtain ⟨xs10648, hz10649, hp⟩ := bnd hp
      refine FW.drawA (Sl H8242) (fun f w => ∃ H : GH, ∃ v12248 : Value, ∃ n12249 : Nat, ∃ cs12250 : List Value, St Ha wa H w [.box b68 68 [v12248], .row 61 1 v12248 n12249 cs12250, .box b29 68 [(Value.slice none 0 0)], .row 61 1 (Value.slice none 0 0) 0 []] ∧ Inc H8242 H ∧ Els (up wa.heap.size H) (eL eI 1) 1 cs12250 xs10648 ∧ (bl cs12250).Nodup ∧ f 4 = Value.pointer (some (⟨b29, 0, none⟩ : Addr)) ∧ f 6 = Value.pointer (some (⟨b68, 0, none⟩ : Addr)) ∧ f 21 = v1 ∧ f 22 = Value.int .i64 (len a1) ∧ f 23 = Value.int .i64 ((i75 : Nat) : Int)) (by kernel_rfl) S8244.sl ?_ ?_
      ·
        intro w8248 r8249
        have S8250 := S8244.call r8249
        refine FA.take (i := 0) (l' := #[true, false, false, false, false, false, false, false]) rfl (by kernel_rfl) (by kernel_rfl) (by kernel_rfl) (by kernel_rfl) S8250.sl rfl rfl rfl (fun w' hw' => (E.fieldAddr tf68_0 k8210)) ?_
        refine FA.take (i := 2) (l' := #[true, false, true, false, false, false, false, false]) rfl (by kernel_rfl) (by kernel_rfl) (by kernel_rfl) (by kernel_rfl) S8250.sl rfl rfl rfl (fun w' hw' => (E.move (v := v8236) rfl)) ?_
        refine FA.all2 (i := 1) (j := 3) (by kernel_rfl) ?_ ?_
        ·
          refine FO.val (l' := #[true, true, true, false, false, false, false, false]) rfl (by kernel_rfl) rfl rfl rfl (E.load rfl (run_load1 Tryz.isAgg22 (S8250.box_now (i := 1) rfl) rfl)) ?_
          refine ⟨S8250.sl, ?_⟩
          refine FA.all1 (i := 3) (by kernel_rfl) ?_
          ·
            refine FO.call (l' := #[true, true, true, true, false, false, false, false]) rfl (by kernel_rfl) rfl rfl rfl (E.call Tryz.call114 (A1 rfl)) (w_slices_Compact_int_int (L := [.box b68 68 [v4137], .row 61 1 v4137 n4138 cs4139, .box b29 68 [(Value.slice none 0 0)], .row 61 1 (Value.slice none 0 0) 0 []]) S8250 r8240 els8247 hr9849) ?_
            rintro e w9851 ⟨H9850, v9854, n9855, cs9856, rfl, ⟨S9852, i9853⟩, els9857⟩
            refine ⟨_, rfl, ?_⟩
            have S9852 : St Ha wa H9850 w9851 [.row 3 1 v9854 n9855 cs9856, .box b68 68 [v4137], .row 61 1 v4137 n4138 cs4139, .box b29 68 [(Value.slice none 0 0)], .row 61 1 (Value.slice none 0 0) 0 []] := S9852
            refine ⟨(Sl.of_inc i9853 S9852.sl), ?_⟩
            refine FA.all1 (i := 4) (by kernel_rfl) ?_
            ·
              obtain ⟨H10248, S10249, i10250, h10251, nv10252⟩ := S9852.sealRowU (i := 0) (l' := [.box b68 68 [v4137], .row 61 1 v4137 n4138 cs4139, .box b29 68 [(Value.slice none 0 0)], .row 61 1 (Value.slice none 0 0) 0 []]) rfl els9857 (by decide) rfl
              obtain ⟨v10253, w10254, run10255, S10256⟩ := S10249.buildSlice (P := Tryz.prog) te22 [v9854] (parts := #[(0, v9854)]) (cells := [v9854]) rfl (szs_cons (cells_size h10251.cells) szs_nil) (fc_cons h10251.cells fc_nil) (ones_cons h10251.one ones_nil) (Nat.le_of_ble_eq_true rfl)
              have els10257 : Els (up wa.heap.size H10248) (eL eI 1) 1 [v9854] [r9848] := (Els.snoc (H := (up wa.heap.size H10248)) (E := (eL eI 1)) (k := 1) (c := [v9854]) (x := r9848) Els.nil rfl ⟨_, rfl, h10251⟩)
              have nd10258 : (bl [v9854]).Nodup := by exact nd_one v9854
              refine FO.val (l' := #[true, true, true, true, true, false, false, false]) rfl (by kernel_rfl) rfl rfl rfl (E.buildSlice (B1 rfl) run10255) ?_
              refine ⟨(Sl.of_inc (i9853.tr i10250) S10256.sl), ?_⟩
              refine FA.all1 (i := 5) (by kernel_rfl) ?_
              ·
                obtain ⟨v10650, w10653, n10651, cs10652, run10654, S10655, els10656, ce10657⟩ := S10256.appendO (P := Tryz.prog) te22 (i := 2) (j := 0) rfl (els4140.mono (up_mono ((((i8230.tr r8235.run.inc).tr i8245).tr i9853).tr i10250))) rfl els10257 hz10649
                have S10655 : St Ha wa H10248 w10653 [.row 61 1 v10253 1 [v9854], .box b68 68 [v4137], .row 61 1 v10650 n10651 cs10652, .box b29 68 [(Value.slice none 0 0)], .row 61 1 (Value.slice none 0 0) 0 []] := S10655
                have nd10658 : (bl cs10652).Nodup := by rw [ce10657]; exact nd_app nd4141 nd10258 (Els.dom (els4140.mono (upI.tr (((i8230.tr r8235.run.inc).tr i8245).tr i9853)))) (by exact nv10252)
                have S10659 : St Ha wa H10248 w10653 [.box b68 68 [v4137], .row 61 1 v10650 n10651 cs10652, .box b29 68 [(Value.slice none 0 0)], .row 61 1 (Value.slice none 0 0) 0 []] := S10655.drop 0
                refine FO.val (l' := #[true, true, true, true, true, true, false, false]) rfl (by kernel_rfl) rfl rfl rfl (E.append rfl rfl run10654) ?_
                refine ⟨(Sl.of_inc (i9853.tr i10250) S10659.sl), ?_⟩
                refine FA.take (i := 6) (l' := #[true, true, true, true, true, true, true, false]) rfl (by kernel_rfl) (by kernel_rfl) (by kernel_rfl) (by kernel_rfl) (Sl.of_inc (i9853.tr i10250) S10659.sl) rfl rfl rfl (fun w' hw' => (E.fieldAddr tf68_0 k8210)) ?_
                refine FA.all1 (i := 7) (by kernel_rfl) ?_
                ·
                  obtain ⟨w11448, run11449, S11450⟩ := S10659.store (P := Tryz.prog) (t := 22) (i := 0) (j := 0) (cs' := [v10650]) (l' := [.box b68 68 [v10650], .row 61 1 v10650 n10651 cs10652, .box b29 68 [(Value.slice none 0 0)], .row 61 1 (Value.slice none 0 0) 0 []]) (v := v10650) (c := [v10650]) rfl Tryz.sizeOf22 (Ln.cells (S10659.row_ln (i := 1) rfl)) rfl (ones_cons (Ln.one (S10659.row_ln (i := 1) rfl)) ones_nil) (Nat.le_of_ble_eq_true rfl) rfl rfl
                  refine FO.act (l' := #[true, true, true, true, true, true, true, true]) rfl (by kernel_rfl) rfl rfl (E.store rfl rfl run11449) ?_
                  refine ⟨(Sl.of_inc (i9853.tr i10250) S11450.sl), ?_⟩
                  exact FA.done (by kernel_rfl) ⟨_, _, _, _, S11450, (i9853.tr i10250), els10656, nd10658, k8209, k8210, k8211, k8212, k8208⟩
        ·
          refine FO.call (l' := #[true, false, true, true, false, false, false, false]) rfl (by kernel_rfl) rfl rfl rfl (E.call Tryz.call114 (A1 rfl)) (w_slices_Compact_int_int (L := [.box b68 68 [v4137], .row 61 1 v4137 n4138 cs4139, .box b29 68 [(Value.slice none 0 0)], .row 61 1 (Value.slice none 0 0) 0 []]) S8250 r8240 els8247 hr9849) ?_
          rintro e w9851 ⟨H9850, v9854, n9855, cs9856, rfl, ⟨S9852, i9853⟩, els9857⟩
          refine ⟨_, rfl, ?_⟩
          have S9852 : St Ha wa H9850 w9851 [.row 3 1 v9854 n9855 cs9856, .box b68 68 [v4137], .row 61 1 v4137 n4138 cs4139, .box b29 68 [(Value.slice none 0 0)], .row 61 1 (Value.slice none 0 0) 0 []] := S9852
          refine ⟨(Sl.of_inc i9853 S9852.sl), ?_⟩
          refine FA.all2 (i := 1) (j := 4) (by kernel_rfl) ?_ ?_
          ·
            refine FO.val (l' := #[true, true, true, true, false, false, false, false]) rfl (by kernel_rfl) rfl rfl rfl (E.load rfl (run_load1 Tryz.isAgg22 (S9852.box_now (i := 1) rfl) rfl)) ?_
            refine ⟨(Sl.of_inc i9853 S9852.sl), ?_⟩
            refine FA.all1 (i := 4) (by kernel_rfl) ?_
            ·
              obtain ⟨H10248, S10249, i10250, h10251, nv10252⟩ := S9852.sealRowU (i := 0) (l' := [.box b68 68 [v4137], .row 61 1 v4137 n4138 cs4139, .box b29 68 [(Value.slice none 0 0)], .row 61 1 (Value.slice none 0 0) 0 []]) rfl els9857 (by decide) rfl
              obtain ⟨v10253, w10254, run10255, S10256⟩ := S10249.buildSlice (P := Tryz.prog) te22 [v9854] (parts := #[(0, v9854)]) (cells := [v9854]) rfl (szs_cons (cells_size h10251.cells) szs_nil) (fc_cons h10251.cells fc_nil) (ones_cons h10251.one ones_nil) (Nat.le_of_ble_eq_true rfl)
              have els10257 : Els (up wa.heap.size H10248) (eL eI 1) 1 [v9854] [r9848] := (Els.snoc (H := (up wa.heap.size H10248)) (E := (eL eI 1)) (k := 1) (c := [v9854]) (x := r9848) Els.nil rfl ⟨_, rfl, h10251⟩)
              have nd10258 : (bl [v9854]).Nodup := by exact nd_one v9854
              refine FO.val (l' := #[true, true, true, true, true, false, false, false]) rfl (by kernel_rfl) rfl rfl rfl (E.buildSlice (B1 rfl) run10255) ?_
              refine ⟨(Sl.of_inc (i9853.tr i10250) S10256.sl), ?_⟩
              refine FA.all1 (i := 5) (by kernel_rfl) ?_
              ·
                obtain ⟨v10650, w10653, n10651, cs10652, run10654, S10655, els10656, ce10657⟩ := S10256.appendO (P := Tryz.prog) te22 (i := 2) (j := 0) rfl (els4140.mono (up_mono ((((i8230.tr r8235.run.inc).tr i8245).tr i9853).tr i10250))) rfl els10257 hz10649
                have S10655 : St Ha wa H10248 w10653 [.row 61 1 v10253 1 [v9854], .box b68 68 [v4137], .row 61 1 v10650 n10651 cs10652, .box b29 68 [(Value.slice none 0 0)], .row 61 1 (Value.slice none 0 0) 0 []] := S10655
                have nd10658 : (bl cs10652).Nodup := by rw [ce10657]; exact nd_app nd4141 nd10258 (Els.dom (els4140.mono (upI.tr (((i8230.tr r8235.run.inc).tr i8245).tr i9853)))) (by exact nv10252)
                have S10659 : St Ha wa H10248 w10653 [.box b68 68 [v4137], .row 61 1 v10650 n10651 cs10652, .box b29 68 [(Value.slice none 0 0)], .row 61 1 (Value.slice none 0 0) 0 []] := S10655.drop 0
                refine FO.val (l' := #[true, true, true, true, true, true, false, false]) rfl (by kernel_rfl) rfl rfl rfl (E.append rfl rfl run10654) ?_
                refine ⟨(Sl.of_inc (i9853.tr i10250) S10659.sl), ?_⟩
                refine FA.take (i := 6) (l' := #[true, true, true, true, true, true, true, false]) rfl (by kernel_rfl) (by kernel_rfl) (by kernel_rfl) (by kernel_rfl) (Sl.of_inc (i9853.tr i10250) S10659.sl) rfl rfl rfl (fun w' hw' => (E.fieldAddr tf68_0 k8210)) ?_
                refine FA.all1 (i := 7) (by kernel_rfl) ?_
                ·
                  obtain ⟨w11448, run11449, S11450⟩ := S10659.store (P := Tryz.prog) (t := 22) (i := 0) (j := 0) (cs' := [v10650]) (l' := [.box b68 68 [v10650], .row 61 1 v10650 n10651 cs10652, .box b29 68 [(Value.slice none 0 0)], .row 61 1 (Value.slice none 0 0) 0 []]) (v := v10650) (c := [v10650]) rfl Tryz.sizeOf22 (Ln.cells (S10659.row_ln (i := 1) rfl)) rfl (ones_cons (Ln.one (S10659.row_ln (i := 1) rfl)) ones_nil) (Nat.le_of_ble_eq_true rfl) rfl rfl
                  refine FO.act (l' := #[true, true, true, true, true, true, true, true]) rfl (by kernel_rfl) rfl rfl (E.store rfl rfl run11449) ?_
                  refine ⟨(Sl.of_inc (i9853.tr i10250) S11450.sl), ?_⟩
                  exact FA.done (by kernel_rfl) ⟨_, _, _, _, S11450, (i9853.tr i10250), els10656, nd10658, k8209, k8210, k8211, k8212, k8208⟩
          ·
            obtain ⟨H10248, S10249, i10250, h10251, nv10252⟩ := S9852.sealRowU (i := 0) (l' := [.box b68 68 [v4137], .row 61 1 v4137 n4138 cs4139, .box b29 68 [(Value.slice none 0 0)], .row 61 1 (Value.slice none 0 0) 0 []]) rfl els9857 (by decide) rfl
            obtain ⟨v10253, w10254, run10255, S10256⟩ := S10249.buildSlice (P := Tryz.prog) te22 [v9854] (parts := #[(0, v9854)]) (cells := [v9854]) rfl (szs_cons (cells_size h10251.cells) szs_nil) (fc_cons h10251.cells fc_nil) (ones_cons h10251.one ones_nil) (Nat.le_of_ble_eq_true rfl)
            have els10257 : Els (up wa.heap.size H10248) (eL eI 1) 1 [v9854] [r9848] := (Els.snoc (H := (up wa.heap.size H10248)) (E := (eL eI 1)) (k := 1) (c := [v9854]) (x := r9848) Els.nil rfl ⟨_, rfl, h10251⟩)
            have nd10258 : (bl [v9854]).Nodup := by exact nd_one v9854
            refine FO.val (l' := #[true, false, true, true, true, false, false, false]) rfl (by kernel_rfl) rfl rfl rfl (E.buildSlice (B1 rfl) run10255) ?_
            refine ⟨(Sl.of_inc (i9853.tr i10250) S10256.sl), ?_⟩
            refine FA.all1 (i := 1) (by kernel_rfl) ?_
            ·
              refine FO.val (l' := #[true, true, true, true, true, false, false, false]) rfl (by kernel_rfl) rfl rfl rfl (E.load rfl (run_load1 Tryz.isAgg22 (S10256.box_now (i := 1) rfl) rfl)) ?_
              refine ⟨(Sl.of_inc (i9853.tr i10250) S10256.sl), ?_⟩
              refine FA.all1 (i := 5) (by kernel_rfl) ?_
              ·
                obtain ⟨v10650, w10653, n10651, cs10652, run10654, S10655, els10656, ce10657⟩ := S10256.appendO (P := Tryz.prog) te22 (i := 2) (j := 0) rfl (els4140.mono (up_mono ((((i8230.tr r8235.run.inc).tr i8245).tr i9853).tr i10250))) rfl els10257 hz10649
                have S10655 : St Ha wa H10248 w10653 [.row 61 1 v10253 1 [v9854], .box b68 68 [v4137], .row 61 1 v10650 n10651 cs10652, .box b29 68 [(Value.slice none 0 0)], .row 61 1 (Value.slice none 0 0) 0 []] := S10655
                have nd10658 : (bl cs10652).Nodup := by rw [ce10657]; exact nd_app nd4141 nd10258 (Els.dom (els4140.mono (upI.tr (((i8230.tr r8235.run.inc).tr i8245).tr i9853)))) (by exact nv10252)
                have S10659 : St Ha wa H10248 w10653 [.box b68 68 [v4137], .row 61 1 v10650 n10651 cs10652, .box b29 68 [(Value.slice none 0 0)], .row 61 1 (Value.slice none 0 0) 0 []] := S10655.drop 0
                refine FO.val (l' := #[true, true, true, true, true, true, false, false]) rfl (by kernel_rfl) rfl rfl rfl (E.append rfl rfl run10654) ?_
                refine ⟨(Sl.of_inc (i9853.tr i10250) S10659.sl), ?_⟩
                refine FA.take (i := 6) (l' := #[true, true, true, true, true, true, true, false]) rfl (by kernel_rfl) (by kernel_rfl) (by kernel_rfl) (by kernel_rfl) (Sl.of_inc (i9853.tr i10250) S10659.sl) rfl rfl rfl (fun w' hw' => (E.fieldAddr tf68_0 k8210)) ?_
                refine FA.all1 (i := 7) (by kernel_rfl) ?_
                ·
                  obtain ⟨w11448, run11449, S11450⟩ := S10659.store (P := Tryz.prog) (t := 22) (i := 0) (j := 0) (cs' := [v10650]) (l' := [.box b68 68 [v10650], .row 61 1 v10650 n10651 cs10652, .box b29 68 [(Value.slice none 0 0)], .row 61 1 (Value.slice none 0 0) 0 []]) (v := v10650) (c := [v10650]) rfl Tryz.sizeOf22 (Ln.cells (S10659.row_ln (i := 1) rfl)) rfl (ones_cons (Ln.one (S10659.row_ln (i := 1) rfl)) ones_nil) (Nat.le_of_ble_eq_true rfl) rfl rfl
                  refine FO.act (l' := #[true, true, true, true, true, true, true, true]) rfl (by kernel_rfl) rfl rfl (E.store rfl rfl run11449) ?_
                  refine ⟨(Sl.of_inc (i9853.tr i10250) S11450.sl), ?_⟩
                  exact FA.done (by kernel_rfl) ⟨_, _, _, _, S11450, (i9853.tr i10250), els10656, nd10658, k8209, k8210, k8211, k8212, k8208⟩
      ·
        rintro f12258 w12257 ⟨H12254, v12248, n12249, cs12250, S12255, i12256, els12251, nd12252, k12259, k12260, k12261, k12262, k12263⟩
        refine FW.region ?_
        refine FL.val rfl rfl rfl (E.add k12263 rfl) ?_
        refine FL.val rfl rfl rfl (E.move (v := Value.int .i64 (wr (((i75 : Nat) : Int) + 1))) rfl) ?_
        refine FL.nil ?_
        obtain rfl := Option.some.inj hp
        exact ⟨rfl, ⟨_, _, _, _, S12255, ((((i8205.tr i8230).tr r8235.run.inc).tr i8245).tr i12256), els12251, nd12252, (nat_succ rfl (lt_of_get hx75) (p1.mono ((((((i27.tr i46).tr i8205).tr i8230).tr r8235.run.inc).tr i8245).tr i12256)).le), k12259, k12260, k12261, k12262⟩⟩
    ·
      clear hp hq
      rintro s75 f12285 w12284 ⟨H12281, v4137, n4138, cs4139, S12282, i12283, els4140, nd4141, k12286, k12287, k12288, k12289, k12290⟩
      refine FW.seq ?_
      refine FW.region ?_
      refine FL.val rfl rfl rfl (E.lss k12286 k12290) ?_
      refine FL.nil ?_
      refine FW.seq ?_
      refine FW.condF rfl dlt_len ?_
      refine FW.exit ?_
      exact ⟨nofun, rfl, ⟨_, _, _, _, S12282, i12283, els4140, nd4141, k12287, k12288⟩⟩
    ·
      clear hq
      intro e f12269 w12268 hD
      rcases q75 with s75 | x75
      ·
        obtain ⟨rfl, hD⟩ := hD
        obtain ⟨H12265, v4137, n4138, cs4139, S12266, i12267, els4140, nd4141, k12270, k12271⟩ := hD
        replace hp := el_go hp
        refine FW.seq ?_
        refine FW.region ?_
        refine FL.val rfl rfl rfl (E.load k12271 (run_loadA Tryz.isAgg68 Tryz.sizeOf68 (S12266.box_now (i := 0) rfl) rfl)) ?_
        obtain ⟨w12272, run12273, S12274⟩ := S12266.store0 (P := Tryz.prog) (t := 68) (i := 2) (cs' := [v4137]) (l' := [.box b68 68 [v4137], .row 61 1 v4137 n4138 cs4139, .box b29 68 [v4137], .row 61 1 (Value.slice none 0 0) 0 []]) (v := Value.agg #[v4137]) (c := [v4137]) rfl Tryz.sizeOf68 rfl rfl (ones_cons (Ln.one (S12266.row_ln (i := 1) rfl)) ones_nil) (Nat.le_of_ble_eq_true rfl) rfl rfl
        refine FL.act rfl rfl (E.store k12270 rfl run12273) ?_
        refine FL.val rfl rfl rfl (E.assign (v := Value.bool true) rfl) ?_
        refine FL.nil ?_
        refine FW.ret ?_
        obtain ⟨H12275, S12276, i12277, ns12280, nv12279⟩ := S12274.sealRowN (i := 1) (l' := [.box b68 68 [v4137], .box b29 68 [v4137], .row 61 1 (Value.slice none 0 0) 0 []]) rfl els4140 nd4141 (by decide) rfl
        have h12278 := ns12280.rsl
        obtain rfl := Option.some.inj hp
        exact ⟨.inr rfl, resC2 rfl k12270 (loadVar_A Tryz.isAgg68 Tryz.sizeOf68 (S12276.box_now (i := 1) rfl) rfl) rfl ⟨_, _, rfl, S12276.run, ⟨_, ns12280⟩⟩⟩
      · exact x75.elim

theorem w_laws_eqIntS {Ha : GH} {wa : World} (hs : Sl Ha wa) (v0 : Value) (a0 : List Int) (p0 : RSl Ha eI 1 v0 a0) (v1 : Value) (a1 : List Int) (p1 : RSl Ha eI 1 v1 a1) {r : Bool} (hp : (PF.laws_eqIntS a0 a1) = some r) :
    Calls Tryz.prog 48 #[v0, v1] wa (Sc Ha wa (Value.bool r)) := by
  unfold PF.laws_eqIntS at hp
  have S0 := St.init hs
  refine calls_go (N := 26) (args := [v0, v1]) Tryz.func48 rfl rfl rfl ?_
  refine FW.seq ?_
  refine FW.region ?_
  refine FL.val rfl rfl rfl (E.assign (v := Value.bool false) rfl) ?_
  refine FL.nil ?_
  refine FW.seq ?_
  refine FW.seq ?_
  refine FW.region ?_
  refine FL.val rfl rfl rfl (E.move (v := v0) rfl) ?_
  refine FL.val rfl rfl rfl (E.lenP te61 rfl p0) ?_
  refine FL.val rfl rfl rfl (E.move (v := v1) rfl) ?_
  refine FL.val rfl rfl rfl (E.lenP te61 rfl p1) ?_
  refine FL.val rfl rfl rfl (E.neq rfl rfl) ?_
  refine FL.nil ?_
  rcases ifB hp with ⟨c21, hp⟩ | ⟨c21, hp⟩
  ·
    refine FW.condT rfl c21 ?_
    refine FW.seq ?_
    refine FW.region ?_
    refine FL.val rfl rfl rfl (E.assign (v := Value.bool false) rfl) ?_
    refine FL.nil ?_
    refine FW.ret ?_
    obtain rfl := Option.some.inj hp
    exact ⟨.inr rfl, res1 rfl rfl ⟨rfl, S0.back⟩⟩
  ·
    refine FW.condF rfl c21 ?_
    refine FW.skip ?_
    refine FW.seq ?_
    refine FW.seq ?_
    refine FW.region ?_
    refine FL.val rfl rfl rfl (E.assign (v := Value.int .i64 0) rfl) ?_
    refine FL.nil ?_
    obtain ⟨q23, hq, hp⟩ := bndR hp
    refine FW.block ?_
    refine FW.mono (FW.forL (S := Unit) (X := Bool) (fun (i23 : Nat) (s23 : Unit) f w => ∃ H : GH, St Ha wa H w [] ∧ Inc Ha H ∧ f 5 = Value.int .i64 ((i23 : Nat) : Int) ∧ f 0 = v0 ∧ f 1 = v1) (fun q e f w => match q with | .go s23 => e = Exit.exit 0 ∧ (∃ H : GH, St Ha wa H w [] ∧ Inc Ha H) | .rt x => ((e = Exit.ret) ∧ (fun e f w => (e = Exit.normal ∨ e = Exit.ret) ∧ ∀ a, Fr 26 a f → ∃ v, (results Tryz.f48 a.tmps).run Tryz.prog w = .ok v w ∧ (Sc Ha wa (Value.bool x)) (.returned v) w) e f w)) hq ⟨_, S0, (Inc.rfl _), rfl, rfl, rfl⟩ ?_ ?_) ?_
    ·
      clear hp hq
      rintro i23 y22 s23 f55 w54 ⟨H51, S52, i53, k56, k57, k58⟩ hx23 o78 hp
      refine FW.seq ?_
      refine FW.seq ?_
      refine FW.region ?_
      refine FL.val rfl rfl rfl (E.move k56) ?_
      refine FL.val rfl rfl rfl (E.move k57) ?_
      refine FL.val rfl rfl rfl (E.lenP te61 rfl p0) ?_
      refine FL.val rfl rfl rfl (E.lssT rfl rfl (lss_len hx23)) ?_
      refine FL.nil ?_
      refine FW.condT rfl rfl ?_
      refine FW.skip ?_
      refine FW.seq ?_
      refine FW.block ?_
      refine FW.seq ?_
      refine FW.draw (fun w' => Run w54.heap.size H51 w54 H51 w') (by kernel_rfl) (by kernel_rfl) (run_drew S52.sl) ?_
      refine FD.val rfl rfl rfl (fun w' hw' => (E.move k57)) ?_
      refine FD.val rfl rfl rfl (fun w' hw' => (E.move k56)) ?_
      obtain ⟨p60, cs61, pt62, l63, at64, rel65⟩ := p0.at (ix_nat hx23)
      obtain rfl := eI_open rel65
      refine FD.val rfl rfl rfl (fun w' hw' => (E.indexAddr te61 rfl rfl pt62)) ?_
      refine FD.val rfl rfl rfl (fun w' hw' => (E.load rfl (run_load0 Tryz.isAgg3 ((at64.mono i53).now (S52.call hw').sl) rfl))) ?_
      refine FD.val rfl rfl rfl (fun w' hw' => (E.move k58)) ?_
      refine FD.val rfl rfl rfl (fun w' hw' => (E.move k56)) ?_
      obtain ⟨x72, hx73, hp⟩ := bnd hp
      obtain ⟨p66, cs67, pt68, l69, at70, rel71⟩ := p1.at hx73
      obtain rfl := eI_open rel71
      refine FD.val rfl rfl rfl (fun w' hw' => (E.indexAddr te61 rfl rfl pt68)) ?_
      refine FD.val rfl rfl rfl (fun w' hw' => (E.load rfl (run_load0 Tryz.isAgg3 ((at70.mono i53).now (S52.call hw').sl) rfl))) ?_
      refine FD.val rfl rfl rfl (fun w' hw' => (E.neq rfl rfl)) ?_
      refine FD.nil ?_
      intro w74 r76
      have S75 := S52.call r76
      rcases ifB hp with ⟨c77, hp⟩ | ⟨c77, hp⟩
      ·
        refine FW.condT rfl c77 ?_
        refine FW.seq ?_
        refine FW.region ?_
        refine FL.val rfl rfl rfl (E.assign (v := Value.bool false) rfl) ?_
        refine FL.nil ?_
        refine FW.ret ?_
        obtain rfl := Option.some.inj hp
        exact ⟨nofun, rfl, ⟨.inr rfl, res1 rfl rfl ⟨rfl, S75.back⟩⟩⟩
      ·
        refine FW.condF rfl c77 ?_
        refine FW.skip ?_
        refine FW.region ?_
        refine FL.val rfl rfl rfl (E.move k56) ?_
        refine FL.val rfl rfl rfl (E.add rfl rfl) ?_
        refine FL.val rfl rfl rfl (E.assign (v := Value.int .i64 (wr (((i23 : Nat) : Int) + 1))) rfl) ?_
        refine FL.nil ?_
        obtain rfl := Option.some.inj hp
        exact ⟨rfl, ⟨_, S75, i53, (nat_succ rfl (lt_of_get hx23) (p0.mono i53).le), k57, k58⟩⟩
    ·
      clear hp hq
      rintro s23 f88 w87 ⟨H84, S85, i86, k89, k90, k91⟩
      refine FW.seq ?_
      refine FW.seq ?_
      refine FW.region ?_
      refine FL.val rfl rfl rfl (E.move k89) ?_
      refine FL.val rfl rfl rfl (E.move k90) ?_
      refine FL.val rfl rfl rfl (E.lenP te61 rfl p0) ?_
      refine FL.val rfl rfl rfl (E.lss rfl rfl) ?_
      refine FL.nil ?_
      refine FW.condF rfl dlt_len ?_
      refine FW.exit ?_
      exact ⟨nofun, rfl, ⟨_, S85, i86⟩⟩
    ·
      clear hq
      intro e f83 w82 hD
      rcases q23 with s23 | x23
      ·
        obtain ⟨rfl, hD⟩ := hD
        obtain ⟨H79, S80, i81⟩ := hD
        replace hp := el_go hp
        refine FW.seq ?_
        refine FW.region ?_
        refine FL.val rfl rfl rfl (E.assign (v := Value.bool true) rfl) ?_
        refine FL.nil ?_
        refine FW.ret ?_
        obtain rfl := Option.some.inj hp
        exact ⟨.inr rfl, res1 rfl rfl ⟨rfl, S80.back⟩⟩
      ·
        obtain ⟨he, hL⟩ := hD
        replace hp := el_rt hp
        obtain rfl := Option.some.inj hp
        subst he
        exact hL

theorem w_laws_eqIntSS {Ha : GH} {wa : World} (hs : Sl Ha wa) (v0 : Value) (a0 : List (List Int)) (p0 : RSl Ha (eL eI 1) 1 v0 a0) (v1 : Value) (a1 : List (List Int)) (p1 : RSl Ha (eL eI 1) 1 v1 a1) {r : Bool} (hp : (PF.laws_eqIntSS a0 a1) = some r) :
    Calls Tryz.prog 21 #[v0, v1] wa (Sc Ha wa (Value.bool r)) := by
  unfold PF.laws_eqIntSS at hp
  have S0 := St.init hs
  refine calls_go (N := 27) (args := [v0, v1]) Tryz.func21 rfl rfl rfl ?_
  refine FW.seq ?_
  refine FW.region ?_
  refine FL.val rfl rfl rfl (E.assign (v := Value.bool false) rfl) ?_
  refine FL.nil ?_
  refine FW.seq ?_
  refine FW.seq ?_
  refine FW.region ?_
  refine FL.val rfl rfl rfl (E.move (v := v0) rfl) ?_
  refine FL.val rfl rfl rfl (E.lenP te22 rfl p0) ?_
  refine FL.val rfl rfl rfl (E.move (v := v1) rfl) ?_
  refine FL.val rfl rfl rfl (E.lenP te22 rfl p1) ?_
  refine FL.val rfl rfl rfl (E.neq rfl rfl) ?_
  refine FL.nil ?_
  rcases ifB hp with ⟨c21, hp⟩ | ⟨c21, hp⟩
  ·
    refine FW.condT rfl c21 ?_
    refine FW.seq ?_
    refine FW.region ?_
    refine FL.val rfl rfl rfl (E.assign (v := Value.bool false) rfl) ?_
    refine FL.nil ?_
    refine FW.ret ?_
    obtain rfl := Option.some.inj hp
    exact ⟨.inr rfl, res1 rfl rfl ⟨rfl, S0.back⟩⟩
  ·
    refine FW.condF rfl c21 ?_
    refine FW.skip ?_
    refine FW.seq ?_
    refine FW.seq ?_
    refine FW.region ?_
    refine FL.val rfl rfl rfl (E.assign (v := Value.int .i64 0) rfl) ?_
    refine FL.nil ?_
    obtain ⟨q23, hq, hp⟩ := bndR hp
    refine FW.block ?_
    refine FW.mono (FW.forL (S := Unit) (X := Bool) (fun (i23 : Nat) (s23 : Unit) f w => ∃ H : GH, St Ha wa H w [] ∧ Inc Ha H ∧ f 5 = Value.int .i64 ((i23 : Nat) : Int) ∧ f 0 = v0 ∧ f 1 = v1) (fun q e f w => match q with | .go s23 => e = Exit.exit 0 ∧ (∃ H : GH, St Ha wa H w [] ∧ Inc Ha H) | .rt x => ((e = Exit.ret) ∧ (fun e f w => (e = Exit.normal ∨ e = Exit.ret) ∧ ∀ a, Fr 27 a f → ∃ v, (results Tryz.f21 a.tmps).run Tryz.prog w = .ok v w ∧ (Sc Ha wa (Value.bool x)) (.returned v) w) e f w)) hq ⟨_, S0, (Inc.rfl _), rfl, rfl, rfl⟩ ?_ ?_) ?_
    ·
      clear hp hq
      rintro i23 y22 s23 f61 w60 ⟨H57, S58, i59, k62, k63, k64⟩ hx23 o90 hp
      refine FW.seq ?_
      refine FW.seq ?_
      refine FW.region ?_
      refine FL.val rfl rfl rfl (E.move k62) ?_
      refine FL.val rfl rfl rfl (E.move k63) ?_
      refine FL.val rfl rfl rfl (E.lenP te22 rfl p0) ?_
      refine FL.val rfl rfl rfl (E.lssT rfl rfl (lss_len hx23)) ?_
      refine FL.nil ?_
      refine FW.condT rfl rfl ?_
      refine FW.skip ?_
      refine FW.seq ?_
      refine FW.block ?_
      refine FW.seq ?_
      refine FW.draw (fun w' => Run w60.heap.size H57 w60 H57 w') (by kernel_rfl) (by kernel_rfl) (run_drew S58.sl) ?_
      refine FD.val rfl rfl rfl (fun w' hw' => (E.move k63)) ?_
      refine FD.val rfl rfl rfl (fun w' hw' => (E.move k62)) ?_
      obtain ⟨p66, cs67, pt68, l69, at70, rel71⟩ := p0.at (ix_nat hx23)
      obtain ⟨v72, rfl, h73⟩ := eL_open rel71
      refine FD.val rfl rfl rfl (fun w' hw' => (E.indexAddr te22 rfl rfl pt68)) ?_
      refine FD.val rfl rfl rfl (fun w' hw' => (E.load rfl (run_load0 Tryz.isAgg61 ((at70.mono i59).now (S58.call hw').sl) rfl))) ?_
      refine FD.val rfl rfl rfl (fun w' hw' => (E.move k64)) ?_
      refine FD.val rfl rfl rfl (fun w' hw' => (E.move k62)) ?_
      obtain ⟨x80, hx81, hp⟩ := bnd hp
      obtain ⟨p74, cs75, pt76, l77, at78, rel79⟩ := p1.at hx81
      obtain ⟨v82, rfl, h83⟩ := eL_open rel79
      refine FD.val rfl rfl rfl (fun w' hw' => (E.indexAddr te22 rfl rfl pt76)) ?_
      refine FD.val rfl rfl rfl (fun w' hw' => (E.load rfl (run_load0 Tryz.isAgg61 ((at78.mono i59).now (S58.call hw').sl) rfl))) ?_
      obtain ⟨r84, hr85, hp⟩ := bnd hp
      refine FD.call rfl rfl rfl (fun w' hw' => (E.call Tryz.call48 (A2 rfl rfl))) (fun w' hw' => Calls.cls hw' (w_laws_eqIntS (S58.call hw').sl v72 y22 (h73.mono i59) v82 x80 (h83.mono i59) hr85)) ?_
      refine FD.val rfl rfl rfl (fun w' hw' => (E.not rfl)) ?_
      refine FD.nil ?_
      intro w86 r88
      have S87 := S58.call r88
      rcases ifB hp with ⟨c89, hp⟩ | ⟨c89, hp⟩
      ·
        refine FW.condT rfl c89 ?_
        refine FW.seq ?_
        refine FW.region ?_
        refine FL.val rfl rfl rfl (E.assign (v := Value.bool false) rfl) ?_
        refine FL.nil ?_
        refine FW.ret ?_
        obtain rfl := Option.some.inj hp
        exact ⟨nofun, rfl, ⟨.inr rfl, res1 rfl rfl ⟨rfl, S87.back⟩⟩⟩
      ·
        refine FW.condF rfl c89 ?_
        refine FW.skip ?_
        refine FW.region ?_
        refine FL.val rfl rfl rfl (E.move k62) ?_
        refine FL.val rfl rfl rfl (E.add rfl rfl) ?_
        refine FL.val rfl rfl rfl (E.assign (v := Value.int .i64 (wr (((i23 : Nat) : Int) + 1))) rfl) ?_
        refine FL.nil ?_
        obtain rfl := Option.some.inj hp
        exact ⟨rfl, ⟨_, S87, i59, (nat_succ rfl (lt_of_get hx23) (p0.mono i59).le), k63, k64⟩⟩
    ·
      clear hp hq
      rintro s23 f100 w99 ⟨H96, S97, i98, k101, k102, k103⟩
      refine FW.seq ?_
      refine FW.seq ?_
      refine FW.region ?_
      refine FL.val rfl rfl rfl (E.move k101) ?_
      refine FL.val rfl rfl rfl (E.move k102) ?_
      refine FL.val rfl rfl rfl (E.lenP te22 rfl p0) ?_
      refine FL.val rfl rfl rfl (E.lss rfl rfl) ?_
      refine FL.nil ?_
      refine FW.condF rfl dlt_len ?_
      refine FW.exit ?_
      exact ⟨nofun, rfl, ⟨_, S97, i98⟩⟩
    ·
      clear hq
      intro e f95 w94 hD
      rcases q23 with s23 | x23
      ·
        obtain ⟨rfl, hD⟩ := hD
        obtain ⟨H91, S92, i93⟩ := hD
        replace hp := el_go hp
        refine FW.seq ?_
        refine FW.region ?_
        refine FL.val rfl rfl rfl (E.assign (v := Value.bool true) rfl) ?_
        refine FL.nil ?_
        refine FW.ret ?_
        obtain rfl := Option.some.inj hp
        exact ⟨.inr rfl, res1 rfl rfl ⟨rfl, S92.back⟩⟩
      ·
        obtain ⟨he, hL⟩ := hD
        replace hp := el_rt hp
        obtain rfl := Option.some.inj hp
        subst he
        exact hL

theorem w_laws_eqDag {Ha : GH} {wa : World} (hs : Sl Ha wa) (a0 : Dag) (v0_0 : Value) (p0_0 : RSl Ha (eL eI 1) 1 v0_0 a0.preds) (a1 : Dag) (v1_0 : Value) (p1_0 : RSl Ha (eL eI 1) 1 v1_0 a1.preds) {r : Bool} (hp : (PF.laws_eqDag a0 a1) = some r) :
    Calls Tryz.prog 51 #[Value.agg #[v0_0], Value.agg #[v1_0]] wa (Sc Ha wa (Value.bool r)) := by
  unfold PF.laws_eqDag at hp
  have S0 := St.init hs
  refine calls_go (N := 11) (args := [Value.agg #[v0_0], Value.agg #[v1_0]]) Tryz.func51 rfl rfl rfl ?_
  refine FW.seq ?_
  refine FW.region ?_
  obtain ⟨b21, w22, run23, S24⟩ := S0.box (P := Tryz.prog) 68 [v0_0] (v := Value.agg #[v0_0]) rfl (ones_cons p0_0.one ones_nil)
  refine FL.val rfl rfl rfl (E.box rfl run23) ?_
  obtain ⟨H25, S26, i27, at28⟩ := S24.sealBox (i := 0) (l' := []) rfl rfl
  obtain ⟨b29, w30, run31, S32⟩ := S26.box (P := Tryz.prog) 68 [v1_0] (v := Value.agg #[v1_0]) rfl (ones_cons p1_0.one ones_nil)
  refine FL.val rfl rfl rfl (E.box rfl run31) ?_
  obtain ⟨H33, S34, i35, at36⟩ := S32.sealBox (i := 0) (l' := []) rfl rfl
  refine FL.val rfl rfl rfl (E.assign (v := Value.bool false) rfl) ?_
  refine FL.nil ?_
  refine FW.seq ?_
  refine FW.seq ?_
  refine FW.region ?_
  refine FL.val rfl rfl rfl (E.fieldAddr tf68_0 rfl) ?_
  refine FL.val rfl rfl rfl (E.load rfl (run_load1 Tryz.isAgg22 ((at28.mono i35).now S34.sl) rfl)) ?_
  refine FL.val rfl rfl rfl (E.fieldAddr tf68_0 rfl) ?_
  refine FL.val rfl rfl rfl (E.load rfl (run_load1 Tryz.isAgg22 (at36.now S34.sl) rfl)) ?_
  obtain ⟨r37, hr38, hp⟩ := bnd hp
  refine FL.call rfl rfl rfl (E.call Tryz.call21 (A2 rfl rfl)) (w_laws_eqIntSS S34.sl v0_0 a0.preds (p0_0.mono (i27.tr i35)) v1_0 a1.preds (p1_0.mono (i27.tr i35)) hr38) ?_
  rintro e w39 ⟨rfl, r40⟩
  refine ⟨_, rfl, ?_⟩
  have S41 := S34.call r40
  refine FL.val rfl rfl rfl (E.not rfl) ?_
  refine FL.nil ?_
  rcases ifB hp with ⟨c42, hp⟩ | ⟨c42, hp⟩
  ·
    refine FW.condT rfl c42 ?_
    refine FW.seq ?_
    refine FW.region ?_
    refine FL.val rfl rfl rfl (E.assign (v := Value.bool false) rfl) ?_
    refine FL.nil ?_
    refine FW.ret ?_
    obtain rfl := Option.some.inj hp
    exact ⟨.inr rfl, res1 rfl rfl ⟨rfl, S41.back⟩⟩
  ·
    refine FW.condF rfl c42 ?_
    refine FW.skip ?_
    refine FW.seq ?_
    refine FW.region ?_
    refine FL.val rfl rfl rfl (E.assign (v := Value.bool true) rfl) ?_
    refine FL.nil ?_
    refine FW.ret ?_
    obtain rfl := Option.some.inj hp
    exact ⟨.inr rfl, res1 rfl rfl ⟨rfl, S41.back⟩⟩

theorem w_laws_eqCnf {Ha : GH} {wa : World} (hs : Sl Ha wa) (a0 : Cnf) (v0_1 : Value) (p0_1 : RSl Ha (eL eI 1) 1 v0_1 a0.clauses) (a1 : Cnf) (v1_1 : Value) (p1_1 : RSl Ha (eL eI 1) 1 v1_1 a1.clauses) {r : Bool} (hp : (PF.laws_eqCnf a0 a1) = some r) :
    Calls Tryz.prog 22 #[Value.agg #[Value.int .i64 a0.vars, v0_1], Value.agg #[Value.int .i64 a1.vars, v1_1]] wa (Sc Ha wa (Value.bool r)) := by
  unfold PF.laws_eqCnf at hp
  have S0 := St.init hs
  refine calls_go (N := 16) (args := [Value.agg #[Value.int .i64 a0.vars, v0_1], Value.agg #[Value.int .i64 a1.vars, v1_1]]) Tryz.func22 rfl rfl rfl ?_
  refine FW.seq ?_
  refine FW.region ?_
  obtain ⟨b21, w22, run23, S24⟩ := S0.box (P := Tryz.prog) 30 [Value.int .i64 a0.vars, v0_1] (v := Value.agg #[Value.int .i64 a0.vars, v0_1]) rfl (ones_cons rfl (ones_cons p0_1.one ones_nil))
  refine FL.val rfl rfl rfl (E.box rfl run23) ?_
  obtain ⟨H25, S26, i27, at28⟩ := S24.sealBox (i := 0) (l' := []) rfl rfl
  obtain ⟨b29, w30, run31, S32⟩ := S26.box (P := Tryz.prog) 30 [Value.int .i64 a1.vars, v1_1] (v := Value.agg #[Value.int .i64 a1.vars, v1_1]) rfl (ones_cons rfl (ones_cons p1_1.one ones_nil))
  refine FL.val rfl rfl rfl (E.box rfl run31) ?_
  obtain ⟨H33, S34, i35, at36⟩ := S32.sealBox (i := 0) (l' := []) rfl rfl
  refine FL.val rfl rfl rfl (E.assign (v := Value.bool false) rfl) ?_
  refine FL.nil ?_
  refine FW.seq ?_
  refine FW.seq ?_
  refine FW.region ?_
  refine FL.val rfl rfl rfl (E.fieldAddr tf30_0 rfl) ?_
  refine FL.val rfl rfl rfl (E.load rfl (run_load1 Tryz.isAgg3 ((at28.mono i35).now S34.sl) rfl)) ?_
  refine FL.val rfl rfl rfl (E.fieldAddr tf30_0 rfl) ?_
  refine FL.val rfl rfl rfl (E.load rfl (run_load1 Tryz.isAgg3 (at36.now S34.sl) rfl)) ?_
  refine FL.val rfl rfl rfl (E.neq rfl rfl) ?_
  refine FL.nil ?_
  rcases ifB hp with ⟨c37, hp⟩ | ⟨c37, hp⟩
  ·
    refine FW.condT rfl c37 ?_
    refine FW.seq ?_
    refine FW.region ?_
    refine FL.val rfl rfl rfl (E.assign (v := Value.bool false) rfl) ?_
    refine FL.nil ?_
    refine FW.ret ?_
    obtain rfl := Option.some.inj hp
    exact ⟨.inr rfl, res1 rfl rfl ⟨rfl, S34.back⟩⟩
  ·
    refine FW.condF rfl c37 ?_
    refine FW.skip ?_
    refine FW.seq ?_
    refine FW.seq ?_
    refine FW.region ?_
    refine FL.val rfl rfl rfl (E.fieldAddr tf30_1 rfl) ?_
    refine FL.val rfl rfl rfl (E.load rfl (run_load1 Tryz.isAgg22 ((at28.mono i35).now S34.sl) rfl)) ?_
    refine FL.val rfl rfl rfl (E.fieldAddr tf30_1 rfl) ?_
    refine FL.val rfl rfl rfl (E.load rfl (run_load1 Tryz.isAgg22 (at36.now S34.sl) rfl)) ?_
    obtain ⟨r38, hr39, hp⟩ := bnd hp
    refine FL.call rfl rfl rfl (E.call Tryz.call21 (A2 rfl rfl)) (w_laws_eqIntSS S34.sl v0_1 a0.clauses (p0_1.mono (i27.tr i35)) v1_1 a1.clauses (p1_1.mono (i27.tr i35)) hr39) ?_
    rintro e w40 ⟨rfl, r41⟩
    refine ⟨_, rfl, ?_⟩
    have S42 := S34.call r41
    refine FL.val rfl rfl rfl (E.not rfl) ?_
    refine FL.nil ?_
    rcases ifB hp with ⟨c43, hp⟩ | ⟨c43, hp⟩
    ·
      refine FW.condT rfl c43 ?_
      refine FW.seq ?_
      refine FW.region ?_
      refine FL.val rfl rfl rfl (E.assign (v := Value.bool false) rfl) ?_
      refine FL.nil ?_
      refine FW.ret ?_
      obtain rfl := Option.some.inj hp
      exact ⟨.inr rfl, res1 rfl rfl ⟨rfl, S42.back⟩⟩
    ·
      refine FW.condF rfl c43 ?_
      refine FW.skip ?_
      refine FW.seq ?_
      refine FW.region ?_
      refine FL.val rfl rfl rfl (E.assign (v := Value.bool true) rfl) ?_
      refine FL.nil ?_
      refine FW.ret ?_
      obtain rfl := Option.some.inj hp
      exact ⟨.inr rfl, res1 rfl rfl ⟨rfl, S42.back⟩⟩

theorem w_laws_eqResStep {Ha : GH} {wa : World} (hs : Sl Ha wa) (a0 : ResStep) (v0_0 : Value) (p0_0 : RSl Ha eI 1 v0_0 a0.clause) (a1 : ResStep) (v1_0 : Value) (p1_0 : RSl Ha eI 1 v1_0 a1.clause) {r : Bool} (hp : (PF.laws_eqResStep a0 a1) = some r) :
    Calls Tryz.prog 88 #[Value.agg #[v0_0, Value.int .i64 a0.left, Value.int .i64 a0.right, Value.int .i64 a0.pivot], Value.agg #[v1_0, Value.int .i64 a1.left, Value.int .i64 a1.right, Value.int .i64 a1.pivot]] wa (Sc Ha wa (Value.bool r)) := by
  unfold PF.laws_eqResStep at hp
  have S0 := St.init hs
  refine calls_go (N := 26) (args := [Value.agg #[v0_0, Value.int .i64 a0.left, Value.int .i64 a0.right, Value.int .i64 a0.pivot], Value.agg #[v1_0, Value.int .i64 a1.left, Value.int .i64 a1.right, Value.int .i64 a1.pivot]]) Tryz.func88 rfl rfl rfl ?_
  refine FW.seq ?_
  refine FW.region ?_
  obtain ⟨b21, w22, run23, S24⟩ := S0.box (P := Tryz.prog) 103 [v0_0, Value.int .i64 a0.left, Value.int .i64 a0.right, Value.int .i64 a0.pivot] (v := Value.agg #[v0_0, Value.int .i64 a0.left, Value.int .i64 a0.right, Value.int .i64 a0.pivot]) rfl (ones_cons p0_0.one (ones_cons rfl (ones_cons rfl (ones_cons rfl ones_nil))))
  refine FL.val rfl rfl rfl (E.box rfl run23) ?_
  obtain ⟨H25, S26, i27, at28⟩ := S24.sealBox (i := 0) (l' := []) rfl rfl
  obtain ⟨b29, w30, run31, S32⟩ := S26.box (P := Tryz.prog) 103 [v1_0, Value.int .i64 a1.left, Value.int .i64 a1.right, Value.int .i64 a1.pivot] (v := Value.agg #[v1_0, Value.int .i64 a1.left, Value.int .i64 a1.right, Value.int .i64 a1.pivot]) rfl (ones_cons p1_0.one (ones_cons rfl (ones_cons rfl (ones_cons rfl ones_nil))))
  refine FL.val rfl rfl rfl (E.box rfl run31) ?_
  obtain ⟨H33, S34, i35, at36⟩ := S32.sealBox (i := 0) (l' := []) rfl rfl
  refine FL.val rfl rfl rfl (E.assign (v := Value.bool false) rfl) ?_
  refine FL.nil ?_
  refine FW.seq ?_
  refine FW.seq ?_
  refine FW.region ?_
  refine FL.val rfl rfl rfl (E.fieldAddr tf103_0 rfl) ?_
  refine FL.val rfl rfl rfl (E.load rfl (run_load1 Tryz.isAgg61 ((at28.mono i35).now S34.sl) rfl)) ?_
  refine FL.val rfl rfl rfl (E.fieldAddr tf103_0 rfl) ?_
  refine FL.val rfl rfl rfl (E.load rfl (run_load1 Tryz.isAgg61 (at36.now S34.sl) rfl)) ?_
  obtain ⟨r37, hr38, hp⟩ := bnd hp
  refine FL.call rfl rfl rfl (E.call Tryz.call48 (A2 rfl rfl)) (w_laws_eqIntS S34.sl v0_0 a0.clause (p0_0.mono (i27.tr i35)) v1_0 a1.clause (p1_0.mono (i27.tr i35)) hr38) ?_
  rintro e w39 ⟨rfl, r40⟩
  refine ⟨_, rfl, ?_⟩
  have S41 := S34.call r40
  refine FL.val rfl rfl rfl (E.not rfl) ?_
  refine FL.nil ?_
  rcases ifB hp with ⟨c42, hp⟩ | ⟨c42, hp⟩
  ·
    refine FW.condT rfl c42 ?_
    refine FW.seq ?_
    refine FW.region ?_
    refine FL.val rfl rfl rfl (E.assign (v := Value.bool false) rfl) ?_
    refine FL.nil ?_
    refine FW.ret ?_
    obtain rfl := Option.some.inj hp
    exact ⟨.inr rfl, res1 rfl rfl ⟨rfl, S41.back⟩⟩
  ·
    refine FW.condF rfl c42 ?_
    refine FW.skip ?_
    refine FW.seq ?_
    refine FW.seq ?_
    refine FW.region ?_
    refine FL.val rfl rfl rfl (E.fieldAddr tf103_1 rfl) ?_
    refine FL.val rfl rfl rfl (E.load rfl (run_load1 Tryz.isAgg3 ((at28.mono i35).now S41.sl) rfl)) ?_
    refine FL.val rfl rfl rfl (E.fieldAddr tf103_1 rfl) ?_
    refine FL.val rfl rfl rfl (E.load rfl (run_load1 Tryz.isAgg3 (at36.now S41.sl) rfl)) ?_
    refine FL.val rfl rfl rfl (E.neq rfl rfl) ?_
    refine FL.nil ?_
    rcases ifB hp with ⟨c43, hp⟩ | ⟨c43, hp⟩
    ·
      refine FW.condT rfl c43 ?_
      refine FW.seq ?_
      refine FW.region ?_
      refine FL.val rfl rfl rfl (E.assign (v := Value.bool false) rfl) ?_
      refine FL.nil ?_
      refine FW.ret ?_
      obtain rfl := Option.some.inj hp
      exact ⟨.inr rfl, res1 rfl rfl ⟨rfl, S41.back⟩⟩
    ·
      refine FW.condF rfl c43 ?_
      refine FW.skip ?_
      refine FW.seq ?_
      refine FW.seq ?_
      refine FW.region ?_
      refine FL.val rfl rfl rfl (E.fieldAddr tf103_2 rfl) ?_
      refine FL.val rfl rfl rfl (E.load rfl (run_load1 Tryz.isAgg3 ((at28.mono i35).now S41.sl) rfl)) ?_
      refine FL.val rfl rfl rfl (E.fieldAddr tf103_2 rfl) ?_
      refine FL.val rfl rfl rfl (E.load rfl (run_load1 Tryz.isAgg3 (at36.now S41.sl) rfl)) ?_
      refine FL.val rfl rfl rfl (E.neq rfl rfl) ?_
      refine FL.nil ?_
      rcases ifB hp with ⟨c44, hp⟩ | ⟨c44, hp⟩
      ·
        refine FW.condT rfl c44 ?_
        refine FW.seq ?_
        refine FW.region ?_
        refine FL.val rfl rfl rfl (E.assign (v := Value.bool false) rfl) ?_
        refine FL.nil ?_
        refine FW.ret ?_
        obtain rfl := Option.some.inj hp
        exact ⟨.inr rfl, res1 rfl rfl ⟨rfl, S41.back⟩⟩
      ·
        refine FW.condF rfl c44 ?_
        refine FW.skip ?_
        refine FW.seq ?_
        refine FW.seq ?_
        refine FW.region ?_
        refine FL.val rfl rfl rfl (E.fieldAddr tf103_3 rfl) ?_
        refine FL.val rfl rfl rfl (E.load rfl (run_load1 Tryz.isAgg3 ((at28.mono i35).now S41.sl) rfl)) ?_
        refine FL.val rfl rfl rfl (E.fieldAddr tf103_3 rfl) ?_
        refine FL.val rfl rfl rfl (E.load rfl (run_load1 Tryz.isAgg3 (at36.now S41.sl) rfl)) ?_
        refine FL.val rfl rfl rfl (E.neq rfl rfl) ?_
        refine FL.nil ?_
        rcases ifB hp with ⟨c45, hp⟩ | ⟨c45, hp⟩
        ·
          refine FW.condT rfl c45 ?_
          refine FW.seq ?_
          refine FW.region ?_
          refine FL.val rfl rfl rfl (E.assign (v := Value.bool false) rfl) ?_
          refine FL.nil ?_
          refine FW.ret ?_
          obtain rfl := Option.some.inj hp
          exact ⟨.inr rfl, res1 rfl rfl ⟨rfl, S41.back⟩⟩
        ·
          refine FW.condF rfl c45 ?_
          refine FW.skip ?_
          refine FW.seq ?_
          refine FW.region ?_
          refine FL.val rfl rfl rfl (E.assign (v := Value.bool true) rfl) ?_
          refine FL.nil ?_
          refine FW.ret ?_
          obtain rfl := Option.some.inj hp
          exact ⟨.inr rfl, res1 rfl rfl ⟨rfl, S41.back⟩⟩

theorem w_laws_eqResStepS {Ha : GH} {wa : World} (hs : Sl Ha wa) (v0 : Value) (a0 : List ResStep) (p0 : RSl Ha eResStep 4 v0 a0) (v1 : Value) (a1 : List ResStep) (p1 : RSl Ha eResStep 4 v1 a1) {r : Bool} (hp : (PF.laws_eqResStepS a0 a1) = some r) :
    Calls Tryz.prog 32 #[v0, v1] wa (Sc Ha wa (Value.bool r)) := by
  unfold PF.laws_eqResStepS at hp
  have S0 := St.init hs
  refine calls_go (N := 27) (args := [v0, v1]) Tryz.func32 rfl rfl rfl ?_
  refine FW.seq ?_
  refine FW.region ?_
  refine FL.val rfl rfl rfl (E.assign (v := Value.bool false) rfl) ?_
  refine FL.nil ?_
  refine FW.seq ?_
  refine FW.seq ?_
  refine FW.region ?_
  refine FL.val rfl rfl rfl (E.move (v := v0) rfl) ?_
  refine FL.val rfl rfl rfl (E.lenP te41 rfl p0) ?_
  refine FL.val rfl rfl rfl (E.move (v := v1) rfl) ?_
  refine FL.val rfl rfl rfl (E.lenP te41 rfl p1) ?_
  refine FL.val rfl rfl rfl (E.neq rfl rfl) ?_
  refine FL.nil ?_
  rcases ifB hp with ⟨c21, hp⟩ | ⟨c21, hp⟩
  ·
    refine FW.condT rfl c21 ?_
    refine FW.seq ?_
    refine FW.region ?_
    refine FL.val rfl rfl rfl (E.assign (v := Value.bool false) rfl) ?_
    refine FL.nil ?_
    refine FW.ret ?_
    obtain rfl := Option.some.inj hp
    exact ⟨.inr rfl, res1 rfl rfl ⟨rfl, S0.back⟩⟩
  ·
    refine FW.condF rfl c21 ?_
    refine FW.skip ?_
    refine FW.seq ?_
    refine FW.seq ?_
    refine FW.region ?_
    refine FL.val rfl rfl rfl (E.assign (v := Value.int .i64 0) rfl) ?_
    refine FL.nil ?_
    obtain ⟨q23, hq, hp⟩ := bndR hp
    refine FW.block ?_
    refine FW.mono (FW.forL (S := Unit) (X := Bool) (fun (i23 : Nat) (s23 : Unit) f w => ∃ H : GH, St Ha wa H w [] ∧ Inc Ha H ∧ f 5 = Value.int .i64 ((i23 : Nat) : Int) ∧ f 0 = v0 ∧ f 1 = v1) (fun q e f w => match q with | .go s23 => e = Exit.exit 0 ∧ (∃ H : GH, St Ha wa H w [] ∧ Inc Ha H) | .rt x => ((e = Exit.ret) ∧ (fun e f w => (e = Exit.normal ∨ e = Exit.ret) ∧ ∀ a, Fr 27 a f → ∃ v, (results Tryz.f32 a.tmps).run Tryz.prog w = .ok v w ∧ (Sc Ha wa (Value.bool x)) (.returned v) w) e f w)) hq ⟨_, S0, (Inc.rfl _), rfl, rfl, rfl⟩ ?_ ?_) ?_
    ·
      clear hp hq
      rintro i23 y22 s23 f61 w60 ⟨H57, S58, i59, k62, k63, k64⟩ hx23 o90 hp
      refine FW.seq ?_
      refine FW.seq ?_
      refine FW.region ?_
      refine FL.val rfl rfl rfl (E.move k62) ?_
      refine FL.val rfl rfl rfl (E.move k63) ?_
      refine FL.val rfl rfl rfl (E.lenP te41 rfl p0) ?_
      refine FL.val rfl rfl rfl (E.lssT rfl rfl (lss_len hx23)) ?_
      refine FL.nil ?_
      refine FW.condT rfl rfl ?_
      refine FW.skip ?_
      refine FW.seq ?_
      refine FW.block ?_
      refine FW.seq ?_
      refine FW.draw (fun w' => Run w60.heap.size H57 w60 H57 w') (by kernel_rfl) (by kernel_rfl) (run_drew S58.sl) ?_
      refine FD.val rfl rfl rfl (fun w' hw' => (E.move k63)) ?_
      refine FD.val rfl rfl rfl (fun w' hw' => (E.move k62)) ?_
      obtain ⟨p66, cs67, pt68, l69, at70, rel71⟩ := p0.at (ix_nat hx23)
      obtain ⟨v72, rfl, h73⟩ := eResStep_open rel71
      refine FD.val rfl rfl rfl (fun w' hw' => (E.indexAddr te41 rfl rfl pt68)) ?_
      refine FD.val rfl rfl rfl (fun w' hw' => (E.load rfl (run_loadA Tryz.isAgg103 Tryz.sizeOf103 ((at70.mono i59).now (S58.call hw').sl) rfl))) ?_
      refine FD.val rfl rfl rfl (fun w' hw' => (E.move k64)) ?_
      refine FD.val rfl rfl rfl (fun w' hw' => (E.move k62)) ?_
      obtain ⟨x80, hx81, hp⟩ := bnd hp
      obtain ⟨p74, cs75, pt76, l77, at78, rel79⟩ := p1.at hx81
      obtain ⟨v82, rfl, h83⟩ := eResStep_open rel79
      refine FD.val rfl rfl rfl (fun w' hw' => (E.indexAddr te41 rfl rfl pt76)) ?_
      refine FD.val rfl rfl rfl (fun w' hw' => (E.load rfl (run_loadA Tryz.isAgg103 Tryz.sizeOf103 ((at78.mono i59).now (S58.call hw').sl) rfl))) ?_
      obtain ⟨r84, hr85, hp⟩ := bnd hp
      refine FD.call rfl rfl rfl (fun w' hw' => (E.call Tryz.call88 (A2 rfl rfl))) (fun w' hw' => Calls.cls hw' (w_laws_eqResStep (S58.call hw').sl y22 v72 (h73.mono i59) x80 v82 (h83.mono i59) hr85)) ?_
      refine FD.val rfl rfl rfl (fun w' hw' => (E.not rfl)) ?_
      refine FD.nil ?_
      intro w86 r88
      have S87 := S58.call r88
      rcases ifB hp with ⟨c89, hp⟩ | ⟨c89, hp⟩
      ·
        refine FW.condT rfl c89 ?_
        refine FW.seq ?_
        refine FW.region ?_
        refine FL.val rfl rfl rfl (E.assign (v := Value.bool false) rfl) ?_
        refine FL.nil ?_
        refine FW.ret ?_
        obtain rfl := Option.some.inj hp
        exact ⟨nofun, rfl, ⟨.inr rfl, res1 rfl rfl ⟨rfl, S87.back⟩⟩⟩
      ·
        refine FW.condF rfl c89 ?_
        refine FW.skip ?_
        refine FW.region ?_
        refine FL.val rfl rfl rfl (E.move k62) ?_
        refine FL.val rfl rfl rfl (E.add rfl rfl) ?_
        refine FL.val rfl rfl rfl (E.assign (v := Value.int .i64 (wr (((i23 : Nat) : Int) + 1))) rfl) ?_
        refine FL.nil ?_
        obtain rfl := Option.some.inj hp
        exact ⟨rfl, ⟨_, S87, i59, (nat_succ rfl (lt_of_get hx23) (p0.mono i59).le), k63, k64⟩⟩
    ·
      clear hp hq
      rintro s23 f100 w99 ⟨H96, S97, i98, k101, k102, k103⟩
      refine FW.seq ?_
      refine FW.seq ?_
      refine FW.region ?_
      refine FL.val rfl rfl rfl (E.move k101) ?_
      refine FL.val rfl rfl rfl (E.move k102) ?_
      refine FL.val rfl rfl rfl (E.lenP te41 rfl p0) ?_
      refine FL.val rfl rfl rfl (E.lss rfl rfl) ?_
      refine FL.nil ?_
      refine FW.condF rfl dlt_len ?_
      refine FW.exit ?_
      exact ⟨nofun, rfl, ⟨_, S97, i98⟩⟩
    ·
      clear hq
      intro e f95 w94 hD
      rcases q23 with s23 | x23
      ·
        obtain ⟨rfl, hD⟩ := hD
        obtain ⟨H91, S92, i93⟩ := hD
        replace hp := el_go hp
        refine FW.seq ?_
        refine FW.region ?_
        refine FL.val rfl rfl rfl (E.assign (v := Value.bool true) rfl) ?_
        refine FL.nil ?_
        refine FW.ret ?_
        obtain rfl := Option.some.inj hp
        exact ⟨.inr rfl, res1 rfl rfl ⟨rfl, S92.back⟩⟩
      ·
        obtain ⟨he, hL⟩ := hD
        replace hp := el_rt hp
        obtain rfl := Option.some.inj hp
        subst he
        exact hL

theorem w_laws_markIntS {H0 Ha : GH} {w0 wa : World} {l : List MO} (S0 : St H0 w0 Ha wa l) (hs0 : Sl H0 w0) (v0 : Value) (a0 : List Int) (p0 : RSl (up w0.heap.size Ha) eI 1 v0 a0) (a1 : Int) :
    Calls Tryz.prog 58 #[v0, Value.int .i64 a1] wa (M1 H0 w0 Ha l eI 1 v0 (PF.laws_markIntS a0 a1)) := by
  obtain ⟨c0, n0, hc0⟩ := p0.nest eI_flat (by decide)
  have hln := p0.ln
  have hle := p0.le
  refine calls_go (N := 19) (args := [v0, Value.int .i64 a1]) Tryz.func58 rfl rfl rfl ?_
  refine FW.seq ?_
  refine FW.region ?_
  refine FL.val rfl rfl rfl (E.assign (v := Value.int .i64 0) rfl) ?_
  refine FL.nil ?_
  refine FW.seq ?_
  refine FW.seq ?_
  refine FW.region ?_
  refine FL.val rfl rfl rfl (E.assign (v := Value.int .i64 0) rfl) ?_
  refine FL.nil ?_
  refine FW.block ?_
  refine FW.mono (FW.mark (F := fun y m => (m, (wr (m + 1)))) (a0 := a0) (k0 := a1) (fun (i : Nat) (xs : List Int) (k : Int) f w => ∃ (H : GH) (c : List Value), St H0 w0 H w l ∧ Nest (up w0.heap.size H) eI 1 v0 xs c ∧ bl c = bl c0 ∧ (∀ b, b ∉ bl [v0] → b ∉ bl c0 → H b = Ha b) ∧ f 0 = v0 ∧ f 1 = Value.int .i64 k ∧ f 5 = Value.int .i64 ((i : Nat) : Int)) (fun e f w => e = Exit.exit 0 ∧ ∃ (H : GH) (c : List Value), St H0 w0 H w l ∧ Nest (up w0.heap.size H) eI 1 v0 (markFrom (fun y m => (m, (wr (m + 1)))) a0 a1).1 c ∧ bl c = bl c0 ∧ (∀ b, b ∉ bl [v0] → b ∉ bl c0 → H b = Ha b) ∧ f 0 = v0 ∧ f 1 = Value.int .i64 (markFrom (fun y m => (m, (wr (m + 1)))) a0 a1).2) ⟨_, _, S0, n0, rfl, fun _ _ _ => rfl, rfl, rfl, rfl⟩ ?_ ?_) ?_
  ·
    rintro i y xs m f1 w1 ⟨H1, c1, S1, n1, hb, ho, kv, kk, kc⟩ hx hy
    obtain ⟨p, hpt, wr0, hB, hr, nd⟩ := n1.begin hy (by decide)
    have hci := eI_open hr
    have rd := wr0.opens hci
    refine FW.seq ?_
    refine FW.seq ?_
    refine FW.region ?_
    refine FL.val rfl rfl rfl (E.move kc) ?_
    refine FL.val rfl rfl rfl (E.move kv) ?_
    refine FL.val rfl rfl rfl (E.len te61 rfl hln) ?_
    refine FL.val rfl rfl rfl (E.lssT rfl rfl (lss_len hx)) ?_
    refine FL.nil ?_
    refine FW.condT rfl rfl ?_
    refine FW.skip ?_
    refine FW.seq ?_
    refine FW.block ?_
    refine FW.seq ?_
    refine FW.region ?_
    refine FL.val rfl rfl rfl (E.move kv) ?_
    refine FL.val rfl rfl rfl (E.move kc) ?_
    refine FL.val rfl rfl rfl (E.move kk) ?_
    refine FL.val rfl rfl rfl (E.indexAddr te61 rfl rfl hpt) ?_
    obtain ⟨w21, H22, run24, S23, wr25, o26⟩ := rd.poke0 (P := Tryz.prog) (t := 3) (u := Value.int .i64 m) S1 hs0 hB rfl rfl rfl Tryz.sizeOf3 rfl rfl (c2 := [Value.int .i64 m]) rfl
    refine FL.act rfl rfl (E.store rfl rfl run24) ?_
    refine FL.nil ?_
    refine FW.region ?_
    refine FL.val rfl rfl rfl (E.move kk) ?_
    refine FL.val rfl rfl rfl (E.add rfl rfl) ?_
    refine FL.val rfl rfl rfl (E.assign (v := Value.int .i64 (wr (m + 1))) rfl) ?_
    refine FL.nil ?_
    refine FW.region ?_
    refine FL.val rfl rfl rfl (E.move kc) ?_
    refine FL.val rfl rfl rfl (E.add rfl rfl) ?_
    refine FL.val rfl rfl rfl (E.assign (v := Value.int .i64 (wr (((i : Nat) : Int) + 1))) rfl) ?_
    refine FL.nil ?_
    obtain ⟨c2, n2, hb2, ho2⟩ := n1.round eI_flat.loc hy (by decide) hpt wr25 (y' := m) rfl
    exact ⟨rfl, _, _, S23, n2, hb2.trans hb, fun b q1 q2 => (ho2 b q1 (by rw [hb]; exact q2)).trans (ho b q1 q2), kv, rfl, nat_succ rfl (lt_of_get hx) hle⟩
  ·
    rintro f1 w1 ⟨H1, c1, S1, n1, hb, ho, kv, kk, kc⟩
    refine FW.seq ?_
    refine FW.seq ?_
    refine FW.region ?_
    refine FL.val rfl rfl rfl (E.move kc) ?_
    refine FL.val rfl rfl rfl (E.move kv) ?_
    refine FL.val rfl rfl rfl (E.len te61 rfl hln) ?_
    refine FL.val rfl rfl rfl (E.lss rfl rfl) ?_
    refine FL.nil ?_
    refine FW.condF rfl dlt_len ?_
    refine FW.exit ?_
    exact ⟨nofun, rfl, _, _, S1, n1, hb, ho, kv, kk⟩
  ·
    rintro e f2 w2 ⟨rfl, H2, c2, S2, n2, hb, ho, kv, kk⟩
    refine FW.seq ?_
    refine FW.region ?_
    refine FL.val rfl rfl rfl (E.move kk) ?_
    refine FL.val rfl rfl rfl (E.assign (v := Value.int .i64 ((markFrom (fun y m => (m, (wr (m + 1)))) a0 a1).2)) rfl) ?_
    refine FL.nil ?_
    refine FW.ret ?_
    exact ⟨.inr rfl, res1 rfl rfl ⟨_, rfl, S2, n2.rsl, fun b q => ho b q (by rw [hc0]; simp)⟩⟩

theorem w_laws_markIntSS {H0 Ha : GH} {w0 wa : World} {l : List MO} (S0 : St H0 w0 Ha wa l) (hs0 : Sl H0 w0) (v0 : Value) (a0 : List (List Int)) (c0 : List Value) (n0 : Nest (up w0.heap.size Ha) (eL eI 1) 1 v0 a0 c0) (a1 : Int) :
    Calls Tryz.prog 26 #[v0, Value.int .i64 a1] wa (M2 H0 w0 Ha l (eL eI 1) 1 v0 c0 (PF.laws_markIntSS a0 a1)) := by
  have hln := n0.rsl.ln
  have hle := n0.rsl.le
  refine calls_go (N := 19) (args := [v0, Value.int .i64 a1]) Tryz.func26 rfl rfl rfl ?_
  refine FW.seq ?_
  refine FW.region ?_
  refine FL.val rfl rfl rfl (E.assign (v := Value.int .i64 0) rfl) ?_
  refine FL.nil ?_
  refine FW.seq ?_
  refine FW.seq ?_
  refine FW.region ?_
  refine FL.val rfl rfl rfl (E.assign (v := Value.int .i64 0) rfl) ?_
  refine FL.nil ?_
  refine FW.block ?_
  refine FW.mono (FW.mark (F := fun y m => ((PF.laws_markIntS y m).1, (PF.laws_markIntS y m).2)) (a0 := a0) (k0 := a1) (fun (i : Nat) (xs : List (List Int)) (k : Int) f w => ∃ (H : GH) (c : List Value), St H0 w0 H w l ∧ Nest (up w0.heap.size H) (eL eI 1) 1 v0 xs c ∧ bl c = bl c0 ∧ (∀ b, b ∉ bl [v0] → b ∉ bl c0 → H b = Ha b) ∧ f 0 = v0 ∧ f 1 = Value.int .i64 k ∧ f 5 = Value.int .i64 ((i : Nat) : Int)) (fun e f w => e = Exit.exit 0 ∧ ∃ (H : GH) (c : List Value), St H0 w0 H w l ∧ Nest (up w0.heap.size H) (eL eI 1) 1 v0 (markFrom (fun y m => ((PF.laws_markIntS y m).1, (PF.laws_markIntS y m).2)) a0 a1).1 c ∧ bl c = bl c0 ∧ (∀ b, b ∉ bl [v0] → b ∉ bl c0 → H b = Ha b) ∧ f 0 = v0 ∧ f 1 = Value.int .i64 (markFrom (fun y m => ((PF.laws_markIntS y m).1, (PF.laws_markIntS y m).2)) a0 a1).2) ⟨_, _, S0, n0, rfl, fun _ _ _ => rfl, rfl, rfl, rfl⟩ ?_ ?_) ?_
  ·
    rintro i y xs m f1 w1 ⟨H1, c1, S1, n1, hb, ho, kv, kk, kc⟩ hx hy
    obtain ⟨p, hpt, wr0, hB, hr, nd⟩ := n1.begin hy (by decide)
    obtain ⟨u0, hci, hu0⟩ := eL_open hr
    have rd := wr0.opens hci
    refine FW.seq ?_
    refine FW.seq ?_
    refine FW.region ?_
    refine FL.val rfl rfl rfl (E.move kc) ?_
    refine FL.val rfl rfl rfl (E.move kv) ?_
    refine FL.val rfl rfl rfl (E.len te22 rfl hln) ?_
    refine FL.val rfl rfl rfl (E.lssT rfl rfl (lss_len hx)) ?_
    refine FL.nil ?_
    refine FW.condT rfl rfl ?_
    refine FW.skip ?_
    refine FW.seq ?_
    refine FW.block ?_
    refine FW.region ?_
    refine FL.val rfl rfl rfl (E.move kv) ?_
    refine FL.val rfl rfl rfl (E.move kc) ?_
    refine FL.val rfl rfl rfl (E.indexAddr te22 rfl rfl hpt) ?_
    refine FL.val rfl rfl rfl (E.load rfl (run_load0 Tryz.isAgg61 (rd.now S1.sl) rfl)) ?_
    refine FL.val rfl rfl rfl (E.move kk) ?_
    refine FL.call rfl rfl rfl (E.call Tryz.call58 (A2 rfl rfl)) (w_laws_markIntS S1 hs0 u0 y hu0 m) ?_
    rintro e w22 ⟨H21, rfl, S23, h24, o25⟩
    refine ⟨_, rfl, ?_⟩
    have wr26 := rd.inner (j := 0) rfl o25
    refine FL.val rfl rfl rfl (E.assign (v := Value.int .i64 ((PF.laws_markIntS y m).2)) rfl) ?_
    refine FL.nil ?_
    refine FW.region ?_
    refine FL.val rfl rfl rfl (E.move kc) ?_
    refine FL.val rfl rfl rfl (E.add rfl rfl) ?_
    refine FL.val rfl rfl rfl (E.assign (v := Value.int .i64 (wr (((i : Nat) : Int) + 1))) rfl) ?_
    refine FL.nil ?_
    obtain ⟨c2, n2, hb2, ho2⟩ := n1.round (eL_loc eI_flat) hy (by decide) hpt wr26 (y' := (PF.laws_markIntS y m).1) ⟨_, rfl, h24⟩
    exact ⟨rfl, _, _, S23, n2, hb2.trans hb, fun b q1 q2 => (ho2 b q1 (by rw [hb]; exact q2)).trans (ho b q1 q2), kv, rfl, nat_succ rfl (lt_of_get hx) hle⟩
  ·
    rintro f1 w1 ⟨H1, c1, S1, n1, hb, ho, kv, kk, kc⟩
    refine FW.seq ?_
    refine FW.seq ?_
    refine FW.region ?_
    refine FL.val rfl rfl rfl (E.move kc) ?_
    refine FL.val rfl rfl rfl (E.move kv) ?_
    refine FL.val rfl rfl rfl (E.len te22 rfl hln) ?_
    refine FL.val rfl rfl rfl (E.lss rfl rfl) ?_
    refine FL.nil ?_
    refine FW.condF rfl dlt_len ?_
    refine FW.exit ?_
    exact ⟨nofun, rfl, _, _, S1, n1, hb, ho, kv, kk⟩
  ·
    rintro e f2 w2 ⟨rfl, H2, c2, S2, n2, hb, ho, kv, kk⟩
    refine FW.seq ?_
    refine FW.region ?_
    refine FL.val rfl rfl rfl (E.move kk) ?_
    refine FL.val rfl rfl rfl (E.assign (v := Value.int .i64 ((markFrom (fun y m => ((PF.laws_markIntS y m).1, (PF.laws_markIntS y m).2)) a0 a1).2)) rfl) ?_
    refine FL.nil ?_
    refine FW.ret ?_
    exact ⟨.inr rfl, res1 rfl rfl ⟨_, _, rfl, S2, n2, hb, fun b q1 q2 => weak (F := fun b => b ∉ bl [v0] ∧ b ∉ bl c0) (fun b q => ho b q.1 q.2) b ⟨q1, q2⟩⟩⟩

@[reducible] def p_laws_markCnf (H0 : GH) (w0 : World) (Ha : GH) (l : List MO) (v0 : Value) (c0 : List Value) (r : Cnf × Int) : Ending → World → Prop := fun e w' =>
  ∃ (H' : GH) (c' : List Value), e = .returned (.int .i64 r.2) ∧ St H0 w0 H' w' l ∧ Nest (up w0.heap.size H') (eL eI 1) 1 v0 r.1.clauses c' ∧ bl c' = bl c0 ∧ ∀ b, b ∉ bl [v0] → b ∉ bl c0 → ∀ o, Ha b = some o → H' b = some o
theorem w_laws_markCnf {H0 Ha : GH} {w0 wa : World} {l : List MO} (S0 : St H0 w0 Ha wa l) (hs0 : Sl H0 w0) (a0 : Cnf) (v0 : Value) (c0 : List Value) (n0 : Nest (up w0.heap.size Ha) (eL eI 1) 1 v0 a0.clauses c0) (a1 : Int) :
    Calls Tryz.prog 24 #[.agg #[Value.int .i64 a0.vars, v0], Value.int .i64 a1] wa (p_laws_markCnf H0 w0 Ha l v0 c0 (PF.laws_markCnf a0 a1)) := by
  refine calls_go (N := 10) (args := [.agg #[Value.int .i64 a0.vars, v0], Value.int .i64 a1]) Tryz.func24 rfl rfl rfl ?_
  refine FW.seq ?_
  refine FW.region ?_
  obtain ⟨b21, w22, run23, S24⟩ := S0.box (P := Tryz.prog) 30 [Value.int .i64 a0.vars, v0] (v := Value.agg #[Value.int .i64 a0.vars, v0]) rfl (ones_cons rfl (ones_cons n0.rsl.one ones_nil))
  refine FL.val rfl rfl rfl (E.box rfl run23) ?_
  obtain ⟨H25, S26, i27, at28⟩ := S24.sealBox (i := 0) (l' := l) rfl rfl
  refine FL.val rfl rfl rfl (E.assign (v := Value.int .i64 0) rfl) ?_
  refine FL.nil ?_
  refine FW.seq ?_
  refine FW.region ?_
  refine FL.val rfl rfl rfl (E.fieldAddr tf30_1 rfl) ?_
  refine FL.val rfl rfl rfl (E.load rfl (run_load1 Tryz.isAgg22 (at28.now S26.sl) rfl)) ?_
  refine FL.val rfl rfl rfl (E.move (v := Value.int .i64 a1) rfl) ?_
  refine FL.call rfl rfl rfl (E.call Tryz.call26 (A2 rfl rfl)) (w_laws_markIntSS S26 hs0 v0 a0.clauses c0 (n0.mono (up_mono i27)) a1) ?_
  rintro e w30 ⟨H29, c34, rfl, S31, h32, hb35, o33⟩
  refine ⟨_, rfl, ?_⟩
  refine FL.val rfl rfl rfl (E.assign (v := Value.int .i64 ((PF.laws_markIntSS a0.clauses a1).2)) rfl) ?_
  refine FL.nil ?_
  refine FW.seq ?_
  refine FW.region ?_
  refine FL.val rfl rfl rfl (E.move (v := Value.int .i64 ((PF.laws_markIntSS a0.clauses a1).2)) rfl) ?_
  refine FL.val rfl rfl rfl (E.assign (v := Value.int .i64 ((PF.laws_markIntSS a0.clauses a1).2)) rfl) ?_
  refine FL.nil ?_
  refine FW.ret ?_
  exact ⟨.inr rfl, res1 rfl rfl ⟨_, _, rfl, S31, h32, hb35, fun b q1 q2 o ho => o33 b q1 q2 o (i27 b o ho)⟩⟩

theorem w_laws_markResStepS {H0 Ha : GH} {w0 wa : World} {l : List MO} (S0 : St H0 w0 Ha wa l) (hs0 : Sl H0 w0) (v0 : Value) (a0 : List ResStep) (c0 : List Value) (n0 : Nest (up w0.heap.size Ha) eResStep 4 v0 a0 c0) (a1 : Int) :
    Calls Tryz.prog 33 #[v0, Value.int .i64 a1] wa (M2 H0 w0 Ha l eResStep 4 v0 c0 (PF.laws_markResStepS a0 a1)) := by
  have hln := n0.rsl.ln
  have hle := n0.rsl.le
  refine calls_go (N := 41) (args := [v0, Value.int .i64 a1]) Tryz.func33 rfl rfl rfl ?_
  refine FW.seq ?_
  refine FW.region ?_
  refine FL.val rfl rfl rfl (E.assign (v := Value.int .i64 0) rfl) ?_
  refine FL.nil ?_
  refine FW.seq ?_
  refine FW.seq ?_
  refine FW.region ?_
  refine FL.val rfl rfl rfl (E.assign (v := Value.int .i64 0) rfl) ?_
  refine FL.nil ?_
  refine FW.block ?_
  refine FW.mono (FW.mark (F := fun y m => ((ResStep.mk ((PF.laws_markIntS y.clause m).1) ((PF.laws_markIntS y.clause m).2) (wr ((PF.laws_markIntS y.clause m).2 + 1)) (wr ((wr ((PF.laws_markIntS y.clause m).2 + 1)) + 1))), (wr ((wr ((wr ((PF.laws_markIntS y.clause m).2 + 1)) + 1)) + 1)))) (a0 := a0) (k0 := a1) (fun (i : Nat) (xs : List ResStep) (k : Int) f w => ∃ (H : GH) (c : List Value), St H0 w0 H w l ∧ Nest (up w0.heap.size H) eResStep 4 v0 xs c ∧ bl c = bl c0 ∧ (∀ b, b ∉ bl [v0] → b ∉ bl c0 → H b = Ha b) ∧ f 0 = v0 ∧ f 1 = Value.int .i64 k ∧ f 5 = Value.int .i64 ((i : Nat) : Int)) (fun e f w => e = Exit.exit 0 ∧ ∃ (H : GH) (c : List Value), St H0 w0 H w l ∧ Nest (up w0.heap.size H) eResStep 4 v0 (markFrom (fun y m => ((ResStep.mk ((PF.laws_markIntS y.clause m).1) ((PF.laws_markIntS y.clause m).2) (wr ((PF.laws_markIntS y.clause m).2 + 1)) (wr ((wr ((PF.laws_markIntS y.clause m).2 + 1)) + 1))), (wr ((wr ((wr ((PF.laws_markIntS y.clause m).2 + 1)) + 1)) + 1)))) a0 a1).1 c ∧ bl c = bl c0 ∧ (∀ b, b ∉ bl [v0] → b ∉ bl c0 → H b = Ha b) ∧ f 0 = v0 ∧ f 1 = Value.int .i64 (markFrom (fun y m => ((ResStep.mk ((PF.laws_markIntS y.clause m).1) ((PF.laws_markIntS y.clause m).2) (wr ((PF.laws_markIntS y.clause m).2 + 1)) (wr ((wr ((PF.laws_markIntS y.clause m).2 + 1)) + 1))), (wr ((wr ((wr ((PF.laws_markIntS y.clause m).2 + 1)) + 1)) + 1)))) a0 a1).2) ⟨_, _, S0, n0, rfl, fun _ _ _ => rfl, rfl, rfl, rfl⟩ ?_ ?_) ?_
  ·
    rintro i y xs m f1 w1 ⟨H1, c1, S1, n1, hb, ho, kv, kk, kc⟩ hx hy
    obtain ⟨p, hpt, wr0, hB, hr, nd⟩ := n1.begin hy (by decide)
    obtain ⟨u0, hci, hu0⟩ := eResStep_open hr
    have rd := wr0.opens hci
    refine FW.seq ?_
    refine FW.seq ?_
    refine FW.region ?_
    refine FL.val rfl rfl rfl (E.move kc) ?_
    refine FL.val rfl rfl rfl (E.move kv) ?_
    refine FL.val rfl rfl rfl (E.len te41 rfl hln) ?_
    refine FL.val rfl rfl rfl (E.lssT rfl rfl (lss_len hx)) ?_
    refine FL.nil ?_
    refine FW.condT rfl rfl ?_
    refine FW.skip ?_
    refine FW.seq ?_
    refine FW.block ?_
    refine FW.seq ?_
    refine FW.region ?_
    refine FL.val rfl rfl rfl (E.move kv) ?_
    refine FL.val rfl rfl rfl (E.move kc) ?_
    refine FL.val rfl rfl rfl (E.indexAddr te41 rfl rfl hpt) ?_
    refine FL.val rfl rfl rfl (E.fieldAddr tf103_0 rfl) ?_
    refine FL.val rfl rfl rfl (E.load rfl (run_load1 Tryz.isAgg61 (rd.now S1.sl) rfl)) ?_
    refine FL.val rfl rfl rfl (E.move kk) ?_
    refine FL.call rfl rfl rfl (E.call Tryz.call58 (A2 rfl rfl)) (w_laws_markIntS S1 hs0 u0 y.clause hu0 m) ?_
    rintro e w22 ⟨H21, rfl, S23, h24, o25⟩
    refine ⟨_, rfl, ?_⟩
    have wr26 := rd.inner (j := 0) rfl o25
    refine FL.val rfl rfl rfl (E.assign (v := Value.int .i64 ((PF.laws_markIntS y.clause m).2)) rfl) ?_
    refine FL.nil ?_
    refine FW.seq ?_
    refine FW.region ?_
    refine FL.val rfl rfl rfl (E.move kv) ?_
    refine FL.val rfl rfl rfl (E.move kc) ?_
    refine FL.val rfl rfl rfl (E.move (v := Value.int .i64 ((PF.laws_markIntS y.clause m).2)) rfl) ?_
    refine FL.val rfl rfl rfl (E.indexAddr te41 rfl rfl hpt) ?_
    refine FL.val rfl rfl rfl (E.fieldAddr tf103_1 rfl) ?_
    obtain ⟨w27, H28, run30, S29, wr31, o32⟩ := wr26.poke (P := Tryz.prog) (t := 3) (u := Value.int .i64 ((PF.laws_markIntS y.clause m).2)) S23 hs0 hB (j := 1) rfl rfl rfl Tryz.sizeOf3 rfl rfl (c2 := [u0, Value.int .i64 ((PF.laws_markIntS y.clause m).2), Value.int .i64 y.right, Value.int .i64 y.pivot]) rfl
    have h33 := wr26.kept (j := 0) rfl h24 eI_flat o32
    refine FL.act rfl rfl (E.store rfl rfl run30) ?_
    refine FL.nil ?_
    refine FW.seq ?_
    refine FW.region ?_
    refine FL.val rfl rfl rfl (E.move (v := Value.int .i64 ((PF.laws_markIntS y.clause m).2)) rfl) ?_
    refine FL.val rfl rfl rfl (E.add rfl rfl) ?_
    refine FL.val rfl rfl rfl (E.assign (v := Value.int .i64 (wr ((PF.laws_markIntS y.clause m).2 + 1))) rfl) ?_
    refine FL.nil ?_
    refine FW.seq ?_
    refine FW.region ?_
    refine FL.val rfl rfl rfl (E.move kv) ?_
    refine FL.val rfl rfl rfl (E.move kc) ?_
    refine FL.val rfl rfl rfl (E.move (v := Value.int .i64 (wr ((PF.laws_markIntS y.clause m).2 + 1))) rfl) ?_
    refine FL.val rfl rfl rfl (E.indexAddr te41 rfl rfl hpt) ?_
    refine FL.val rfl rfl rfl (E.fieldAddr tf103_2 rfl) ?_
    obtain ⟨w34, H35, run37, S36, wr38, o39⟩ := wr31.poke (P := Tryz.prog) (t := 3) (u := Value.int .i64 (wr ((PF.laws_markIntS y.clause m).2 + 1))) S29 hs0 hB (j := 2) rfl rfl rfl Tryz.sizeOf3 rfl rfl (c2 := [u0, Value.int .i64 ((PF.laws_markIntS y.clause m).2), Value.int .i64 (wr ((PF.laws_markIntS y.clause m).2 + 1)), Value.int .i64 y.pivot]) rfl
    have h40 := wr31.kept (j := 0) rfl h33 eI_flat o39
    refine FL.act rfl rfl (E.store rfl rfl run37) ?_
    refine FL.nil ?_
    refine FW.seq ?_
    refine FW.region ?_
    refine FL.val rfl rfl rfl (E.move (v := Value.int .i64 (wr ((PF.laws_markIntS y.clause m).2 + 1))) rfl) ?_
    refine FL.val rfl rfl rfl (E.add rfl rfl) ?_
    refine FL.val rfl rfl rfl (E.assign (v := Value.int .i64 (wr ((wr ((PF.laws_markIntS y.clause m).2 + 1)) + 1))) rfl) ?_
    refine FL.nil ?_
    refine FW.seq ?_
    refine FW.region ?_
    refine FL.val rfl rfl rfl (E.move kv) ?_
    refine FL.val rfl rfl rfl (E.move kc) ?_
    refine FL.val rfl rfl rfl (E.move (v := Value.int .i64 (wr ((wr ((PF.laws_markIntS y.clause m).2 + 1)) + 1))) rfl) ?_
    refine FL.val rfl rfl rfl (E.indexAddr te41 rfl rfl hpt) ?_
    refine FL.val rfl rfl rfl (E.fieldAddr tf103_3 rfl) ?_
    obtain ⟨w41, H42, run44, S43, wr45, o46⟩ := wr38.poke (P := Tryz.prog) (t := 3) (u := Value.int .i64 (wr ((wr ((PF.laws_markIntS y.clause m).2 + 1)) + 1))) S36 hs0 hB (j := 3) rfl rfl rfl Tryz.sizeOf3 rfl rfl (c2 := [u0, Value.int .i64 ((PF.laws_markIntS y.clause m).2), Value.int .i64 (wr ((PF.laws_markIntS y.clause m).2 + 1)), Value.int .i64 (wr ((wr ((PF.laws_markIntS y.clause m).2 + 1)) + 1))]) rfl
    have h47 := wr38.kept (j := 0) rfl h40 eI_flat o46
    refine FL.act rfl rfl (E.store rfl rfl run44) ?_
    refine FL.nil ?_
    refine FW.region ?_
    refine FL.val rfl rfl rfl (E.move (v := Value.int .i64 (wr ((wr ((PF.laws_markIntS y.clause m).2 + 1)) + 1))) rfl) ?_
    refine FL.val rfl rfl rfl (E.add rfl rfl) ?_
    refine FL.val rfl rfl rfl (E.assign (v := Value.int .i64 (wr ((wr ((wr ((PF.laws_markIntS y.clause m).2 + 1)) + 1)) + 1))) rfl) ?_
    refine FL.nil ?_
    refine FW.region ?_
    refine FL.val rfl rfl rfl (E.move kc) ?_
    refine FL.val rfl rfl rfl (E.add rfl rfl) ?_
    refine FL.val rfl rfl rfl (E.assign (v := Value.int .i64 (wr (((i : Nat) : Int) + 1))) rfl) ?_
    refine FL.nil ?_
    obtain ⟨c2, n2, hb2, ho2⟩ := n1.round eResStep_loc hy (by decide) hpt wr45 (y' := (ResStep.mk ((PF.laws_markIntS y.clause m).1) ((PF.laws_markIntS y.clause m).2) (wr ((PF.laws_markIntS y.clause m).2 + 1)) (wr ((wr ((PF.laws_markIntS y.clause m).2 + 1)) + 1)))) ⟨_, rfl, h47⟩
    exact ⟨rfl, _, _, S43, n2, hb2.trans hb, fun b q1 q2 => (ho2 b q1 (by rw [hb]; exact q2)).trans (ho b q1 q2), kv, rfl, nat_succ rfl (lt_of_get hx) hle⟩
  ·
    rintro f1 w1 ⟨H1, c1, S1, n1, hb, ho, kv, kk, kc⟩
    refine FW.seq ?_
    refine FW.seq ?_
    refine FW.region ?_
    refine FL.val rfl rfl rfl (E.move kc) ?_
    refine FL.val rfl rfl rfl (E.move kv) ?_
    refine FL.val rfl rfl rfl (E.len te41 rfl hln) ?_
    refine FL.val rfl rfl rfl (E.lss rfl rfl) ?_
    refine FL.nil ?_
    refine FW.condF rfl dlt_len ?_
    refine FW.exit ?_
    exact ⟨nofun, rfl, _, _, S1, n1, hb, ho, kv, kk⟩
  ·
    rintro e f2 w2 ⟨rfl, H2, c2, S2, n2, hb, ho, kv, kk⟩
    refine FW.seq ?_
    refine FW.region ?_
    refine FL.val rfl rfl rfl (E.move kk) ?_
    refine FL.val rfl rfl rfl (E.assign (v := Value.int .i64 ((markFrom (fun y m => ((ResStep.mk ((PF.laws_markIntS y.clause m).1) ((PF.laws_markIntS y.clause m).2) (wr ((PF.laws_markIntS y.clause m).2 + 1)) (wr ((wr ((PF.laws_markIntS y.clause m).2 + 1)) + 1))), (wr ((wr ((wr ((PF.laws_markIntS y.clause m).2 + 1)) + 1)) + 1)))) a0 a1).2)) rfl) ?_
    refine FL.nil ?_
    refine FW.ret ?_
    exact ⟨.inr rfl, res1 rfl rfl ⟨_, _, rfl, S2, n2, hb, fun b q1 q2 => weak (F := fun b => b ∉ bl [v0] ∧ b ∉ bl c0) (fun b q => ho b q.1 q.2) b ⟨q1, q2⟩⟩⟩

@[reducible] def p_laws_markDag (H0 : GH) (w0 : World) (Ha : GH) (l : List MO) (v0 : Value) (c0 : List Value) (r : Dag × Int) : Ending → World → Prop := fun e w' =>
  ∃ (H' : GH) (c' : List Value), e = .returned (.int .i64 r.2) ∧ St H0 w0 H' w' l ∧ Nest (up w0.heap.size H') (eL eI 1) 1 v0 r.1.preds c' ∧ bl c' = bl c0 ∧ ∀ b, b ∉ bl [v0] → b ∉ bl c0 → ∀ o, Ha b = some o → H' b = some o
theorem w_laws_markDag {H0 Ha : GH} {w0 wa : World} {l : List MO} (S0 : St H0 w0 Ha wa l) (hs0 : Sl H0 w0) (a0 : Dag) (v0 : Value) (c0 : List Value) (n0 : Nest (up w0.heap.size Ha) (eL eI 1) 1 v0 a0.preds c0) (a1 : Int) :
    Calls Tryz.prog 52 #[.agg #[v0], Value.int .i64 a1] wa (p_laws_markDag H0 w0 Ha l v0 c0 (PF.laws_markDag a0 a1)) := by
  refine calls_go (N := 10) (args := [.agg #[v0], Value.int .i64 a1]) Tryz.func52 rfl rfl rfl ?_
  refine FW.seq ?_
  refine FW.region ?_
  obtain ⟨b21, w22, run23, S24⟩ := S0.box (P := Tryz.prog) 68 [v0] (v := Value.agg #[v0]) rfl (ones_cons n0.rsl.one ones_nil)
  refine FL.val rfl rfl rfl (E.box rfl run23) ?_
  obtain ⟨H25, S26, i27, at28⟩ := S24.sealBox (i := 0) (l' := l) rfl rfl
  refine FL.val rfl rfl rfl (E.assign (v := Value.int .i64 0) rfl) ?_
  refine FL.nil ?_
  refine FW.seq ?_
  refine FW.region ?_
  refine FL.val rfl rfl rfl (E.fieldAddr tf68_0 rfl) ?_
  refine FL.val rfl rfl rfl (E.load rfl (run_load1 Tryz.isAgg22 (at28.now S26.sl) rfl)) ?_
  refine FL.val rfl rfl rfl (E.move (v := Value.int .i64 a1) rfl) ?_
  refine FL.call rfl rfl rfl (E.call Tryz.call26 (A2 rfl rfl)) (w_laws_markIntSS S26 hs0 v0 a0.preds c0 (n0.mono (up_mono i27)) a1) ?_
  rintro e w30 ⟨H29, c34, rfl, S31, h32, hb35, o33⟩
  refine ⟨_, rfl, ?_⟩
  refine FL.val rfl rfl rfl (E.assign (v := Value.int .i64 ((PF.laws_markIntSS a0.preds a1).2)) rfl) ?_
  refine FL.nil ?_
  refine FW.seq ?_
  refine FW.region ?_
  refine FL.val rfl rfl rfl (E.move (v := Value.int .i64 ((PF.laws_markIntSS a0.preds a1).2)) rfl) ?_
  refine FL.val rfl rfl rfl (E.assign (v := Value.int .i64 ((PF.laws_markIntSS a0.preds a1).2)) rfl) ?_
  refine FL.nil ?_
  refine FW.ret ?_
  exact ⟨.inr rfl, res1 rfl rfl ⟨_, _, rfl, S31, h32, hb35, fun b q1 q2 o ho => o33 b q1 q2 o (i27 b o ho)⟩⟩

theorem w_laws_heldIntS {Ha : GH} {wa : World} (hs : Sl Ha wa) (v0 : Value) (a0 : List Int) (p0 : RSl Ha eI 1 v0 a0) (a1 : Int) {r : Int} (hp : (PF.laws_heldIntS a0 a1) = some r) :
    Calls Tryz.prog 59 #[v0, Value.int .i64 a1] wa (Sc Ha wa (Value.int .i64 r)) := by
  unfold PF.laws_heldIntS at hp
  have S0 := St.init hs
  refine calls_go (N := 21) (args := [v0, Value.int .i64 a1]) Tryz.func59 rfl rfl rfl ?_
  refine FW.seq ?_
  refine FW.region ?_
  refine FL.val rfl rfl rfl (E.assign (v := Value.int .i64 0) rfl) ?_
  refine FL.nil ?_
  refine FW.seq ?_
  refine FW.seq ?_
  refine FW.region ?_
  refine FL.val rfl rfl rfl (E.assign (v := Value.int .i64 0) rfl) ?_
  refine FL.nil ?_
  obtain ⟨q22, hq, hp⟩ := bndR hp
  refine FW.block ?_
  refine FW.mono (FW.forL (S := Int) (X := Int) (fun (i22 : Nat) (s22 : Int) f w => ∃ H : GH, St Ha wa H w [] ∧ Inc Ha H ∧ f 5 = Value.int .i64 ((i22 : Nat) : Int) ∧ f 0 = v0 ∧ f 1 = Value.int .i64 s22) (fun q e f w => match q with | .go s22 => e = Exit.exit 0 ∧ (∃ H : GH, St Ha wa H w [] ∧ Inc Ha H ∧ f 1 = Value.int .i64 s22) | .rt x => ((e = Exit.ret) ∧ (fun e f w => (e = Exit.normal ∨ e = Exit.ret) ∧ ∀ a, Fr 21 a f → ∃ v, (results Tryz.f59 a.tmps).run Tryz.prog w = .ok v w ∧ (Sc Ha wa (Value.int .i64 x)) (.returned v) w) e f w)) hq ⟨_, S0, (Inc.rfl _), rfl, rfl, rfl⟩ ?_ ?_) ?_
  ·
    clear hp hq
    rintro i22 y21 s22 f42 w41 ⟨H38, S39, i40, k43, k44, k45⟩ hx22 o53 hp
    refine FW.seq ?_
    refine FW.seq ?_
    refine FW.region ?_
    refine FL.val rfl rfl rfl (E.move k43) ?_
    refine FL.val rfl rfl rfl (E.move k44) ?_
    refine FL.val rfl rfl rfl (E.lenP te61 rfl p0) ?_
    refine FL.val rfl rfl rfl (E.lssT rfl rfl (lss_len hx22)) ?_
    refine FL.nil ?_
    refine FW.condT rfl rfl ?_
    refine FW.skip ?_
    refine FW.seq ?_
    refine FW.block ?_
    refine FW.seq ?_
    refine FW.seq ?_
    refine FW.region ?_
    refine FL.val rfl rfl rfl (E.move k44) ?_
    refine FL.val rfl rfl rfl (E.move k43) ?_
    obtain ⟨p46, cs47, pt48, l49, at50, rel51⟩ := p0.at (ix_nat hx22)
    obtain rfl := eI_open rel51
    refine FL.val rfl rfl rfl (E.indexAddr te61 rfl rfl pt48) ?_
    refine FL.val rfl rfl rfl (E.load rfl (run_load0 Tryz.isAgg3 ((at50.mono i40).now S39.sl) rfl)) ?_
    refine FL.val rfl rfl rfl (E.move k45) ?_
    refine FL.val rfl rfl rfl (E.neq rfl rfl) ?_
    refine FL.nil ?_
    rcases ifB hp with ⟨c52, hp⟩ | ⟨c52, hp⟩
    ·
      refine FW.condT rfl c52 ?_
      refine FW.seq ?_
      refine FW.region ?_
      refine FL.val rfl rfl rfl (E.assign (v := Value.int .i64 (-1)) rfl) ?_
      refine FL.nil ?_
      refine FW.ret ?_
      obtain rfl := Option.some.inj hp
      exact ⟨nofun, rfl, ⟨.inr rfl, res1 rfl rfl ⟨rfl, S39.back⟩⟩⟩
    ·
      refine FW.condF rfl c52 ?_
      refine FW.skip ?_
      refine FW.region ?_
      refine FL.val rfl rfl rfl (E.move k45) ?_
      refine FL.val rfl rfl rfl (E.add rfl rfl) ?_
      refine FL.val rfl rfl rfl (E.assign (v := Value.int .i64 (wr (s22 + 1))) rfl) ?_
      refine FL.nil ?_
      refine FW.region ?_
      refine FL.val rfl rfl rfl (E.move k43) ?_
      refine FL.val rfl rfl rfl (E.add rfl rfl) ?_
      refine FL.val rfl rfl rfl (E.assign (v := Value.int .i64 (wr (((i22 : Nat) : Int) + 1))) rfl) ?_
      refine FL.nil ?_
      obtain rfl := Option.some.inj hp
      exact ⟨rfl, ⟨_, S39, i40, (nat_succ rfl (lt_of_get hx22) (p0.mono i40).le), k44, rfl⟩⟩
  ·
    clear hp hq
    rintro s22 f64 w63 ⟨H60, S61, i62, k65, k66, k67⟩
    refine FW.seq ?_
    refine FW.seq ?_
    refine FW.region ?_
    refine FL.val rfl rfl rfl (E.move k65) ?_
    refine FL.val rfl rfl rfl (E.move k66) ?_
    refine FL.val rfl rfl rfl (E.lenP te61 rfl p0) ?_
    refine FL.val rfl rfl rfl (E.lss rfl rfl) ?_
    refine FL.nil ?_
    refine FW.condF rfl dlt_len ?_
    refine FW.exit ?_
    exact ⟨nofun, rfl, ⟨_, S61, i62, k67⟩⟩
  ·
    clear hq
    intro e f58 w57 hD
    rcases q22 with s22 | x22
    ·
      obtain ⟨rfl, hD⟩ := hD
      obtain ⟨H54, S55, i56, k59⟩ := hD
      replace hp := el_go hp
      refine FW.seq ?_
      refine FW.region ?_
      refine FL.val rfl rfl rfl (E.move k59) ?_
      refine FL.val rfl rfl rfl (E.assign (v := Value.int .i64 s22) rfl) ?_
      refine FL.nil ?_
      refine FW.ret ?_
      obtain rfl := Option.some.inj hp
      exact ⟨.inr rfl, res1 rfl rfl ⟨rfl, S55.back⟩⟩
    ·
      obtain ⟨he, hL⟩ := hD
      replace hp := el_rt hp
      obtain rfl := Option.some.inj hp
      subst he
      exact hL

theorem w_laws_heldIntSS {Ha : GH} {wa : World} (hs : Sl Ha wa) (v0 : Value) (a0 : List (List Int)) (p0 : RSl Ha (eL eI 1) 1 v0 a0) (a1 : Int) {r : Int} (hp : (PF.laws_heldIntSS a0 a1) = some r) :
    Calls Tryz.prog 27 #[v0, Value.int .i64 a1] wa (Sc Ha wa (Value.int .i64 r)) := by
  unfold PF.laws_heldIntSS at hp
  have S0 := St.init hs
  refine calls_go (N := 21) (args := [v0, Value.int .i64 a1]) Tryz.func27 rfl rfl rfl ?_
  refine FW.seq ?_
  refine FW.region ?_
  refine FL.val rfl rfl rfl (E.assign (v := Value.int .i64 0) rfl) ?_
  refine FL.nil ?_
  refine FW.seq ?_
  refine FW.seq ?_
  refine FW.region ?_
  refine FL.val rfl rfl rfl (E.assign (v := Value.int .i64 0) rfl) ?_
  refine FL.nil ?_
  obtain ⟨q22, hq, hp⟩ := bndR hp
  refine FW.block ?_
  refine FW.mono (FW.forL (S := Int) (X := Int) (fun (i22 : Nat) (s22 : Int) f w => ∃ H : GH, St Ha wa H w [] ∧ Inc Ha H ∧ f 5 = Value.int .i64 ((i22 : Nat) : Int) ∧ f 0 = v0 ∧ f 1 = Value.int .i64 s22) (fun q e f w => match q with | .go s22 => e = Exit.exit 0 ∧ (∃ H : GH, St Ha wa H w [] ∧ Inc Ha H ∧ f 1 = Value.int .i64 s22) | .rt x => ((e = Exit.ret) ∧ (fun e f w => (e = Exit.normal ∨ e = Exit.ret) ∧ ∀ a, Fr 21 a f → ∃ v, (results Tryz.f27 a.tmps).run Tryz.prog w = .ok v w ∧ (Sc Ha wa (Value.int .i64 x)) (.returned v) w) e f w)) hq ⟨_, S0, (Inc.rfl _), rfl, rfl, rfl⟩ ?_ ?_) ?_
  ·
    clear hp hq
    rintro i22 y21 s22 f49 w48 ⟨H45, S46, i47, k50, k51, k52⟩ hx22 o67 hp
    refine FW.seq ?_
    refine FW.seq ?_
    refine FW.region ?_
    refine FL.val rfl rfl rfl (E.move k50) ?_
    refine FL.val rfl rfl rfl (E.move k51) ?_
    refine FL.val rfl rfl rfl (E.lenP te22 rfl p0) ?_
    refine FL.val rfl rfl rfl (E.lssT rfl rfl (lss_len hx22)) ?_
    refine FL.nil ?_
    refine FW.condT rfl rfl ?_
    refine FW.skip ?_
    refine FW.seq ?_
    refine FW.block ?_
    refine FW.seq ?_
    refine FW.region ?_
    refine FL.val rfl rfl rfl (E.move k51) ?_
    refine FL.val rfl rfl rfl (E.move k50) ?_
    obtain ⟨p53, cs54, pt55, l56, at57, rel58⟩ := p0.at (ix_nat hx22)
    obtain ⟨v59, rfl, h60⟩ := eL_open rel58
    refine FL.val rfl rfl rfl (E.indexAddr te22 rfl rfl pt55) ?_
    refine FL.val rfl rfl rfl (E.load rfl (run_load0 Tryz.isAgg61 ((at57.mono i47).now S46.sl) rfl)) ?_
    refine FL.val rfl rfl rfl (E.move k52) ?_
    obtain ⟨r61, hr62, hp⟩ := bnd hp
    refine FL.call rfl rfl rfl (E.call Tryz.call59 (A2 rfl rfl)) (w_laws_heldIntS S46.sl v59 y21 (h60.mono i47) s22 hr62) ?_
    rintro e w63 ⟨rfl, r64⟩
    refine ⟨_, rfl, ?_⟩
    have S65 := S46.call r64
    refine FL.val rfl rfl rfl (E.assign (v := Value.int .i64 r61) rfl) ?_
    refine FL.nil ?_
    refine FW.seq ?_
    refine FW.region ?_
    refine FL.val rfl rfl rfl (E.move (v := Value.int .i64 r61) rfl) ?_
    refine FL.val rfl rfl rfl (E.lss rfl rfl) ?_
    refine FL.nil ?_
    rcases ifB hp with ⟨c66, hp⟩ | ⟨c66, hp⟩
    ·
      refine FW.condT rfl c66 ?_
      refine FW.seq ?_
      refine FW.region ?_
      refine FL.val rfl rfl rfl (E.assign (v := Value.int .i64 (-1)) rfl) ?_
      refine FL.nil ?_
      refine FW.ret ?_
      obtain rfl := Option.some.inj hp
      exact ⟨nofun, rfl, ⟨.inr rfl, res1 rfl rfl ⟨rfl, S65.back⟩⟩⟩
    ·
      refine FW.condF rfl c66 ?_
      refine FW.skip ?_
      refine FW.region ?_
      refine FL.val rfl rfl rfl (E.move k50) ?_
      refine FL.val rfl rfl rfl (E.add rfl rfl) ?_
      refine FL.val rfl rfl rfl (E.assign (v := Value.int .i64 (wr (((i22 : Nat) : Int) + 1))) rfl) ?_
      refine FL.nil ?_
      obtain rfl := Option.some.inj hp
      exact ⟨rfl, ⟨_, S65, i47, (nat_succ rfl (lt_of_get hx22) (p0.mono i47).le), k51, rfl⟩⟩
  ·
    clear hp hq
    rintro s22 f78 w77 ⟨H74, S75, i76, k79, k80, k81⟩
    refine FW.seq ?_
    refine FW.seq ?_
    refine FW.region ?_
    refine FL.val rfl rfl rfl (E.move k79) ?_
    refine FL.val rfl rfl rfl (E.move k80) ?_
    refine FL.val rfl rfl rfl (E.lenP te22 rfl p0) ?_
    refine FL.val rfl rfl rfl (E.lss rfl rfl) ?_
    refine FL.nil ?_
    refine FW.condF rfl dlt_len ?_
    refine FW.exit ?_
    exact ⟨nofun, rfl, ⟨_, S75, i76, k81⟩⟩
  ·
    clear hq
    intro e f72 w71 hD
    rcases q22 with s22 | x22
    ·
      obtain ⟨rfl, hD⟩ := hD
      obtain ⟨H68, S69, i70, k73⟩ := hD
      replace hp := el_go hp
      refine FW.seq ?_
      refine FW.region ?_
      refine FL.val rfl rfl rfl (E.move k73) ?_
      refine FL.val rfl rfl rfl (E.assign (v := Value.int .i64 s22) rfl) ?_
      refine FL.nil ?_
      refine FW.ret ?_
      obtain rfl := Option.some.inj hp
      exact ⟨.inr rfl, res1 rfl rfl ⟨rfl, S69.back⟩⟩
    ·
      obtain ⟨he, hL⟩ := hD
      replace hp := el_rt hp
      obtain rfl := Option.some.inj hp
      subst he
      exact hL

theorem w_laws_heldDag {Ha : GH} {wa : World} (hs : Sl Ha wa) (a0 : Dag) (v0_0 : Value) (p0_0 : RSl Ha (eL eI 1) 1 v0_0 a0.preds) (a1 : Int) {r : Int} (hp : (PF.laws_heldDag a0 a1) = some r) :
    Calls Tryz.prog 53 #[Value.agg #[v0_0], Value.int .i64 a1] wa (Sc Ha wa (Value.int .i64 r)) := by
  unfold PF.laws_heldDag at hp
  have S0 := St.init hs
  refine calls_go (N := 12) (args := [Value.agg #[v0_0], Value.int .i64 a1]) Tryz.func53 rfl rfl rfl ?_
  refine FW.seq ?_
  refine FW.region ?_
  obtain ⟨b21, w22, run23, S24⟩ := S0.box (P := Tryz.prog) 68 [v0_0] (v := Value.agg #[v0_0]) rfl (ones_cons p0_0.one ones_nil)
  refine FL.val rfl rfl rfl (E.box rfl run23) ?_
  obtain ⟨H25, S26, i27, at28⟩ := S24.sealBox (i := 0) (l' := []) rfl rfl
  refine FL.val rfl rfl rfl (E.assign (v := Value.int .i64 0) rfl) ?_
  refine FL.nil ?_
  refine FW.seq ?_
  refine FW.region ?_
  refine FL.val rfl rfl rfl (E.fieldAddr tf68_0 rfl) ?_
  refine FL.val rfl rfl rfl (E.load rfl (run_load1 Tryz.isAgg22 (at28.now S26.sl) rfl)) ?_
  refine FL.val rfl rfl rfl (E.move (v := Value.int .i64 a1) rfl) ?_
  obtain ⟨r29, hr30, hp⟩ := bnd hp
  refine FL.call rfl rfl rfl (E.call Tryz.call27 (A2 rfl rfl)) (w_laws_heldIntSS S26.sl v0_0 a0.preds (p0_0.mono i27) a1 hr30) ?_
  rintro e w31 ⟨rfl, r32⟩
  refine ⟨_, rfl, ?_⟩
  have S33 := S26.call r32
  refine FL.val rfl rfl rfl (E.assign (v := Value.int .i64 r29) rfl) ?_
  refine FL.nil ?_
  refine FW.seq ?_
  refine FW.seq ?_
  refine FW.region ?_
  refine FL.val rfl rfl rfl (E.move (v := Value.int .i64 r29) rfl) ?_
  refine FL.val rfl rfl rfl (E.lss rfl rfl) ?_
  refine FL.nil ?_
  rcases ifB hp with ⟨c34, hp⟩ | ⟨c34, hp⟩
  ·
    refine FW.condT rfl c34 ?_
    refine FW.seq ?_
    refine FW.region ?_
    refine FL.val rfl rfl rfl (E.assign (v := Value.int .i64 (-1)) rfl) ?_
    refine FL.nil ?_
    refine FW.ret ?_
    obtain rfl := Option.some.inj hp
    exact ⟨.inr rfl, res1 rfl rfl ⟨rfl, S33.back⟩⟩
  ·
    refine FW.condF rfl c34 ?_
    refine FW.skip ?_
    refine FW.seq ?_
    refine FW.region ?_
    refine FL.val rfl rfl rfl (E.move (v := Value.int .i64 r29) rfl) ?_
    refine FL.val rfl rfl rfl (E.assign (v := Value.int .i64 r29) rfl) ?_
    refine FL.nil ?_
    refine FW.ret ?_
    obtain rfl := Option.some.inj hp
    exact ⟨.inr rfl, res1 rfl rfl ⟨rfl, S33.back⟩⟩

set_option maxHeartbeats 4000000 in
theorem w_laws_FnExactDagOfProof {Ha : GH} {wa : World} (hs : Sl Ha wa) (a0 : Cnf) (v0_1 : Value) (p0_1 : RSl Ha (eL eI 1) 1 v0_1 a0.clauses) (v1 : Value) (a1 : List ResStep) (p1 : RSl Ha eResStep 4 v1 a1) {r : Bool} (hp : (PF.laws_FnExactDagOfProof a0 a1) = some r) :
    Calls Tryz.prog 9 #[Value.agg #[Value.int .i64 a0.vars, v0_1], v1] wa (Sc Ha wa (Value.bool r)) := by
  unfold PF.laws_FnExactDagOfProof at hp
  have S0 := St.init hs
  refine calls_go (N := 119) (args := [Value.agg #[Value.int .i64 a0.vars, v0_1], v1]) Tryz.func9 rfl rfl rfl ?_
  refine FW.seq ?_
  refine FW.region ?_
  obtain ⟨w21, run22, S23, z24⟩ := S0.boxB (P := Tryz.prog) 24 [Value.int .i64 a0.vars, v0_1] (v := Value.agg #[Value.int .i64 a0.vars, v0_1]) rfl (ones_cons rfl (ones_cons p0_1.one ones_nil))
  refine FL.val rfl rfl rfl (E.box rfl run22) ?_
  obtain ⟨H25, S26, i27, at28⟩ := S23.sealBoxB (i := 0) (l' := []) rfl rfl
  refine FL.val rfl rfl rfl (E.assign (v := Value.bool false) rfl) ?_
  refine FL.nil ?_
  refine FW.seq ?_
  refine FW.region ?_
  refine FL.val rfl rfl rfl (E.assign (v := Value.int .i64 1048576) rfl) ?_
  refine FL.nil ?_
  refine FW.seq ?_
  refine FW.region ?_
  refine FL.val rfl rfl rfl (E.load rfl (run_loadA Tryz.isAgg24 Tryz.sizeOf24 ((at28.mono sgI).now S26.sl) rfl)) ?_
  refine FL.val rfl rfl rfl (E.move (v := Value.int .i64 1048576) rfl) ?_
  obtain ⟨r29, hr30, hp⟩ := bnd hp
  refine FL.call rfl rfl rfl (E.call Tryz.call15 (A2 rfl rfl)) (w_laws_szCnf S26.sl a0 v0_1 (p0_1.mono i27) 1048576 hr30) ?_
  rintro e w31 ⟨rfl, r32⟩
  refine ⟨_, rfl, ?_⟩
  have S33 := S26.call r32
  have z34 := r32.bel.size
  refine FL.val rfl rfl rfl (E.assign (v := Value.int .i64 r29) rfl) ?_
  refine FL.nil ?_
  refine FW.seq ?_
  refine FW.seq ?_
  refine FW.region ?_
  refine FL.val rfl rfl rfl (E.move (v := Value.int .i64 r29) rfl) ?_
  refine FL.val rfl rfl rfl (E.lss rfl rfl) ?_
  refine FL.nil ?_
  rcases ifB hp with ⟨c35, hp⟩ | ⟨c35, hp⟩
  ·
    refine FW.condT rfl c35 ?_
    refine FW.seq ?_
    refine FW.region ?_
    refine FL.val rfl rfl rfl (E.assign (v := Value.bool true) rfl) ?_
    refine FL.nil ?_
    refine FW.ret ?_
    obtain rfl := Option.some.inj hp
    exact ⟨.inr rfl, res1 rfl rfl ⟨rfl, S33.back⟩⟩
  ·
    refine FW.condF rfl c35 ?_
    refine FW.skip ?_
    refine FW.seq ?_
    refine FW.region ?_
    refine FL.val rfl rfl rfl (E.move (v := v1) rfl) ?_
    refine FL.val rfl rfl rfl (E.move (v := Value.int .i64 r29) rfl) ?_
    obtain ⟨r36, hr37, hp⟩ := bnd hp
    refine FL.call rfl rfl rfl (E.call Tryz.call41 (A2 rfl rfl)) (w_laws_szResStepS S33.sl v1 a1 (p1.mono i27) r29 hr37) ?_
    rintro e w38 ⟨rfl, r39⟩
    refine ⟨_, rfl, ?_⟩
    have S40 := S33.call r39
    have z41 := r39.bel.size
    refine FL.val rfl rfl rfl (E.assign (v := Value.int .i64 r36) rfl) ?_
    refine FL.nil ?_
    refine FW.seq ?_
    refine FW.seq ?_
    refine FW.region ?_
    refine FL.val rfl rfl rfl (E.move (v := Value.int .i64 r36) rfl) ?_
    refine FL.val rfl rfl rfl (E.lss rfl rfl) ?_
    refine FL.nil ?_
    rcases ifB hp with ⟨c42, hp⟩ | ⟨c42, hp⟩
    ·
      refine FW.condT rfl c42 ?_
      refine FW.seq ?_
      refine FW.region ?_
      refine FL.val rfl rfl rfl (E.assign (v := Value.bool true) rfl) ?_
      refine FL.nil ?_
      refine FW.ret ?_
      obtain rfl := Option.some.inj hp
      exact ⟨.inr rfl, res1 rfl rfl ⟨rfl, S40.back⟩⟩
    ·
      refine FW.condF rfl c42 ?_
      refine FW.skip ?_
      refine FW.seq ?_
      refine FW.region ?_
      refine FL.val rfl rfl rfl (E.load rfl (run_loadA Tryz.isAgg24 Tryz.sizeOf24 ((at28.mono sgI).now S40.sl) rfl)) ?_
      obtain ⟨r43, hr44, hp⟩ := bnd hp
      refine FL.call rfl rfl rfl (E.call Tryz.call18 (A1 rfl)) (w_laws_toCnf S40.sl a0 v0_1 (p0_1.mono i27) hr44) ?_
      rintro e w46 ⟨H45, v49, rfl, r48, ⟨c52, ns51⟩⟩
      refine ⟨_, rfl, ?_⟩
      have h50 := ns51.rsl
      have nv53 : New H25 [v49] := New.of_up S40.sl h50.dom
      have S47 := S40.call r48
      have z54 := r48.bel.size
      have h50 := h50.mono (sg_of S47.sl)
      have ns51 := ns51.mono (sg_of S47.sl)
      refine FL.val rfl rfl rfl (E.move (v := v1) rfl) ?_
      obtain ⟨r55, hr56, hp⟩ := bnd hp
      refine FL.call rfl rfl rfl (E.call Tryz.call43 (A1 rfl)) (w_laws_toResStepS S47.sl v1 a1 (p1.mono (i27.tr r48.inc)) hr56) ?_
      rintro e w58 ⟨H57, v61, n62, cs63, rfl, r60, els64, nd65⟩
      refine ⟨_, rfl, ?_⟩
      have nv66 : New H45 cs63 := New.of_up S47.sl els64.dom
      obtain ⟨H67, r68, i69, ns72, nv71⟩ := r60.sealRowN (i := 0) (l' := []) rfl els64 nd65 (by decide) rfl
      have h70 := ns72.rsl
      have S59 := S47.call r68.run
      have z73 := r68.run.bel.size
      have h70 := h70.mono (sg_of S59.sl)
      have ns72 := ns72.mono (sg_of S59.sl)
      obtain ⟨r74, hr75, hp⟩ := bnd hp
      refine FL.call rfl rfl rfl (E.call Tryz.call49 (A2 rfl rfl)) (w_spec_DagOfProof S59.sl r43 v49 (h50.mono (sgI.tr r68.run.inc)) v61 r55 (h70.mono sgI) hr75) ?_
      rintro e w77 ⟨H76, v80, rfl, r79, h81⟩
      refine ⟨_, rfl, ?_⟩
      have S78 := S59.call r79
      have z82 := r79.bel.size
      have h81 := h81.mono (bw_of S78.sl)
      refine FL.val rfl rfl rfl (E.move (v := Value.tuple #[Value.agg #[v80], Value.bool r74.2]) rfl) ?_
      refine FL.val rfl rfl rfl (E.extract (i := 0) rfl rfl) ?_
      refine FL.val rfl rfl rfl (E.extract (i := 1) rfl rfl) ?_
      obtain ⟨w83, run84, S85, z86⟩ := S78.allocB (P := Tryz.prog) 68 [Value.slice none 0 0] Tryz.zeroValue68 rfl (ones_cons rfl ones_nil)
      refine FL.val rfl rfl rfl (E.alloc run84) ?_
      obtain ⟨w87, run88, S89, z90⟩ := S85.store0B (P := Tryz.prog) (t := 68) (i := 0) (cs' := [v80]) (l' := [.box w77.heap.size 68 [v80]]) (v := Value.agg #[v80]) (c := [v80]) rfl Tryz.sizeOf68 rfl rfl (ones_cons h81.one ones_nil) (Nat.le_of_ble_eq_true rfl) rfl rfl
      refine FL.act rfl rfl (E.store rfl rfl run88) ?_
      obtain ⟨H91, S92, i93, at94⟩ := S89.sealBoxB (i := 0) (l' := []) rfl rfl
      refine FL.val rfl rfl rfl (E.assign (v := Value.bool r74.2) rfl) ?_
      refine FL.nil ?_
      refine FW.seq ?_
      refine FW.region ?_
      refine FL.val rfl rfl rfl (E.load rfl (run_loadA Tryz.isAgg24 Tryz.sizeOf24 ((at28.mono (sgI.tr (((r48.inc.tr r68.run.inc).tr r79.inc).tr i93))).now S92.sl) rfl)) ?_
      obtain ⟨r95, hr96, hp⟩ := bnd hp
      refine FL.call rfl rfl rfl (E.call Tryz.call18 (A1 rfl)) (w_laws_toCnf S92.sl a0 v0_1 (p0_1.mono ((((i27.tr r48.inc).tr r68.run.inc).tr r79.inc).tr i93)) hr96) ?_
      rintro e w98 ⟨H97, v101, rfl, r100, ⟨c104, ns103⟩⟩
      refine ⟨_, rfl, ?_⟩
      have h102 := ns103.rsl
      have nv105 : New H91 [v101] := New.of_up S92.sl h102.dom
      have S99 := S92.call r100
      have z106 := r100.bel.size
      have h102 := h102.mono (sg_of S99.sl)
      have ns103 := ns103.mono (sg_of S99.sl)
      obtain ⟨w107, run108, S109, z110⟩ := S99.allocB (P := Tryz.prog) 30 [Value.int .i64 0, Value.slice none 0 0] Tryz.zeroValue30 rfl (ones_cons rfl (ones_cons rfl ones_nil))
      refine FL.val rfl rfl rfl (E.alloc run108) ?_
      obtain ⟨w111, run112, S113, z114⟩ := S109.store0B (P := Tryz.prog) (t := 30) (i := 0) (cs' := [Value.int .i64 r95.vars, v101]) (l' := [.box w98.heap.size 30 [Value.int .i64 r95.vars, v101]]) (v := Value.agg #[Value.int .i64 r95.vars, v101]) (c := [Value.int .i64 r95.vars, v101]) rfl Tryz.sizeOf30 rfl rfl (ones_cons rfl (ones_cons h102.one ones_nil)) (Nat.le_of_ble_eq_true rfl) rfl rfl
      refine FL.act rfl rfl (E.store rfl rfl run112) ?_
      obtain ⟨H115, S116, i117, at118⟩ := S113.sealBoxB (i := 0) (l' := []) rfl rfl
      refine FL.nil ?_
      refine FW.seq ?_
      refine FW.region ?_
      refine FL.val rfl rfl rfl (E.move (v := v1) rfl) ?_
      obtain ⟨r119, hr120, hp⟩ := bnd hp
      refine FL.call rfl rfl rfl (E.call Tryz.call43 (A1 rfl)) (w_laws_toResStepS S116.sl v1 a1 (p1.mono ((((((i27.tr r48.inc).tr r68.run.inc).tr r79.inc).tr i93).tr r100.inc).tr i117)) hr120) ?_
      rintro e w122 ⟨H121, v125, n126, cs127, rfl, r124, els128, nd129⟩
      refine ⟨_, rfl, ?_⟩
      have nv130 : New H115 cs127 := New.of_up S116.sl els128.dom
      obtain ⟨H131, r132, i133, ns136, nv135⟩ := r124.sealRowN (i := 0) (l' := []) rfl els128 nd129 (by decide) rfl
      have h134 := ns136.rsl
      have S123 := S116.call r132.run
      have z137 := r132.run.bel.size
      have h134 := h134.mono (sg_of S123.sl)
      have ns136 := ns136.mono (sg_of S123.sl)
      refine FL.val rfl rfl rfl (E.assign (v := v125) rfl) ?_
      refine FL.nil ?_
      refine FW.seq ?_
      refine FW.region ?_
      refine FL.val rfl rfl rfl (E.load rfl (run_loadA Tryz.isAgg30 Tryz.sizeOf30 ((at118.mono (sgI.tr r132.run.inc)).now S123.sl) rfl)) ?_
      refine FL.val rfl rfl rfl (E.move (v := v125) rfl) ?_
      obtain ⟨r138, hr139, hp⟩ := bnd hp
      refine FL.call rfl rfl rfl (E.call Tryz.call50 (A2 rfl rfl)) (w_impl_DagOfProof S123.sl r95 v101 (h102.mono (sgI.tr (i117.tr r132.run.inc))) v125 r119 (h134.mono sgI) hr139) ?_
      rintro e w141 ⟨H140, v144, rfl, r143, ⟨c147, ns146⟩⟩
      refine ⟨_, rfl, ?_⟩
      have h145 := ns146.rsl
      have nv148 : New H131 [v144] := New.of_up S123.sl h145.dom
      have S142 := S123.call r143
      have z149 := r143.bel.size
      have h145 := h145.mono (sg_of S142.sl)
      have ns146 := ns146.mono (sg_of S142.sl)
      refine FL.val rfl rfl rfl (E.move (v := Value.tuple #[Value.agg #[v144], Value.bool r138.2]) rfl) ?_
      refine FL.val rfl rfl rfl (E.extract (i := 0) rfl rfl) ?_
      refine FL.val rfl rfl rfl (E.extract (i := 1) rfl rfl) ?_
      obtain ⟨w150, run151, S152, z153⟩ := S142.allocB (P := Tryz.prog) 68 [Value.slice none 0 0] Tryz.zeroValue68 rfl (ones_cons rfl ones_nil)
      refine FL.val rfl rfl rfl (E.alloc run151) ?_
      obtain ⟨w154, run155, S156, z157⟩ := S152.store0B (P := Tryz.prog) (t := 68) (i := 0) (cs' := [v144]) (l' := [.box w141.heap.size 68 [v144]]) (v := Value.agg #[v144]) (c := [v144]) rfl Tryz.sizeOf68 rfl rfl (ones_cons h145.one ones_nil) (Nat.le_of_ble_eq_true rfl) rfl rfl
      refine FL.act rfl rfl (E.store rfl rfl run155) ?_
      obtain ⟨H158, S159, i160, at161⟩ := S156.sealBoxB (i := 0) (l' := []) rfl rfl
      refine FL.val rfl rfl rfl (E.assign (v := Value.bool r138.2) rfl) ?_
      refine FL.nil ?_
      refine FW.seq ?_
      refine FW.seq ?_
      refine FW.region ?_
      refine FL.val rfl rfl rfl (E.load rfl (run_loadA Tryz.isAgg68 Tryz.sizeOf68 ((at161.mono sgI).now S159.sl) rfl)) ?_
      refine FL.val rfl rfl rfl (E.load rfl (run_loadA Tryz.isAgg68 Tryz.sizeOf68 ((at94.mono (sgI.tr ((((r100.inc.tr i117).tr r132.run.inc).tr r143.inc).tr i160))).now S159.sl) rfl)) ?_
      obtain ⟨r162, hr163, hp⟩ := bnd hp
      refine FL.call rfl rfl rfl (E.call Tryz.call51 (A2 rfl rfl)) (w_laws_eqDag S159.sl r138.1 v144 (h145.mono (sgI.tr i160)) r74.1 v80 (h81.mono (bwI.tr (((((i93.tr r100.inc).tr i117).tr r132.run.inc).tr r143.inc).tr i160))) hr163) ?_
      rintro e w164 ⟨rfl, r165⟩
      refine ⟨_, rfl, ?_⟩
      have S166 := S159.call r165
      have z167 := r165.bel.size
      refine FL.val rfl rfl rfl (E.not rfl) ?_
      refine FL.val rfl rfl rfl (E.move (v := Value.bool (!r162)) rfl) ?_
      refine FL.cut 4 (fun f w => ∃ H : GH, St Ha wa H w [] ∧ Inc H158 H ∧ f 1 = v1 ∧ f 2 = Value.pointer (some ⟨wa.heap.size, 0, none⟩) ∧ f 6 = Value.pointer (some ⟨w77.heap.size, 0, none⟩) ∧ f 7 = Value.bool r74.2 ∧ f 8 = Value.pointer (some ⟨w98.heap.size, 0, none⟩) ∧ f 9 = v125 ∧ f 10 = Value.pointer (some ⟨w141.heap.size, 0, none⟩) ∧ f 11 = Value.bool r138.2 ∧ f 53 = Value.bool (bif (!r162) then true else (!(r138.2 == r74.2)))) ?_ ?_
      ·
        rcases bcase (!r162) with c174 | c174
        ·
          refine FL.skip (wF_no rfl rfl rfl c174) rfl ?_
          refine FL.skip (wF_no rfl rfl rfl c174) rfl ?_
          refine FL.skip (wF_no rfl rfl rfl c174) rfl ?_
          refine FL.val rfl rfl rfl (E.pickT rfl c174 rfl) ?_
          exact FL.nil ⟨rfl, _, S166, (Inc.rfl _), rfl, rfl, rfl, rfl, rfl, rfl, rfl, rfl, (congrArg Value.bool (bifT c174).symm)⟩
        ·
          refine FL.val (wF_yes rfl rfl rfl c174) rfl rfl (E.move (v := Value.bool r138.2) rfl) ?_
          refine FL.val (wF_yes rfl rfl rfl c174) rfl rfl (E.move (v := Value.bool r74.2) rfl) ?_
          refine FL.val (wF_yes rfl rfl rfl c174) rfl rfl (E.neqB Tryz.runUnderlying4 rfl rfl) ?_
          refine FL.val rfl rfl rfl (E.pickF rfl c174 rfl) ?_
          exact FL.nil ⟨rfl, _, S166, (Inc.rfl _), rfl, rfl, rfl, rfl, rfl, rfl, rfl, rfl, (congrArg Value.bool (bifF c174).symm)⟩
      rintro f173 w172 ⟨H169, S170, i171, k175, k176, k177, k178, k179, k180, k181, k182, k183⟩
      refine FL.nil ?_
      rcases ifB hp with ⟨c184, hp⟩ | ⟨c184, hp⟩
      ·
        refine FW.condT k183 c184 ?_
        refine FW.seq ?_
        refine FW.region ?_
        refine FL.val rfl rfl rfl (E.assign (v := Value.bool false) rfl) ?_
        refine FL.nil ?_
        refine FW.ret ?_
        obtain rfl := Option.some.inj hp
        exact ⟨.inr rfl, res1 rfl rfl ⟨rfl, S170.back⟩⟩
      ·
        refine FW.condF k183 c184 ?_
        refine FW.skip ?_
        refine FW.seq ?_
        refine FW.seq ?_
        obtain ⟨r1385, hr1386, hp⟩ := bnd hp
        obtain ⟨r1785, hr1786, hp⟩ := bnd hp
        refine FW.drawA (Sl H169) (fun f w => ∃ H : GH, St Ha wa H w [] ∧ Inc H169 H ∧ f 1 = v1 ∧ f 2 = Value.pointer (some ⟨wa.heap.size, 0, none⟩) ∧ f 6 = Value.pointer (some ⟨w77.heap.size, 0, none⟩) ∧ f 7 = Value.bool r74.2 ∧ f 8 = Value.pointer (some ⟨w98.heap.size, 0, none⟩) ∧ f 9 = v125 ∧ f 10 = Value.pointer (some ⟨w141.heap.size, 0, none⟩) ∧ f 11 = Value.bool r138.2 ∧ f 58 = Value.bool (!r1785)) (by kernel_rfl) S170.sl ?_ ?_
        ·
          intro w185 r186
          have S187 := S170.call r186
          refine FA.take (i := 0) (l' := #[true, false, false, false, false]) rfl (by kernel_rfl) (by kernel_rfl) (by kernel_rfl) (by kernel_rfl) S187.sl rfl rfl rfl (fun w' hw' => (E.load k179 (run_loadA Tryz.isAgg30 Tryz.sizeOf30 ((at118.mono (sgI.tr (((r132.run.inc.tr r143.inc).tr i160).tr i171))).now hw') rfl))) ?_
          refine FA.take (i := 1) (l' := #[true, true, false, false, false]) rfl (by kernel_rfl) (by kernel_rfl) (by kernel_rfl) (by kernel_rfl) S187.sl rfl rfl rfl (fun w' hw' => (E.load k176 (run_loadA Tryz.isAgg24 Tryz.sizeOf24 ((at28.mono (sgI.tr (((((((((r48.inc.tr r68.run.inc).tr r79.inc).tr i93).tr r100.inc).tr i117).tr r132.run.inc).tr r143.inc).tr i160).tr i171))).now hw') rfl))) ?_
          refine FA.all1 (i := 2) (by kernel_rfl) ?_
          ·
            refine FO.call (l' := #[true, true, true, false, false]) rfl (by kernel_rfl) rfl rfl rfl (E.call Tryz.call18 (A1 rfl)) (w_laws_toCnf S187.sl a0 v0_1 (p0_1.mono ((((((((((i27.tr r48.inc).tr r68.run.inc).tr r79.inc).tr i93).tr r100.inc).tr i117).tr r132.run.inc).tr r143.inc).tr i160).tr i171)) hr1386) ?_
            rintro e w1388 ⟨H1387, v1391, rfl, r1390, ⟨c1394, ns1393⟩⟩
            refine ⟨_, rfl, ?_⟩
            have h1392 := ns1393.rsl
            have nv1395 : New H169 [v1391] := New.of_up S187.sl h1392.dom
            have S1389 := S187.call r1390
            have z1396 := r1390.bel.size
            have h1392 := h1392.mono (sg_of S1389.sl)
            have ns1393 := ns1393.mono (sg_of S1389.sl)
            refine ⟨(Sl.of_inc r1390.inc S1389.sl), ?_⟩
            refine FA.all1 (i := 3) (by kernel_rfl) ?_
            ·
              refine FO.call (l' := #[true, true, true, true, false]) rfl (by kernel_rfl) rfl rfl rfl (E.call Tryz.call22 (A2 rfl rfl)) (w_laws_eqCnf S1389.sl r95 v101 (h102.mono (sgI.tr (((((i117.tr r132.run.inc).tr r143.inc).tr i160).tr i171).tr r1390.inc))) r1385 v1391 (h1392.mono sgI) hr1786) ?_
              rintro e w1787 ⟨rfl, r1788⟩
              refine ⟨_, rfl, ?_⟩
              have S1789 := S1389.call r1788
              have z1790 := r1788.bel.size
              refine ⟨(Sl.of_inc r1390.inc S1789.sl), ?_⟩
              refine FA.take (i := 4) (l' := #[true, true, true, true, true]) rfl (by kernel_rfl) (by kernel_rfl) (by kernel_rfl) (by kernel_rfl) (Sl.of_inc r1390.inc S1789.sl) rfl rfl rfl (fun w' hw' => (E.not rfl)) ?_
              exact FA.done (by kernel_rfl) ⟨_, S1789, r1390.inc, k175, k176, k177, k178, k179, k180, k181, k182, rfl⟩
        ·
          rintro f2990 w2989 ⟨H2986, S2987, i2988, k2991, k2992, k2993, k2994, k2995, k2996, k2997, k2998, k2999⟩
          rcases ifB hp with ⟨c3000, hp⟩ | ⟨c3000, hp⟩
          ·
            refine FW.condT k2999 c3000 ?_
            refine FW.seq ?_
            refine FW.region ?_
            refine FL.val rfl rfl rfl (E.assign (v := Value.bool false) rfl) ?_
            refine FL.nil ?_
            refine FW.ret ?_
            obtain rfl := Option.some.inj hp
            exact ⟨.inr rfl, res1 rfl rfl ⟨rfl, S2987.back⟩⟩
          ·
            refine FW.condF k2999 c3000 ?_
            refine FW.skip ?_
            refine FW.seq ?_
            refine FW.seq ?_
            refine FW.region ?_
            refine FL.val rfl rfl rfl (E.move k2996) ?_
            refine FL.val rfl rfl rfl (E.move k2991) ?_
            obtain ⟨r3001, hr3002, hp⟩ := bnd hp
            refine FL.call rfl rfl rfl (E.call Tryz.call43 (A1 rfl)) (w_laws_toResStepS S2987.sl v1 a1 (p1.mono (((((((((((i27.tr r48.inc).tr r68.run.inc).tr r79.inc).tr i93).tr r100.inc).tr i117).tr r132.run.inc).tr r143.inc).tr i160).tr i171).tr i2988)) hr3002) ?_
            rintro e w3004 ⟨H3003, v3007, n3008, cs3009, rfl, r3006, els3010, nd3011⟩
            refine ⟨_, rfl, ?_⟩
            have nv3012 : New H2986 cs3009 := New.of_up S2987.sl els3010.dom
            obtain ⟨H3013, r3014, i3015, ns3018, nv3017⟩ := r3006.sealRowN (i := 0) (l' := []) rfl els3010 nd3011 (by decide) rfl
            have h3016 := ns3018.rsl
            have S3005 := S2987.call r3014.run
            have z3019 := r3014.run.bel.size
            have h3016 := h3016.mono (sg_of S3005.sl)
            have ns3018 := ns3018.mono (sg_of S3005.sl)
            obtain ⟨r3020, hr3021, hp⟩ := bnd hp
            refine FL.call rfl rfl rfl (E.call Tryz.call32 (A2 rfl rfl)) (w_laws_eqResStepS S3005.sl v125 r119 (h134.mono (sgI.tr ((((r143.inc.tr i160).tr i171).tr i2988).tr r3014.run.inc))) v3007 r3001 (h3016.mono sgI) hr3021) ?_
            rintro e w3022 ⟨rfl, r3023⟩
            refine ⟨_, rfl, ?_⟩
            have S3024 := S3005.call r3023
            have z3025 := r3023.bel.size
            refine FL.val rfl rfl rfl (E.not rfl) ?_
            refine FL.nil ?_
            rcases ifB hp with ⟨c3026, hp⟩ | ⟨c3026, hp⟩
            ·
              refine FW.condT rfl c3026 ?_
              refine FW.seq ?_
              refine FW.region ?_
              refine FL.val rfl rfl rfl (E.assign (v := Value.bool false) rfl) ?_
              refine FL.nil ?_
              refine FW.ret ?_
              obtain rfl := Option.some.inj hp
              exact ⟨.inr rfl, res1 rfl rfl ⟨rfl, S3024.back⟩⟩
            ·
              refine FW.condF rfl c3026 ?_
              refine FW.skip ?_
              refine FW.seq ?_
              refine FW.region ?_
              refine FL.val rfl rfl rfl (E.assign (v := Value.int .i64 1) rfl) ?_
              refine FL.nil ?_
              refine FW.seq ?_
              refine FW.region ?_
              refine FL.val rfl rfl rfl (E.load k2995 (run_loadA Tryz.isAgg30 Tryz.sizeOf30 ((at118.mono (sgI.tr (((((r132.run.inc.tr r143.inc).tr i160).tr i171).tr i2988).tr r3014.run.inc))).now S3024.sl) rfl)) ?_
              refine FL.val rfl rfl rfl (E.move (v := Value.int .i64 1) rfl) ?_
              refine FL.call rfl rfl rfl (E.call Tryz.call24 (A2 rfl rfl)) (w_laws_markCnf S3024 hs r95 v101 c104 (ns103.mono (sg_up (by omega) ((((((i117.tr r132.run.inc).tr r143.inc).tr i160).tr i171).tr i2988).tr r3014.run.inc))) 1) ?_
              rintro e w3028 ⟨H3027, c3033, rfl, S3029, ns3035, hb3034, o3031⟩
              refine ⟨_, rfl, ?_⟩
              have o3032 := (ns103.mono (sg_mono (hi := w98.heap.size) ((((((i117.tr r132.run.inc).tr r143.inc).tr i160).tr i171).tr i2988).tr r3014.run.inc))).outside o3031
              have ns3035 := ns103.span (eL_loc eI_flat) (by omega) ns3035 hb3034
              have h3030 := ns3035.rsl
              have f3036 := at28.mono ((sg_mono (lo := wa.heap.size) (hi := wa.heap.size + 1) (((((((((((r48.inc.tr r68.run.inc).tr r79.inc).tr i93).tr r100.inc).tr i117).tr r132.run.inc).tr r143.inc).tr i160).tr i171).tr i2988).tr r3014.run.inc)).tr (sg_keep o3032 (by omega)))
              have f3037 := at94.mono ((sg_mono (lo := w77.heap.size) (hi := w77.heap.size + 1) (((((((r100.inc.tr i117).tr r132.run.inc).tr r143.inc).tr i160).tr i171).tr i2988).tr r3014.run.inc)).tr (sg_keep o3032 (by omega)))
              have f3038 := h81.mono ((bw_mono (hi := w77.heap.size) ((((((((i93.tr r100.inc).tr i117).tr r132.run.inc).tr r143.inc).tr i160).tr i171).tr i2988).tr r3014.run.inc)).tr (bw_keep o3032 (by omega)))
              have f3039 := at118.mono ((sg_mono (lo := w98.heap.size) (hi := w98.heap.size + 1) (((((r132.run.inc.tr r143.inc).tr i160).tr i171).tr i2988).tr r3014.run.inc)).tr (sg_keep o3032 (by omega)))
              have f3040 := h134.mono ((sg_mono (lo := w111.heap.size) (hi := w122.heap.size) ((((r143.inc.tr i160).tr i171).tr i2988).tr r3014.run.inc)).tr (sg_keep o3032 (by omega)))
              have f3041 := ns136.mono ((sg_mono (lo := w111.heap.size) (hi := w122.heap.size) ((((r143.inc.tr i160).tr i171).tr i2988).tr r3014.run.inc)).tr (sg_keep o3032 (by omega)))
              have f3042 := at161.mono ((sg_mono (lo := w141.heap.size) (hi := w141.heap.size + 1) ((i171.tr i2988).tr r3014.run.inc)).tr (sg_keep o3032 (by omega)))
              have f3043 := h145.mono ((sg_mono (lo := w122.heap.size) (hi := w141.heap.size) (((i160.tr i171).tr i2988).tr r3014.run.inc)).tr (sg_keep o3032 (by omega)))
              have f3044 := ns146.mono ((sg_mono (lo := w122.heap.size) (hi := w141.heap.size) (((i160.tr i171).tr i2988).tr r3014.run.inc)).tr (sg_keep o3032 (by omega)))
              refine FL.val rfl rfl rfl (E.assign (v := Value.int .i64 ((PF.laws_markCnf r95 1).2)) rfl) ?_
              refine FL.nil ?_
              refine FW.seq ?_
              refine FW.region ?_
              refine FL.val rfl rfl rfl (E.move k2996) ?_
              refine FL.val rfl rfl rfl (E.move (v := Value.int .i64 ((PF.laws_markCnf r95 1).2)) rfl) ?_
              refine FL.call rfl rfl rfl (E.call Tryz.call33 (A2 rfl rfl)) (w_laws_markResStepS S3029 hs v125 r119 cs127 (f3041.mono (sg_up (by omega) (Inc.rfl _))) ((PF.laws_markCnf r95 1).2)) ?_
              rintro e w3046 ⟨H3045, c3051, rfl, S3047, ns3053, hb3052, o3049⟩
              refine ⟨_, rfl, ?_⟩
              have o3050 := (f3041.mono (sg_mono (hi := w122.heap.size) (Inc.rfl _))).outside o3049
              have ns3053 := f3041.span eResStep_loc (by omega) ns3053 hb3052
              have h3048 := ns3053.rsl
              have f3054 := f3036.mono ((sg_mono (lo := wa.heap.size) (hi := wa.heap.size + 1) (Inc.rfl _)).tr (sg_keep o3050 (by omega)))
              have f3055 := f3037.mono ((sg_mono (lo := w77.heap.size) (hi := w77.heap.size + 1) (Inc.rfl _)).tr (sg_keep o3050 (by omega)))
              have f3056 := f3038.mono ((bw_mono (hi := w77.heap.size) (Inc.rfl _)).tr (bw_keep o3050 (by omega)))
              have f3057 := f3039.mono ((sg_mono (lo := w98.heap.size) (hi := w98.heap.size + 1) (Inc.rfl _)).tr (sg_keep o3050 (by omega)))
              have f3058 := h3030.mono ((sg_mono (lo := w87.heap.size) (hi := w98.heap.size) (Inc.rfl _)).tr (sg_keep o3050 (by omega)))
              have f3059 := ns3035.mono ((sg_mono (lo := w87.heap.size) (hi := w98.heap.size) (Inc.rfl _)).tr (sg_keep o3050 (by omega)))
              have f3060 := f3042.mono ((sg_mono (lo := w141.heap.size) (hi := w141.heap.size + 1) (Inc.rfl _)).tr (sg_keep o3050 (by omega)))
              have f3061 := f3043.mono ((sg_mono (lo := w122.heap.size) (hi := w141.heap.size) (Inc.rfl _)).tr (sg_keep o3050 (by omega)))
              have f3062 := f3044.mono ((sg_mono (lo := w122.heap.size) (hi := w141.heap.size) (Inc.rfl _)).tr (sg_keep o3050 (by omega)))
              refine FL.val rfl rfl rfl (E.assign (v := Value.int .i64 ((PF.laws_markResStepS r119 ((PF.laws_markCnf r95 1).2)).2)) rfl) ?_
              refine FL.nil ?_
              refine FW.seq ?_
              refine FW.seq ?_
              refine FW.region ?_
              refine FL.val rfl rfl rfl (E.move (v := Value.int .i64 ((PF.laws_markResStepS r119 ((PF.laws_markCnf r95 1).2)).2)) rfl) ?_
              refine FL.val rfl rfl rfl (E.lss rfl rfl) ?_
              refine FL.val rfl rfl rfl (E.move (v := Value.bool (decide ((PF.laws_markResStepS r119 ((PF.laws_markCnf r95 1).2)).2 < 0))) rfl) ?_
              obtain ⟨t3069, hqt3069, hp⟩ := bnd hp
              refine FL.cut 5 (fun f w => ∃ H : GH, St Ha wa H w [] ∧ Inc H3045 H ∧ f 1 = v1 ∧ f 2 = Value.pointer (some ⟨wa.heap.size, 0, none⟩) ∧ f 6 = Value.pointer (some ⟨w77.heap.size, 0, none⟩) ∧ f 7 = Value.bool r74.2 ∧ f 10 = Value.pointer (some ⟨w141.heap.size, 0, none⟩) ∧ f 11 = Value.bool r138.2 ∧ f 77 = Value.bool t3069) ?_ ?_
              ·
                clear hp; have hp := hqt3069; clear hqt3069
                rcases ifB hp with ⟨c3075, hp⟩ | ⟨c3075, hp⟩
                ·
                  refine FL.skip (wF_no rfl rfl rfl c3075) rfl ?_
                  refine FL.skip (wF_no rfl rfl rfl c3075) rfl ?_
                  refine FL.skip (wF_no rfl rfl rfl c3075) rfl ?_
                  refine FL.skip (wF_no rfl rfl rfl c3075) rfl ?_
                  obtain rfl := Option.some.inj hp
                  refine FL.val rfl rfl rfl (E.pickT rfl c3075 rfl) ?_
                  exact FL.nil ⟨rfl, _, S3047, (Inc.rfl _), k2991, k2992, k2993, k2994, k2997, k2998, rfl⟩
                ·
                  refine FL.val (wF_yes rfl rfl rfl c3075) rfl rfl (E.load k2997 (run_loadA Tryz.isAgg68 Tryz.sizeOf68 ((f3060.mono sgI).now S3047.sl) rfl)) ?_
                  refine FL.val (wF_yes rfl rfl rfl c3075) rfl rfl (E.load k2993 (run_loadA Tryz.isAgg68 Tryz.sizeOf68 ((f3055.mono sgI).now S3047.sl) rfl)) ?_
                  obtain ⟨r3076, hr3077, hp⟩ := bnd hp
                  refine FL.call (wF_yes rfl rfl rfl c3075) rfl rfl (E.call Tryz.call51 (A2 rfl rfl)) (w_laws_eqDag S3047.sl r138.1 v144 (f3061.mono sgI) r74.1 v80 (f3056.mono bwI) hr3077) ?_
                  rintro e w3078 ⟨rfl, r3079⟩
                  refine ⟨_, rfl, ?_⟩
                  have S3080 := S3047.call r3079
                  have z3081 := r3079.bel.size
                  refine FL.val (wF_yes rfl rfl rfl c3075) rfl rfl (E.not rfl) ?_
                  obtain rfl := Option.some.inj hp
                  refine FL.val rfl rfl rfl (E.pickF rfl c3075 rfl) ?_
                  exact FL.nil ⟨rfl, _, S3080, (Inc.rfl _), k2991, k2992, k2993, k2994, k2997, k2998, rfl⟩
              rintro f3074 w3073 ⟨H3070, S3071, i3072, k3082, k3083, k3084, k3085, k3086, k3087, k3088⟩
              refine FL.val rfl rfl rfl (E.move k3088) ?_
              refine FL.cut 4 (fun f w => ∃ H : GH, St Ha wa H w [] ∧ Inc H3070 H ∧ f 1 = v1 ∧ f 2 = Value.pointer (some ⟨wa.heap.size, 0, none⟩) ∧ f 6 = Value.pointer (some ⟨w77.heap.size, 0, none⟩) ∧ f 7 = Value.bool r74.2 ∧ f 10 = Value.pointer (some ⟨w141.heap.size, 0, none⟩) ∧ f 82 = Value.bool (bif t3069 then true else (!(r138.2 == r74.2)))) ?_ ?_
              ·
                rcases bcase t3069 with c3095 | c3095
                ·
                  refine FL.skip (wF_no rfl rfl rfl c3095) rfl ?_
                  refine FL.skip (wF_no rfl rfl rfl c3095) rfl ?_
                  refine FL.skip (wF_no rfl rfl rfl c3095) rfl ?_
                  refine FL.val rfl rfl rfl (E.pickT rfl c3095 rfl) ?_
                  exact FL.nil ⟨rfl, _, S3071, (Inc.rfl _), k3082, k3083, k3084, k3085, k3086, (congrArg Value.bool (bifT c3095).symm)⟩
                ·
                  refine FL.val (wF_yes rfl rfl rfl c3095) rfl rfl (E.move k3087) ?_
                  refine FL.val (wF_yes rfl rfl rfl c3095) rfl rfl (E.move k3085) ?_
                  refine FL.val (wF_yes rfl rfl rfl c3095) rfl rfl (E.neqB Tryz.runUnderlying4 rfl rfl) ?_
                  refine FL.val rfl rfl rfl (E.pickF rfl c3095 rfl) ?_
                  exact FL.nil ⟨rfl, _, S3071, (Inc.rfl _), k3082, k3083, k3084, k3085, k3086, (congrArg Value.bool (bifF c3095).symm)⟩
              rintro f3094 w3093 ⟨H3090, S3091, i3092, k3096, k3097, k3098, k3099, k3100, k3101⟩
              refine FL.nil ?_
              rcases ifB hp with ⟨c3102, hp⟩ | ⟨c3102, hp⟩
              ·
                refine FW.condT k3101 c3102 ?_
                refine FW.seq ?_
                refine FW.region ?_
                refine FL.val rfl rfl rfl (E.assign (v := Value.bool false) rfl) ?_
                refine FL.nil ?_
                refine FW.ret ?_
                obtain rfl := Option.some.inj hp
                exact ⟨.inr rfl, res1 rfl rfl ⟨rfl, S3091.back⟩⟩
              ·
                refine FW.condF k3101 c3102 ?_
                refine FW.skip ?_
                refine FW.seq ?_
                refine FW.region ?_
                refine FL.val rfl rfl rfl (E.assign (v := Value.int .i64 1) rfl) ?_
                refine FL.nil ?_
                refine FW.seq ?_
                refine FW.region ?_
                refine FL.val rfl rfl rfl (E.load k3100 (run_loadA Tryz.isAgg68 Tryz.sizeOf68 ((f3060.mono (sgI.tr (i3072.tr i3092))).now S3091.sl) rfl)) ?_
                refine FL.val rfl rfl rfl (E.move (v := Value.int .i64 1) rfl) ?_
                refine FL.call rfl rfl rfl (E.call Tryz.call52 (A2 rfl rfl)) (w_laws_markDag S3091 hs r138.1 v144 c147 (f3062.mono (sg_up (by omega) (i3072.tr i3092))) 1) ?_
                rintro e w3104 ⟨H3103, c3109, rfl, S3105, ns3111, hb3110, o3107⟩
                refine ⟨_, rfl, ?_⟩
                have o3108 := (f3062.mono (sg_mono (hi := w141.heap.size) (i3072.tr i3092))).outside o3107
                have ns3111 := f3062.span (eL_loc eI_flat) (by omega) ns3111 hb3110
                have h3106 := ns3111.rsl
                have f3112 := f3054.mono ((sg_mono (lo := wa.heap.size) (hi := wa.heap.size + 1) (i3072.tr i3092)).tr (sg_keep o3108 (by omega)))
                have f3113 := f3055.mono ((sg_mono (lo := w77.heap.size) (hi := w77.heap.size + 1) (i3072.tr i3092)).tr (sg_keep o3108 (by omega)))
                have f3114 := f3056.mono ((bw_mono (hi := w77.heap.size) (i3072.tr i3092)).tr (bw_keep o3108 (by omega)))
                have f3115 := f3060.mono ((sg_mono (lo := w141.heap.size) (hi := w141.heap.size + 1) (i3072.tr i3092)).tr (sg_keep o3108 (by omega)))
                refine FL.val rfl rfl rfl (E.assign (v := Value.int .i64 ((PF.laws_markDag r138.1 1).2)) rfl) ?_
                refine FL.nil ?_
                refine FW.seq ?_
                refine FW.region ?_
                refine FL.val rfl rfl rfl (E.assign (v := Value.int .i64 1) rfl) ?_
                refine FL.nil ?_
                refine FW.seq ?_
                refine FW.region ?_
                refine FL.val rfl rfl rfl (E.load k3100 (run_loadA Tryz.isAgg68 Tryz.sizeOf68 ((f3115.mono sgI).now S3105.sl) rfl)) ?_
                refine FL.val rfl rfl rfl (E.move (v := Value.int .i64 1) rfl) ?_
                obtain ⟨r3116, hr3117, hp⟩ := bnd hp
                refine FL.call rfl rfl rfl (E.call Tryz.call53 (A2 rfl rfl)) (w_laws_heldDag S3105.sl ((PF.laws_markDag r138.1 1).1) v144 (h3106.mono sgI) 1 hr3117) ?_
                rintro e w3118 ⟨rfl, r3119⟩
                refine ⟨_, rfl, ?_⟩
                have S3120 := S3105.call r3119
                have z3121 := r3119.bel.size
                refine FL.val rfl rfl rfl (E.assign (v := Value.int .i64 r3116) rfl) ?_
                refine FL.nil ?_
                refine FW.seq ?_
                refine FW.seq ?_
                refine FW.region ?_
                refine FL.val rfl rfl rfl (E.move (v := Value.int .i64 r3116) rfl) ?_
                refine FL.val rfl rfl rfl (E.lss rfl rfl) ?_
                refine FL.nil ?_
                rcases ifB hp with ⟨c3122, hp⟩ | ⟨c3122, hp⟩
                ·
                  refine FW.condT rfl c3122 ?_
                  refine FW.seq ?_
                  refine FW.region ?_
                  refine FL.val rfl rfl rfl (E.assign (v := Value.bool false) rfl) ?_
                  refine FL.nil ?_
                  refine FW.ret ?_
                  obtain rfl := Option.some.inj hp
                  exact ⟨.inr rfl, res1 rfl rfl ⟨rfl, S3120.back⟩⟩
                ·
                  refine FW.condF rfl c3122 ?_
                  refine FW.skip ?_
                  refine FW.seq ?_
                  refine FW.seq ?_
                  refine FW.region ?_
                  refine FL.val rfl rfl rfl (E.move (v := Value.int .i64 r3116) rfl) ?_
                  refine FL.val rfl rfl rfl (E.move (v := Value.int .i64 ((PF.laws_markDag r138.1 1).2)) rfl) ?_
                  refine FL.val rfl rfl rfl (E.neq rfl rfl) ?_
                  refine FL.nil ?_
                  rcases ifB hp with ⟨c3123, hp⟩ | ⟨c3123, hp⟩
                  ·
                    refine FW.condT rfl c3123 ?_
                    refine FW.seq ?_
                    refine FW.region ?_
                    refine FL.val rfl rfl rfl (E.assign (v := Value.bool false) rfl) ?_
                    refine FL.nil ?_
                    refine FW.ret ?_
                    obtain rfl := Option.some.inj hp
                    exact ⟨.inr rfl, res1 rfl rfl ⟨rfl, S3120.back⟩⟩
                  ·
                    refine FW.condF rfl c3123 ?_
                    refine FW.skip ?_
                    refine FW.seq ?_
                    refine FW.region ?_
                    refine FL.val rfl rfl rfl (E.load k3097 (run_loadA Tryz.isAgg24 Tryz.sizeOf24 ((f3112.mono sgI).now S3120.sl) rfl)) ?_
                    obtain ⟨r3124, hr3125, hp⟩ := bnd hp
                    refine FL.call rfl rfl rfl (E.call Tryz.call18 (A1 rfl)) (w_laws_toCnf S3120.sl a0 v0_1 (p0_1.mono S3105.inc) hr3125) ?_
                    rintro e w3127 ⟨H3126, v3130, rfl, r3129, ⟨c3133, ns3132⟩⟩
                    refine ⟨_, rfl, ?_⟩
                    have h3131 := ns3132.rsl
                    have nv3134 : New H3103 [v3130] := New.of_up S3120.sl h3131.dom
                    have S3128 := S3120.call r3129
                    have z3135 := r3129.bel.size
                    have h3131 := h3131.mono (sg_of S3128.sl)
                    have ns3132 := ns3132.mono (sg_of S3128.sl)
                    refine FL.val rfl rfl rfl (E.move k3096) ?_
                    obtain ⟨r3136, hr3137, hp⟩ := bnd hp
                    refine FL.call rfl rfl rfl (E.call Tryz.call43 (A1 rfl)) (w_laws_toResStepS S3128.sl v1 a1 (p1.mono (S3105.inc.tr r3129.inc)) hr3137) ?_
                    rintro e w3139 ⟨H3138, v3142, n3143, cs3144, rfl, r3141, els3145, nd3146⟩
                    refine ⟨_, rfl, ?_⟩
                    have nv3147 : New H3126 cs3144 := New.of_up S3128.sl els3145.dom
                    obtain ⟨H3148, r3149, i3150, ns3153, nv3152⟩ := r3141.sealRowN (i := 0) (l' := []) rfl els3145 nd3146 (by decide) rfl
                    have h3151 := ns3153.rsl
                    have S3140 := S3128.call r3149.run
                    have z3154 := r3149.run.bel.size
                    have h3151 := h3151.mono (sg_of S3140.sl)
                    have ns3153 := ns3153.mono (sg_of S3140.sl)
                    obtain ⟨r3155, hr3156, hp⟩ := bnd hp
                    refine FL.call rfl rfl rfl (E.call Tryz.call50 (A2 rfl rfl)) (w_impl_DagOfProof S3140.sl r3124 v3130 (h3131.mono (sgI.tr r3149.run.inc)) v3142 r3136 (h3151.mono sgI) hr3156) ?_
                    rintro e w3158 ⟨H3157, v3161, rfl, r3160, ⟨c3164, ns3163⟩⟩
                    refine ⟨_, rfl, ?_⟩
                    have h3162 := ns3163.rsl
                    have nv3165 : New H3148 [v3161] := New.of_up S3140.sl h3162.dom
                    have S3159 := S3140.call r3160
                    have z3166 := r3160.bel.size
                    have h3162 := h3162.mono (sg_of S3159.sl)
                    have ns3163 := ns3163.mono (sg_of S3159.sl)
                    refine FL.val rfl rfl rfl (E.move (v := Value.tuple #[Value.agg #[v3161], Value.bool r3155.2]) rfl) ?_
                    refine FL.val rfl rfl rfl (E.extract (i := 0) rfl rfl) ?_
                    refine FL.val rfl rfl rfl (E.extract (i := 1) rfl rfl) ?_
                    obtain ⟨w3167, run3168, S3169, z3170⟩ := S3159.allocB (P := Tryz.prog) 68 [Value.slice none 0 0] Tryz.zeroValue68 rfl (ones_cons rfl ones_nil)
                    refine FL.val rfl rfl rfl (E.alloc run3168) ?_
                    obtain ⟨w3171, run3172, S3173, z3174⟩ := S3169.store0B (P := Tryz.prog) (t := 68) (i := 0) (cs' := [v3161]) (l' := [.box w3158.heap.size 68 [v3161]]) (v := Value.agg #[v3161]) (c := [v3161]) rfl Tryz.sizeOf68 rfl rfl (ones_cons h3162.one ones_nil) (Nat.le_of_ble_eq_true rfl) rfl rfl
                    refine FL.act rfl rfl (E.store rfl rfl run3172) ?_
                    obtain ⟨H3175, S3176, i3177, at3178⟩ := S3173.sealBoxB (i := 0) (l' := []) rfl rfl
                    refine FL.val rfl rfl rfl (E.assign (v := Value.bool r3155.2) rfl) ?_
                    refine FL.nil ?_
                    refine FW.seq ?_
                    refine FW.seq ?_
                    refine FW.region ?_
                    refine FL.val rfl rfl rfl (E.load rfl (run_loadA Tryz.isAgg68 Tryz.sizeOf68 ((at3178.mono sgI).now S3176.sl) rfl)) ?_
                    refine FL.val rfl rfl rfl (E.load k3098 (run_loadA Tryz.isAgg68 Tryz.sizeOf68 ((f3113.mono (sgI.tr (((r3129.inc.tr r3149.run.inc).tr r3160.inc).tr i3177))).now S3176.sl) rfl)) ?_
                    obtain ⟨r3179, hr3180, hp⟩ := bnd hp
                    refine FL.call rfl rfl rfl (E.call Tryz.call51 (A2 rfl rfl)) (w_laws_eqDag S3176.sl r3155.1 v3161 (h3162.mono (sgI.tr i3177)) r74.1 v80 (f3114.mono (bwI.tr (((r3129.inc.tr r3149.run.inc).tr r3160.inc).tr i3177))) hr3180) ?_
                    rintro e w3181 ⟨rfl, r3182⟩
                    refine ⟨_, rfl, ?_⟩
                    have S3183 := S3176.call r3182
                    have z3184 := r3182.bel.size
                    refine FL.val rfl rfl rfl (E.not rfl) ?_
                    refine FL.val rfl rfl rfl (E.move (v := Value.bool (!r3179)) rfl) ?_
                    refine FL.cut 4 (fun f w => ∃ H : GH, St Ha wa H w [] ∧ Inc H3175 H ∧ f 10 = Value.pointer (some ⟨w141.heap.size, 0, none⟩) ∧ f 13 = Value.int .i64 ((PF.laws_markDag r138.1 1).2) ∧ f 110 = Value.bool (bif (!r3179) then true else (!(r3155.2 == r74.2)))) ?_ ?_
                    ·
                      rcases bcase (!r3179) with c3191 | c3191
                      ·
                        refine FL.skip (wF_no rfl rfl rfl c3191) rfl ?_
                        refine FL.skip (wF_no rfl rfl rfl c3191) rfl ?_
                        refine FL.skip (wF_no rfl rfl rfl c3191) rfl ?_
                        refine FL.val rfl rfl rfl (E.pickT rfl c3191 rfl) ?_
                        exact FL.nil ⟨rfl, _, S3183, (Inc.rfl _), k3100, rfl, (congrArg Value.bool (bifT c3191).symm)⟩
                      ·
                        refine FL.val (wF_yes rfl rfl rfl c3191) rfl rfl (E.move (v := Value.bool r3155.2) rfl) ?_
                        refine FL.val (wF_yes rfl rfl rfl c3191) rfl rfl (E.move k3099) ?_
                        refine FL.val (wF_yes rfl rfl rfl c3191) rfl rfl (E.neqB Tryz.runUnderlying4 rfl rfl) ?_
                        refine FL.val rfl rfl rfl (E.pickF rfl c3191 rfl) ?_
                        exact FL.nil ⟨rfl, _, S3183, (Inc.rfl _), k3100, rfl, (congrArg Value.bool (bifF c3191).symm)⟩
                    rintro f3190 w3189 ⟨H3186, S3187, i3188, k3192, k3193, k3194⟩
                    refine FL.nil ?_
                    rcases ifB hp with ⟨c3195, hp⟩ | ⟨c3195, hp⟩
                    ·
                      refine FW.condT k3194 c3195 ?_
                      refine FW.seq ?_
                      refine FW.region ?_
                      refine FL.val rfl rfl rfl (E.assign (v := Value.bool false) rfl) ?_
                      refine FL.nil ?_
                      refine FW.ret ?_
                      obtain rfl := Option.some.inj hp
                      exact ⟨.inr rfl, res1 rfl rfl ⟨rfl, S3187.back⟩⟩
                    ·
                      refine FW.condF k3194 c3195 ?_
                      refine FW.skip ?_
                      refine FW.seq ?_
                      refine FW.region ?_
                      refine FL.val rfl rfl rfl (E.assign (v := Value.int .i64 1) rfl) ?_
                      refine FL.nil ?_
                      refine FW.seq ?_
                      refine FW.region ?_
                      refine FL.val rfl rfl rfl (E.load k3192 (run_loadA Tryz.isAgg68 Tryz.sizeOf68 ((f3115.mono (sgI.tr ((((r3129.inc.tr r3149.run.inc).tr r3160.inc).tr i3177).tr i3188))).now S3187.sl) rfl)) ?_
                      refine FL.val rfl rfl rfl (E.move (v := Value.int .i64 1) rfl) ?_
                      obtain ⟨r3196, hr3197, hp⟩ := bnd hp
                      refine FL.call rfl rfl rfl (E.call Tryz.call53 (A2 rfl rfl)) (w_laws_heldDag S3187.sl ((PF.laws_markDag r138.1 1).1) v144 (h3106.mono (sgI.tr ((((r3129.inc.tr r3149.run.inc).tr r3160.inc).tr i3177).tr i3188))) 1 hr3197) ?_
                      rintro e w3198 ⟨rfl, r3199⟩
                      refine ⟨_, rfl, ?_⟩
                      have S3200 := S3187.call r3199
                      have z3201 := r3199.bel.size
                      refine FL.val rfl rfl rfl (E.assign (v := Value.int .i64 r3196) rfl) ?_
                      refine FL.nil ?_
                      refine FW.seq ?_
                      refine FW.seq ?_
                      refine FW.region ?_
                      refine FL.val rfl rfl rfl (E.move (v := Value.int .i64 r3196) rfl) ?_
                      refine FL.val rfl rfl rfl (E.lss rfl rfl) ?_
                      refine FL.nil ?_
                      rcases ifB hp with ⟨c3202, hp⟩ | ⟨c3202, hp⟩
                      ·
                        refine FW.condT rfl c3202 ?_
                        refine FW.seq ?_
                        refine FW.region ?_
                        refine FL.val rfl rfl rfl (E.assign (v := Value.bool false) rfl) ?_
                        refine FL.nil ?_
                        refine FW.ret ?_
                        obtain rfl := Option.some.inj hp
                        exact ⟨.inr rfl, res1 rfl rfl ⟨rfl, S3200.back⟩⟩
                      ·
                        refine FW.condF rfl c3202 ?_
                        refine FW.skip ?_
                        refine FW.seq ?_
                        refine FW.seq ?_
                        refine FW.region ?_
                        refine FL.val rfl rfl rfl (E.move (v := Value.int .i64 r3196) rfl) ?_
                        refine FL.val rfl rfl rfl (E.move k3193) ?_
                        refine FL.val rfl rfl rfl (E.neq rfl rfl) ?_
                        refine FL.nil ?_
                        rcases ifB hp with ⟨c3203, hp⟩ | ⟨c3203, hp⟩
                        ·
                          refine FW.condT rfl c3203 ?_
                          refine FW.seq ?_
                          refine FW.region ?_
                          refine FL.val rfl rfl rfl (E.assign (v := Value.bool false) rfl) ?_
                          refine FL.nil ?_
                          refine FW.ret ?_
                          obtain rfl := Option.some.inj hp
                          exact ⟨.inr rfl, res1 rfl rfl ⟨rfl, S3200.back⟩⟩
                        ·
                          refine FW.condF rfl c3203 ?_
                          refine FW.skip ?_
                          refine FW.seq ?_
                          refine FW.region ?_
                          refine FL.val rfl rfl rfl (E.assign (v := Value.bool true) rfl) ?_
                          refine FL.nil ?_
                          refine FW.ret ?_
                          obtain rfl := Option.some.inj hp
                          exact ⟨.inr rfl, res1 rfl rfl ⟨rfl, S3200.back⟩⟩

end Go.Proofs
