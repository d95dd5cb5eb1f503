/- Part of the walks and plain laws behind the claim: it proves helpers, under no condition beyond their own. -/
import Derived.Test.YtdkkikkmnfjgiaaGreatPrWk2
set_option linter.unusedVariables false
set_option maxRecDepth 100000
namespace Go.Proofs
open Go.Mr Go.Pu Go.PF Go.RowKit

@[reducible] def p_spec_Propagate (Ha : GH) (wa : World) (r : ((List Int) × Bool × Bool)) : Ending → World → Prop :=
 fun e w' => ∃ H' : GH, ∃ v0 : Value, ∃ n0 : Nat, ∃ c0 : List Value, e = .returned (Value.tuple #[v0, Value.bool r.2.1, Value.bool r.2.2]) ∧ St Ha wa H' w' [.row 3 1 v0 n0 c0] ∧ Els (up wa.heap.size H') eI 1 c0 r.1
theorem w_spec_Propagate {Ha : GH} {wa : World} (hs : Sl Ha wa) (a0 : Cnf) (v0_1 : Value) (p0_1 : RSl Ha (eL eI 1) 1 v0_1 a0.clauses) (v1 : Value) (a1 : List Int) (p1 : RSl Ha eI 1 v1 a1) {r : ((List Int) × Bool × Bool)} (hp : (PF.spec_Propagate a0 a1) = some r) :
  Calls Tryz.prog 17 #[Value.agg #[Value.int .i64 a0.vars, v0_1], v1] wa (p_spec_Propagate Ha wa r) := by
 unfold PF.spec_Propagate at hp
 have S0 := St.init hs
 refine calls_go (N := 24) (args := [Value.agg #[Value.int .i64 a0.vars, v0_1], v1]) Tryz.func17 rfl rfl rfl ?_
 refine FW.seq (FW.region ?_)
 obtain ⟨b21, w22, run23, S24⟩ := S0.box (P := Tryz.prog) 26 [Value.int .i64 a0.vars, v0_1] (v := Value.agg #[Value.int .i64 a0.vars, v0_1]) rfl (ones_cons rfl (ones_cons p0_1.one ones_nil))
 refine FL.v (E.box rfl run23) ?_
 obtain ⟨H25, S26, i27, at28⟩ := S24.sealBox (i := 0) (l' := []) rfl rfl
 refine FL.v (E.assign (v := Value.slice none 0 0) rfl) ?_
 refine FL.v (E.assign (v := Value.bool false) rfl) ?_
 refine FL.v (E.assign (v := Value.bool false) rfl) ?_
 refine FL.nil (FW.seq (FW.seq (FW.region ?_)))
 refine FL.v (E.load rfl (run_loadA Tryz.isAgg26 Tryz.sizeOf26 (at28.now S26.sl) rfl)) ?_
 refine FL.v (E.move (v := v1) rfl) ?_
 obtain ⟨r29, hr30, hp⟩ := bnd hp
 refine FL.call rfl rfl rfl (E.call Tryz.call92 (A2 rfl rfl)) (w_spec_l3Asked S26.sl a0 v0_1 (p0_1.mono i27) v1 a1 (p1.mono i27) hr30) ?_
 rintro e w31 ⟨rfl, r32⟩
 refine ⟨_, rfl, ?_⟩
 have S33 := S26.call r32
 refine FL.v (E.not rfl) ?_
 refine FL.nil ?_
 rcases ifB hp with ⟨c34, hp⟩ | ⟨c34, hp⟩
 ·
  refine FW.condT rfl c34 ?_
  refine FW.seq (FW.region ?_)
  obtain ⟨v35, w36, run37, S38⟩ := S33.buildSlice (P := Tryz.prog) te34 [] (parts := #[]) (cells := []) rfl szs_nil fc_nil ones_nil (Nat.le_of_ble_eq_true rfl)
  have els39 : Els (up wa.heap.size H25) eI 1 [] [] := Els.nil
  refine FL.v (E.buildSlice (B0) run37) ?_
  refine FL.v (E.assign (v := v35) rfl) ?_
  refine FL.v (E.assign (v := Value.bool false) rfl) ?_
  refine FL.v (E.assign (v := Value.bool false) rfl) ?_
  refine FL.nil ?_
  refine FW.ret ?_
  obtain rfl := Option.some.inj hp
  exact ⟨.inr rfl, res3 rfl rfl rfl rfl ⟨_, _, _, _, rfl, S38, els39⟩⟩
 ·
  refine FW.condF rfl c34 ?_
  refine FW.skip (FW.seq (FW.region ?_))
  refine FL.v (E.load rfl (run_loadA Tryz.isAgg26 Tryz.sizeOf26 (at28.now S33.sl) rfl)) ?_
  refine FL.v (E.move (v := v1) rfl) ?_
  obtain ⟨r40, hr41, hp⟩ := bnd hp
  refine FL.call rfl rfl rfl (E.call Tryz.call93 (A2 rfl rfl)) (w_spec_l3Steps S33.sl a0 v0_1 (p0_1.mono i27) v1 a1 (p1.mono i27) hr41) ?_
  rintro e w43 ⟨H42, v46, n47, cs48, v50, n51, cs52, rfl, r45, els49, els53⟩
  refine ⟨_, rfl, ?_⟩
  have els49 := els49.mono (up_le S33.size)
  have els53 := els53.mono (up_le S33.size)
  have S44 := S33.join (l' := [.row 47 2 v46 n47 cs48, .row 3 1 v50 n51 cs52]) r45 rfl
  refine FL.v (E.move (v := Value.tuple #[v46, v50, Value.bool r40.2.2]) rfl) ?_
  refine FL.v (E.extract (i := 0) rfl rfl) ?_
  refine FL.v (E.extract (i := 1) rfl rfl) ?_
  refine FL.v (E.extract (i := 2) rfl rfl) ?_
  refine FL.v (E.assign (v := v46) rfl) ?_
  refine FL.v (E.assign (v := v50) rfl) ?_
  refine FL.v (E.assign (v := Value.bool r40.2.2) rfl) ?_
  refine FL.nil (FW.seq (FW.region ?_))
  refine FL.v (E.move (v := v50) rfl) ?_
  refine FL.v (E.move (v := Value.bool r40.2.2) rfl) ?_
  refine FL.v (E.assign (v := v50) rfl) ?_
  refine FL.v (E.assign (v := Value.bool r40.2.2) rfl) ?_
  refine FL.v (E.assign (v := Value.bool true) rfl) ?_
  refine FL.nil ?_
  refine FW.ret ?_
  obtain rfl := Option.some.inj hp
  exact ⟨.inr rfl, res3 rfl rfl rfl rfl ⟨_, _, _, _, rfl, (S44.sel [1] (by decide) rfl), els53⟩⟩

theorem w_laws_vInts {Ha : GH} {wa : World} (hs : Sl Ha wa) (v0 : Value) (a0 : List Int) (p0 : RSl Ha eI 1 v0 a0) (v1 : Value) (a1 : List Int) (p1 : RSl Ha eI 1 v1 a1) {r : Bool} (hp : (PF.laws_vInts a0 a1) = some r) :
  Calls Tryz.prog 18 #[v0, v1] wa (Sc Ha wa (Value.bool r)) := by
 unfold PF.laws_vInts at hp
 have S0 := St.init hs
 refine calls_go (N := 26) (args := [v0, v1]) Tryz.func18 rfl rfl rfl ?_
 refine FW.seq (FW.region ?_)
 refine FL.v (E.assign (v := Value.bool false) rfl) ?_
 refine FL.nil (FW.seq (FW.seq (FW.region ?_)))
 refine FL.v (E.move (v := v0) rfl) ?_
 refine FL.v (E.lenP te34 rfl p0) ?_
 refine FL.v (E.move (v := v1) rfl) ?_
 refine FL.v (E.lenP te34 rfl p1) ?_
 refine FL.v (E.neq rfl rfl) ?_
 refine FL.nil ?_
 rcases ifB hp with ⟨c21, hp⟩ | ⟨c21, hp⟩
 ·
  refine FW.condT rfl c21 ?_
  refine FW.seq (FW.region ?_)
  refine FL.v (E.assign (v := Value.bool false) rfl) ?_
  refine FL.nil ?_
  refine FW.ret ?_
  obtain rfl := Option.some.inj hp
  exact ⟨.inr rfl, res1 rfl rfl ⟨rfl, S0.back⟩⟩
 ·
  refine FW.condF rfl c21 ?_
  refine FW.skip (FW.seq (FW.seq (FW.region ?_)))
  refine FL.v (E.assign (v := Value.int .i64 0) rfl) ?_
  refine FL.nil ?_
  obtain ⟨q23, hq, hp⟩ := bndR hp
  refine FW.block ?_
  refine FW.mono (FW.forL (S := Unit) (X := Bool) (fun (i23 : Nat) (s23 : Unit) f w => ∃ H : GH, St Ha wa H w [] ∧ Inc Ha H ∧ f 5 = Value.int .i64 ((i23 : Nat) : Int) ∧ f 0 = v0 ∧ f 1 = v1) (fun q e f w => match q with | .go s23 => e = Exit.exit 0 ∧ (∃ H : GH, St Ha wa H w [] ∧ Inc Ha H) | .rt x => ((e = Exit.ret) ∧ (fun e f w => (e = Exit.normal ∨ e = Exit.ret) ∧ ∀ a, Fr (δ := []) 26 a f → ∃ v, (results Tryz.f18 a.tmps).run Tryz.prog w = .ok v w ∧ (Sc Ha wa (Value.bool x)) (.returned v) w) e f w)) hq ⟨_, S0, (Inc.rfl _), rfl, rfl, rfl⟩ ?_ ?_) ?_
  ·
   clear hp hq
   rintro i23 y22 s23 f55 w54 ⟨H51, S52, i53, k56, k57, k58⟩ hx23 o78 hp
   refine FW.seq (FW.seq (FW.region ?_))
   refine FL.v (E.move k56) ?_
   refine FL.v (E.move k57) ?_
   refine FL.v (E.lenP te34 rfl p0) ?_
   refine FL.v (E.lssT rfl rfl (lss_len hx23)) ?_
   refine FL.nil ?_
   refine FW.condT rfl rfl ?_
   refine FW.skip (FW.seq (FW.block (FW.seq ?_)))
   refine FW.draw (fun w' => Run w54.heap.size H51 w54 H51 w') (by kernel_rfl) (by kernel_rfl) (run_drew S52.sl) ?_
   refine FD.val rfl rfl rfl (fun w' hw' => (E.move k57)) ?_
   refine FD.val rfl rfl rfl (fun w' hw' => (E.move k56)) ?_
   obtain ⟨p60, cs61, pt62, l63, at64, rel65⟩ := p0.at (ix_nat hx23)
   obtain rfl := eI_open rel65
   refine FD.val rfl rfl rfl (fun w' hw' => (E.indexAddr te34 rfl rfl pt62)) ?_
   refine FD.val rfl rfl rfl (fun w' hw' => (E.load rfl (run_load0 Tryz.isAgg3 ((at64.mono i53).now (S52.call hw').sl) rfl))) ?_
   refine FD.val rfl rfl rfl (fun w' hw' => (E.move k58)) ?_
   refine FD.val rfl rfl rfl (fun w' hw' => (E.move k56)) ?_
   obtain ⟨x72, hx73, hp⟩ := bnd hp
   obtain ⟨p66, cs67, pt68, l69, at70, rel71⟩ := p1.at hx73
   obtain rfl := eI_open rel71
   refine FD.val rfl rfl rfl (fun w' hw' => (E.indexAddr te34 rfl rfl pt68)) ?_
   refine FD.val rfl rfl rfl (fun w' hw' => (E.load rfl (run_load0 Tryz.isAgg3 ((at70.mono i53).now (S52.call hw').sl) rfl))) ?_
   refine FD.val rfl rfl rfl (fun w' hw' => (E.neq rfl rfl)) ?_
   refine FD.nil ?_
   intro w74 r76
   have S75 := S52.call r76
   rcases ifB hp with ⟨c77, hp⟩ | ⟨c77, hp⟩
   ·
    refine FW.condT rfl c77 ?_
    refine FW.seq (FW.region ?_)
    refine FL.v (E.assign (v := Value.bool false) rfl) ?_
    refine FL.nil ?_
    refine FW.ret ?_
    obtain rfl := Option.some.inj hp
    exact ⟨nofun, rfl, ⟨.inr rfl, res1 rfl rfl ⟨rfl, S75.back⟩⟩⟩
   ·
    refine FW.condF rfl c77 ?_
    refine FW.skip (FW.region ?_)
    refine FL.v (E.move k56) ?_
    refine FL.v (E.add rfl rfl) ?_
    refine FL.v (E.assign (v := Value.int .i64 (wr (((i23 : Nat) : Int) + 1))) rfl) ?_
    refine FL.nil ?_
    obtain rfl := Option.some.inj hp
    exact ⟨rfl, ⟨_, S75, i53, (nat_succ rfl (lt_of_get hx23) (p0.mono i53).le), k57, k58⟩⟩
  ·
   clear hp hq
   rintro s23 f88 w87 ⟨H84, S85, i86, k89, k90, k91⟩
   refine FW.seq (FW.seq (FW.region ?_))
   refine FL.v (E.move k89) ?_
   refine FL.v (E.move k90) ?_
   refine FL.v (E.lenP te34 rfl p0) ?_
   refine FL.v (E.lss rfl rfl) ?_
   refine FL.nil ?_
   refine FW.condF rfl dlt_len ?_
   refine FW.exit ?_
   exact ⟨nofun, rfl, ⟨_, S85, i86⟩⟩
  ·
   clear hq
   intro e f83 w82 hD
   rcases q23 with s23 | x23
   ·
    obtain ⟨rfl, hD⟩ := hD
    obtain ⟨H79, S80, i81⟩ := hD
    replace hp := el_go hp
    refine FW.seq (FW.region ?_)
    refine FL.v (E.assign (v := Value.bool true) rfl) ?_
    refine FL.nil ?_
    refine FW.ret ?_
    obtain rfl := Option.some.inj hp
    exact ⟨.inr rfl, res1 rfl rfl ⟨rfl, S80.back⟩⟩
   ·
    obtain ⟨he, hL⟩ := hD
    replace hp := el_rt hp
    obtain rfl := Option.some.inj hp
    subst he
    exact hL

theorem w_slices_IndexFunc_LLint_Lint {Ha : GH} {wa : World} (hs : Sl Ha wa) (v0 : Value) (a0 : List (List Int)) (p0 : RSl Ha (eL eI 1) 1 v0 a0) (v1 : Value) (a1 : (List Int) → Option Bool) (p1 : Fn_List_Int_to_B Tryz.prog Ha v1 a1) {r : Int} (hp : (PF.slices_IndexFunc_LLint_Lint a0 a1) = some r) :
  Calls Tryz.prog 191 #[v0, v1] wa (Sc Ha wa (Value.int .i64 r)) := by
 unfold PF.slices_IndexFunc_LLint_Lint at hp
 have S0 := St.init hs
 refine calls_go (N := 19) (args := [v0, v1]) Tryz.func191 rfl rfl rfl ?_
 refine FW.seq (FW.region ?_)
 refine FL.v (E.assign (v := Value.int .i64 0) rfl) ?_
 refine FL.nil (FW.seq (FW.seq (FW.region ?_)))
 refine FL.v (E.move (v := v0) rfl) ?_
 refine FL.v (E.lenP te24 rfl p0) ?_
 refine FL.v (E.move (v := Value.int .i64 0) rfl) ?_
 refine FL.nil ?_
 obtain ⟨q22, hq, hp⟩ := bndR hp
 refine FW.block ?_
 refine FW.mono (FW.forL (S := Unit) (X := Int) (fun (i22 : Nat) (s22 : Unit) f w => ∃ H : GH, St Ha wa H w [] ∧ Inc Ha H ∧ f 8 = Value.int .i64 ((i22 : Nat) : Int) ∧ f 0 = v0 ∧ f 1 = v1 ∧ f 7 = Value.int .i64 (len a0)) (fun q e f w => match q with | .go s22 => e = Exit.exit 0 ∧ (∃ H : GH, St Ha wa H w [] ∧ Inc Ha H) | .rt x => ((e = Exit.ret) ∧ (fun e f w => (e = Exit.normal ∨ e = Exit.ret) ∧ ∀ a, Fr (δ := []) 19 a f → ∃ v, (results Tryz.f191 a.tmps).run Tryz.prog w = .ok v w ∧ (Sc Ha wa (Value.int .i64 x)) (.returned v) w) e f w)) hq ⟨_, S0, (Inc.rfl _), rfl, rfl, rfl, rfl⟩ ?_ ?_) ?_
 ·
  clear hp hq
  rintro i22 y21 s22 f55 w54 ⟨H51, S52, i53, k56, k57, k58, k59⟩ hx22 o79 hp
  refine FW.seq (FW.region ?_)
  refine FL.v (E.lssT k56 k59 (lss_len hx22)) ?_
  refine FL.nil (FW.seq ?_)
  refine FW.condT rfl rfl ?_
  refine FW.skip (FW.seq (FW.block (FW.seq (FW.region ?_))))
  refine FL.v (E.move k56) ?_
  refine FL.v (E.assign (v := Value.int .i64 ((i22 : Nat) : Int)) rfl) ?_
  refine FL.nil (FW.seq (FW.region ?_))
  refine FL.v (E.move k58) ?_
  refine FL.v (E.move k57) ?_
  refine FL.v (E.move (v := Value.int .i64 ((i22 : Nat) : Int)) rfl) ?_
  obtain ⟨p60, cs61, pt62, l63, at64, rel65⟩ := p0.at (ix_nat hx22)
  obtain ⟨v66, rfl, h67⟩ := eL_open rel65
  refine FL.v (E.indexAddr te24 rfl rfl pt62) ?_
  refine FL.v (E.load rfl (run_load0 Tryz.isAgg34 ((at64.mono i53).now S52.sl) rfl)) ?_
  obtain ⟨r68, hr69, hp⟩ := bnd hp
  obtain ⟨fi73, cs74, hv75, he76, hc77⟩ := (p1.mono i53) H51 w54 (Inc.rfl _) S52.sl y21 v66 (h67.mono i53) r68 hr69
  refine FL.call rfl rfl rfl (E.callV he76 (Eq.trans rfl hv75) (appA (A1 rfl) cs74)) hc77 ?_
  rintro e w70 ⟨rfl, r71⟩
  refine ⟨_, rfl, ?_⟩
  have S72 := S52.call r71
  refine FL.nil ?_
  rcases ifB hp with ⟨c78, hp⟩ | ⟨c78, hp⟩
  ·
   refine FW.condT rfl c78 ?_
   refine FW.seq (FW.region ?_)
   refine FL.v (E.move (v := Value.int .i64 ((i22 : Nat) : Int)) rfl) ?_
   refine FL.v (E.assign (v := Value.int .i64 ((i22 : Nat) : Int)) rfl) ?_
   refine FL.nil ?_
   refine FW.ret ?_
   obtain rfl := Option.some.inj hp
   exact ⟨nofun, rfl, ⟨.inr rfl, res1 rfl rfl ⟨rfl, S72.back⟩⟩⟩
  ·
   refine FW.condF rfl c78 ?_
   refine FW.skip (FW.region ?_)
   refine FL.v (E.add k56 rfl) ?_
   refine FL.v (E.move (v := Value.int .i64 (wr (((i22 : Nat) : Int) + 1))) rfl) ?_
   refine FL.nil ?_
   obtain rfl := Option.some.inj hp
   exact ⟨rfl, ⟨_, S72, i53, (nat_succ rfl (lt_of_get hx22) (p0.mono i53).le), k57, k58, k59⟩⟩
 ·
  clear hp hq
  rintro s22 f89 w88 ⟨H85, S86, i87, k90, k91, k92, k93⟩
  refine FW.seq (FW.region ?_)
  refine FL.v (E.lss k90 k93) ?_
  refine FL.nil (FW.seq ?_)
  refine FW.condF rfl dlt_len ?_
  refine FW.exit ?_
  exact ⟨nofun, rfl, ⟨_, S86, i87⟩⟩
 ·
  clear hq
  intro e f84 w83 hD
  rcases q22 with s22 | x22
  ·
   obtain ⟨rfl, hD⟩ := hD
   obtain ⟨H80, S81, i82⟩ := hD
   replace hp := el_go hp
   refine FW.seq (FW.region ?_)
   refine FL.v (E.assign (v := Value.int .i64 (-1)) rfl) ?_
   refine FL.nil ?_
   refine FW.ret ?_
   obtain rfl := Option.some.inj hp
   exact ⟨.inr rfl, res1 rfl rfl ⟨rfl, S81.back⟩⟩
  ·
   obtain ⟨he, hL⟩ := hD
   replace hp := el_rt hp
   obtain rfl := Option.some.inj hp
   subst he
   exact hL

theorem w_slices_ContainsFunc_LLint_Lint {Ha : GH} {wa : World} (hs : Sl Ha wa) (v0 : Value) (a0 : List (List Int)) (p0 : RSl Ha (eL eI 1) 1 v0 a0) (v1 : Value) (a1 : (List Int) → Option Bool) (p1 : Fn_List_Int_to_B Tryz.prog Ha v1 a1) {r : Bool} (hp : (PF.slices_ContainsFunc_LLint_Lint a0 a1) = some r) :
  Calls Tryz.prog 100 #[v0, v1] wa (Sc Ha wa (Value.bool r)) := by
 unfold PF.slices_ContainsFunc_LLint_Lint at hp
 have S0 := St.init hs
 refine calls_go (N := 9) (args := [v0, v1]) Tryz.func100 rfl rfl rfl ?_
 refine FW.seq (FW.region ?_)
 refine FL.v (E.assign (v := Value.bool false) rfl) ?_
 refine FL.nil (FW.seq (FW.region ?_))
 refine FL.v (E.move (v := v0) rfl) ?_
 refine FL.v (E.move (v := v1) rfl) ?_
 obtain ⟨r21, hr22, hp⟩ := bnd hp
 refine FL.call rfl rfl rfl (E.call Tryz.call191 (A2 rfl rfl)) (w_slices_IndexFunc_LLint_Lint S0.sl v0 a0 p0 v1 a1 p1 hr22) ?_
 rintro e w23 ⟨rfl, r24⟩
 refine ⟨_, rfl, ?_⟩
 have S25 := S0.call r24
 refine FL.v (E.geq rfl rfl) ?_
 refine FL.v (E.assign (v := Value.bool (decide (0 ≤ r21))) rfl) ?_
 refine FL.nil ?_
 refine FW.ret ?_
 obtain rfl := Option.some.inj hp
 exact ⟨.inr rfl, res1 rfl rfl ⟨rfl, S25.back⟩⟩

theorem w_slices_ContainsFunc_int_int {Ha : GH} {wa : World} (hs : Sl Ha wa) (v0 : Value) (a0 : List Int) (p0 : RSl Ha eI 1 v0 a0) (v1 : Value) (a1 : Int → Option Bool) (p1 : Fn_I_to_B Tryz.prog Ha v1 a1) {r : Bool} (hp : (PF.slices_ContainsFunc_int_int a0 a1) = some r) :
  Calls Tryz.prog 200 #[v0, v1] wa (Sc Ha wa (Value.bool r)) := by
 unfold PF.slices_ContainsFunc_int_int at hp
 have S0 := St.init hs
 refine calls_go (N := 9) (args := [v0, v1]) Tryz.func200 rfl rfl rfl ?_
 refine FW.seq (FW.region ?_)
 refine FL.v (E.assign (v := Value.bool false) rfl) ?_
 refine FL.nil (FW.seq (FW.region ?_))
 refine FL.v (E.move (v := v0) rfl) ?_
 refine FL.v (E.move (v := v1) rfl) ?_
 obtain ⟨r21, hr22, hp⟩ := bnd hp
 refine FL.call rfl rfl rfl (E.call Tryz.call277 (A2 rfl rfl)) (w_slices_IndexFunc_int_int S0.sl v0 a0 p0 v1 a1 p1 hr22) ?_
 rintro e w23 ⟨rfl, r24⟩
 refine ⟨_, rfl, ?_⟩
 have S25 := S0.call r24
 refine FL.v (E.geq rfl rfl) ?_
 refine FL.v (E.assign (v := Value.bool (decide (0 ≤ r21))) rfl) ?_
 refine FL.nil ?_
 refine FW.ret ?_
 obtain rfl := Option.some.inj hp
 exact ⟨.inr rfl, res1 rfl rfl ⟨rfl, S25.back⟩⟩

theorem w_impl_holds_1 {Ha : GH} {wa : World} (hs : Sl Ha wa) (a0 : Int) (q0 : Addr) (b0 : Int) (c0 : CAt Ha q0 [Value.int .i64 b0]) {r : Bool} (hp : (PF.impl_holds_1 a0 b0) = some r) :
  Calls Tryz.prog 274 #[Value.int .i64 a0, Value.pointer (some q0)] wa (Sc Ha wa (Value.bool r)) := by
 unfold PF.impl_holds_1 at hp
 have S0 := St.init hs
 refine calls_go (N := 14) (args := [Value.int .i64 a0, Value.pointer (some q0)]) Tryz.func274 rfl rfl rfl ?_
 refine FW.seq (FW.region ?_)
 refine FL.v (E.assign (v := Value.bool false) rfl) ?_
 refine FL.nil (FW.seq ?_)
 refine FW.draw (fun w' => Run wa.heap.size Ha wa Ha w') (by kernel_rfl) (by kernel_rfl) (run_drew S0.sl) ?_
 refine FD.val rfl rfl rfl (fun w' hw' => (E.load rfl (run_load0 Tryz.isAgg3 (c0.now (S0.call hw').sl) rfl))) ?_
 refine FD.val rfl rfl rfl (fun w' hw' => (E.move (v := Value.int .i64 a0) rfl)) ?_
 refine FD.call rfl rfl rfl (fun w' hw' => (E.call Tryz.call214 (A1 rfl))) (fun w' hw' => Calls.cls hw' (w_impl_abs (S0.call hw').sl a0)) ?_
 refine FD.val rfl rfl rfl (fun w' hw' => (E.sub rfl rfl)) ?_
 obtain ⟨u23, z22, hp⟩ := bnd hp
 refine FD.val rfl rfl rfl (fun w' hw' => (E.shr rfl rfl (nn_ge z22))) ?_
 refine FD.val rfl rfl rfl (fun w' hw' => (E.and rfl rfl)) ?_
 refine FD.val rfl rfl rfl (fun w' hw' => (E.eql rfl rfl)) ?_
 refine FD.val rfl rfl rfl (fun w' hw' => (E.move (v := Value.int .i64 a0) rfl)) ?_
 refine FD.val rfl rfl rfl (fun w' hw' => (E.gtr rfl rfl)) ?_
 refine FD.val rfl rfl rfl (fun w' hw' => (E.eqlB Tryz.runUnderlying4 rfl rfl)) ?_
 refine FD.val rfl rfl rfl (fun w' hw' => (E.assign (v := Value.bool (((andK true 64 (shrK 64 b0 (wr ((PF.impl_abs a0) - 1))) 1) == 1) == (decide (0 < a0)))) rfl)) ?_
 refine FD.nil ?_
 intro w24 r26
 have S25 := S0.call r26
 refine FW.ret ?_
 obtain rfl := Option.some.inj hp
 exact ⟨.inr rfl, res1 rfl rfl ⟨rfl, S25.back⟩⟩

theorem w_impl_holds {Ha : GH} {wa : World} (hs : Sl Ha wa) (v0 : Value) (a0 : List Int) (p0 : RSl Ha eI 1 v0 a0) (a1 : Int) {r : Bool} (hp : (PF.impl_holds a0 a1) = some r) :
  Calls Tryz.prog 187 #[v0, Value.int .i64 a1] wa (Sc Ha wa (Value.bool r)) := by
 unfold PF.impl_holds at hp
 have S0 := St.init hs
 refine calls_go (N := 8) (args := [v0, Value.int .i64 a1]) Tryz.func187 rfl rfl rfl ?_
 refine FW.seq (FW.region ?_)
 obtain ⟨b21, w22, run23, S24⟩ := S0.box (P := Tryz.prog) 3 [Value.int .i64 a1] (v := Value.int .i64 a1) rfl (ones_cons rfl ones_nil)
 refine FL.v (E.box rfl run23) ?_
 obtain ⟨H25, S26, i27, at28⟩ := S24.sealBox (i := 0) (l' := []) rfl rfl
 refine FL.v (E.assign (v := Value.bool false) rfl) ?_
 refine FL.nil (FW.seq (FW.region ?_))
 refine FL.v (E.move (v := v0) rfl) ?_
 refine FL.v (E.makeFunc A0 (A1 rfl)) ?_
 obtain ⟨r29, hr30, hp⟩ := bnd hp
 refine FL.call rfl rfl rfl (E.call Tryz.call200 (A2 rfl rfl)) (w_slices_ContainsFunc_int_int S26.sl v0 a0 (p0.mono i27) (Value.func (.func 274) #[] #[Value.pointer (some ⟨b21, 0, none⟩)]) (fun x0 => PF.impl_holds_1 x0 a1) (fun H2 w2 hi2 hs2 x0 r hr => ⟨274, #[Value.pointer (some ⟨b21, 0, none⟩)], rfl, Tryz.call274, w_impl_holds_1 hs2 x0 ⟨b21, 0, none⟩ a1 (at28.mono hi2) hr⟩) hr30) ?_
 rintro e w31 ⟨rfl, r32⟩
 refine ⟨_, rfl, ?_⟩
 have S33 := S26.call r32
 refine FL.v (E.assign (v := Value.bool r29) rfl) ?_
 refine FL.nil ?_
 refine FW.ret ?_
 obtain rfl := Option.some.inj hp
 exact ⟨.inr rfl, res1 rfl rfl ⟨rfl, S33.back⟩⟩

theorem w_impl_isModel_1 {Ha : GH} {wa : World} (hs : Sl Ha wa) (v0 : Value) (a0 : List Int) (p0 : RSl Ha eI 1 v0 a0) (q0 : Addr) (b0 : Int) (c0 : CAt Ha q0 [Value.int .i64 b0]) {r : Bool} (hp : (PF.impl_isModel_1 a0 b0) = some r) :
  Calls Tryz.prog 186 #[v0, Value.pointer (some q0)] wa (Sc Ha wa (Value.bool r)) := by
 unfold PF.impl_isModel_1 at hp
 have S0 := St.init hs
 refine calls_go (N := 8) (args := [v0, Value.pointer (some q0)]) Tryz.func186 rfl rfl rfl ?_
 refine FW.seq (FW.region ?_)
 refine FL.v (E.assign (v := Value.bool false) rfl) ?_
 refine FL.nil (FW.seq (FW.region ?_))
 refine FL.v (E.move (v := v0) rfl) ?_
 refine FL.v (E.load rfl (run_load0 Tryz.isAgg3 (c0.now S0.sl) rfl)) ?_
 obtain ⟨r21, hr22, hp⟩ := bnd hp
 refine FL.call rfl rfl rfl (E.call Tryz.call187 (A2 rfl rfl)) (w_impl_holds S0.sl v0 a0 p0 b0 hr22) ?_
 rintro e w23 ⟨rfl, r24⟩
 refine ⟨_, rfl, ?_⟩
 have S25 := S0.call r24
 refine FL.v (E.not rfl) ?_
 refine FL.v (E.assign (v := Value.bool (!r21)) rfl) ?_
 refine FL.nil ?_
 refine FW.ret ?_
 obtain rfl := Option.some.inj hp
 exact ⟨.inr rfl, res1 rfl rfl ⟨rfl, S25.back⟩⟩

theorem w_impl_isModel {Ha : GH} {wa : World} (hs : Sl Ha wa) (v0 : Value) (a0 : List (List Int)) (p0 : RSl Ha (eL eI 1) 1 v0 a0) (a1 : Int) {r : Bool} (hp : (PF.impl_isModel a0 a1) = some r) :
  Calls Tryz.prog 88 #[v0, Value.int .i64 a1] wa (Sc Ha wa (Value.bool r)) := by
 unfold PF.impl_isModel at hp
 have S0 := St.init hs
 refine calls_go (N := 9) (args := [v0, Value.int .i64 a1]) Tryz.func88 rfl rfl rfl ?_
 refine FW.seq (FW.region ?_)
 obtain ⟨b21, w22, run23, S24⟩ := S0.box (P := Tryz.prog) 3 [Value.int .i64 a1] (v := Value.int .i64 a1) rfl (ones_cons rfl ones_nil)
 refine FL.v (E.box rfl run23) ?_
 obtain ⟨H25, S26, i27, at28⟩ := S24.sealBox (i := 0) (l' := []) rfl rfl
 refine FL.v (E.assign (v := Value.bool false) rfl) ?_
 refine FL.nil (FW.seq (FW.region ?_))
 refine FL.v (E.move (v := v0) rfl) ?_
 refine FL.v (E.makeFunc A0 (A1 rfl)) ?_
 obtain ⟨r29, hr30, hp⟩ := bnd hp
 refine FL.call rfl rfl rfl (E.call Tryz.call100 (A2 rfl rfl)) (w_slices_ContainsFunc_LLint_Lint S26.sl v0 a0 (p0.mono i27) (Value.func (.func 186) #[] #[Value.pointer (some ⟨b21, 0, none⟩)]) (fun x0 => PF.impl_isModel_1 x0 a1) (fun H2 w2 hi2 hs2 x0 y0 z0 r hr => ⟨186, #[Value.pointer (some ⟨b21, 0, none⟩)], rfl, Tryz.call186, w_impl_isModel_1 hs2 y0 x0 z0 ⟨b21, 0, none⟩ a1 (at28.mono hi2) hr⟩) hr30) ?_
 rintro e w31 ⟨rfl, r32⟩
 refine ⟨_, rfl, ?_⟩
 have S33 := S26.call r32
 refine FL.v (E.not rfl) ?_
 refine FL.v (E.assign (v := Value.bool (!r29)) rfl) ?_
 refine FL.nil ?_
 refine FW.ret ?_
 obtain rfl := Option.some.inj hp
 exact ⟨.inr rfl, res1 rfl rfl ⟨rfl, S33.back⟩⟩

@[reducible] def p_impl_AllModels (Ha : GH) (wa : World) (r : ((List Int) × Bool)) : Ending → World → Prop :=
 fun e w' => ∃ H' : GH, ∃ v0 : Value, ∃ n0 : Nat, ∃ c0 : List Value, e = .returned (Value.tuple #[v0, Value.bool r.2]) ∧ St Ha wa H' w' [.row 3 1 v0 n0 c0] ∧ Els (up wa.heap.size H') eI 1 c0 r.1
theorem w_impl_AllModels {Ha : GH} {wa : World} (hs : Sl Ha wa) (a0 : Cnf) (v0_1 : Value) (p0_1 : RSl Ha (eL eI 1) 1 v0_1 a0.clauses) {r : ((List Int) × Bool)} (hp : (PF.impl_AllModels a0) = some r) :
  Calls Tryz.prog 19 #[Value.agg #[Value.int .i64 a0.vars, v0_1]] wa (p_impl_AllModels Ha wa r) := by
 unfold PF.impl_AllModels at hp
 have S0 := St.init hs
 refine calls_go (N := 15) (args := [Value.agg #[Value.int .i64 a0.vars, v0_1]]) Tryz.func19 rfl rfl rfl ?_
 refine FW.seq (FW.region ?_)
 obtain ⟨b21, w22, run23, S24⟩ := S0.box (P := Tryz.prog) 26 [Value.int .i64 a0.vars, v0_1] (v := Value.agg #[Value.int .i64 a0.vars, v0_1]) rfl (ones_cons rfl (ones_cons p0_1.one ones_nil))
 refine FL.v (E.box rfl run23) ?_
 obtain ⟨H25, S26, i27, at28⟩ := S24.sealBox (i := 0) (l' := []) rfl rfl
 refine FL.v (E.assign (v := Value.slice none 0 0) rfl) ?_
 refine FL.v (E.assign (v := Value.bool false) rfl) ?_
 refine FL.nil (FW.seq (FW.seq (FW.region ?_)))
 refine FL.v (E.load rfl (run_loadA Tryz.isAgg26 Tryz.sizeOf26 (at28.now S26.sl) rfl)) ?_
 obtain ⟨r29, hr30, hp⟩ := bnd hp
 refine FL.call rfl rfl rfl (E.call Tryz.call72 (A1 rfl)) (w_impl_IsCnf S26.sl a0 v0_1 (p0_1.mono i27) hr30) ?_
 rintro e w31 ⟨rfl, r32⟩
 refine ⟨_, rfl, ?_⟩
 have S33 := S26.call r32
 refine FL.v (E.not rfl) ?_
 refine FL.nil ?_
 rcases ifB hp with ⟨c34, hp⟩ | ⟨c34, hp⟩
 ·
  refine FW.condT rfl c34 ?_
  refine FW.seq (FW.region ?_)
  refine FL.v (E.assign (v := Value.slice none 0 0) rfl) ?_
  refine FL.v (E.assign (v := Value.bool false) rfl) ?_
  refine FL.nil ?_
  refine FW.ret ?_
  obtain rfl := Option.some.inj hp
  exact ⟨.inr rfl, res2 rfl rfl rfl ⟨_, _, _, _, rfl, (S33.nil 3 1), Els.nil⟩⟩
 ·
  refine FW.condF rfl c34 ?_
  refine FW.skip (FW.seq (FW.region ?_))
  have S39 := S33.nil 3 1
  have els40 : Els (up wa.heap.size H25) eI 1 [] [] := Els.nil
  obtain ⟨b35, w36, run37, S38⟩ := S39.alloc (P := Tryz.prog) 34 [Value.slice none 0 0] Tryz.zeroValue34 rfl (ones_cons rfl ones_nil)
  refine FL.v (E.alloc run37) ?_
  refine FL.nil (FW.seq (FW.region ?_))
  refine FL.v (E.load rfl (run_loadA Tryz.isAgg26 Tryz.sizeOf26 (at28.now S38.sl) rfl)) ?_
  refine FL.v (E.makeFunc A0 (A1 rfl)) ?_
  obtain ⟨s249, hq249, hp⟩ := bnd hp
  obtain ⟨R249, hR249⟩ : ∃ R249 : (List Int) → Ending → World → Prop, R249 = (fun s249 e w => ∃ H : GH, ∃ v250 : Value, ∃ n251 : Nat, ∃ cs252 : List Value, e = Ending.returned (Value.tuple #[]) ∧ St Ha wa H w [.box b35 34 [v250], .row 3 1 v250 n251 cs252] ∧ Inc H25 H ∧ Els (up wa.heap.size H) eI 1 cs252 s249) := ⟨_, rfl⟩
  have hc249 : Calls Tryz.prog 94 #[Value.agg #[Value.int .i64 a0.vars, v0_1], Value.func (.func 95) #[] #[Value.pointer (some (⟨b35, 0, none⟩ : Addr))]] w36 (R249 s249) := by
   clear hp; have hp := hq249; clear hq249
   refine calls_go (N := 22) (args := [Value.agg #[Value.int .i64 a0.vars, v0_1], Value.func (.func 95) #[] #[Value.pointer (some (⟨b35, 0, none⟩ : Addr))]]) Tryz.func94 rfl rfl rfl ?_
   refine FW.seq (FW.region ?_)
   obtain ⟨b254, w255, run256, S257⟩ := S38.box (P := Tryz.prog) 26 [Value.int .i64 a0.vars, v0_1] (v := Value.agg #[Value.int .i64 a0.vars, v0_1]) rfl (ones_cons rfl (ones_cons p0_1.one ones_nil))
   refine FL.v (E.box rfl run256) ?_
   obtain ⟨H258, S259, i260, at261⟩ := S257.sealBox (i := 0) (l' := [.box b35 34 [(Value.slice none 0 0)], .row 3 1 (Value.slice none 0 0) 0 []]) rfl rfl
   refine FL.nil (FW.seq (FW.region ?_))
   refine FL.v (E.fieldAddr tf26_0 rfl) ?_
   refine FL.v (E.load rfl (run_load1 Tryz.isAgg3 (at261.now S259.sl) rfl)) ?_
   obtain ⟨u263, z262, hp⟩ := bnd hp
   refine FL.v (E.shl rfl rfl (nn_ge z262)) ?_
   refine FL.v (E.move (v := Value.int .i64 0) rfl) ?_
   refine FL.nil ?_
   obtain ⟨m264, hchk265, hp⟩ := bnd hp
   obtain ⟨q265, hq, hp⟩ := bndR hp
   refine FW.block ?_
   refine FW.mono (FW.forR (S := (List Int)) (X := (List Int)) (fun (i265 : Nat) (s265 : (List Int)) f w => ∃ H : GH, ∃ v355 : Value, ∃ n356 : Nat, ∃ cs357 : List Value, St Ha wa H w [.box b35 34 [v355], .row 3 1 v355 n356 cs357] ∧ Inc H258 H ∧ Els (up wa.heap.size H) eI 1 cs357 s265 ∧ f 8 = Value.int .i64 ((i265 : Nat) : Int) ∧ f 1 = Value.func (.func 95) #[] #[Value.pointer (some (⟨b35, 0, none⟩ : Addr))] ∧ f 2 = Value.pointer (some ⟨b254, 0, none⟩) ∧ f 7 = Value.int .i64 (shlK true 64 1 a0.vars)) (fun q e f w => match q with | .go s265 => e = Exit.exit 0 ∧ (∃ H : GH, ∃ v355 : Value, ∃ n356 : Nat, ∃ cs357 : List Value, St Ha wa H w [.box b35 34 [v355], .row 3 1 v355 n356 cs357] ∧ Inc H258 H ∧ Els (up wa.heap.size H) eI 1 cs357 s265) | .rt x => ((e = Exit.ret) ∧ (fun e f w => (e = Exit.normal ∨ e = Exit.ret) ∧ ∀ a, Fr (δ := []) 22 a f → ∃ v, (results Tryz.f94 a.tmps).run Tryz.prog w = .ok v w ∧ R249 x (.returned v) w) e f w)) hq ⟨_, _, _, _, S259, (Inc.rfl _), (els40.mono (up_mono i260)), rfl, rfl, rfl, rfl⟩ ?_ ?_) ?_
   ·
    clear hp hq
    rintro i265 s265 f452 w451 ⟨H448, v355, n356, cs357, S449, i450, els358, k453, k454, k455, k456⟩ hi265 hj265 o575 hp
    refine FW.seq (FW.region ?_)
    refine FL.v (E.lssT k453 k456 (lss_chk hj265 hchk265)) ?_
    refine FL.nil (FW.seq ?_)
    refine FW.condT rfl rfl ?_
    refine FW.skip (FW.seq (FW.block (FW.seq (FW.region ?_))))
    refine FL.v (E.move k453) ?_
    refine FL.v (E.assign (v := Value.int .i64 ((i265 : Nat) : Int)) rfl) ?_
    refine FL.nil (FW.seq (FW.region ?_))
    refine FL.v (E.fieldAddr tf26_1 k455) ?_
    refine FL.v (E.load rfl (run_load1 Tryz.isAgg24 ((at261.mono i450).now S449.sl) rfl)) ?_
    refine FL.v (E.move (v := Value.int .i64 ((i265 : Nat) : Int)) rfl) ?_
    obtain ⟨r457, hr458, hp⟩ := bnd hp
    refine FL.call rfl rfl rfl (E.call Tryz.call88 (A2 rfl rfl)) (w_impl_isModel S449.sl v0_1 a0.clauses (p0_1.mono ((i27.tr i260).tr i450)) ((i265 : Nat) : Int) hr458) ?_
    rintro e w459 ⟨rfl, r460⟩
    refine ⟨_, rfl, ?_⟩
    have S461 := S449.call r460
    refine FL.v (E.move (v := Value.bool r457) rfl) ?_
    obtain ⟨t510, hqt510, hp⟩ := bnd hp
    refine FL.cut 5 (fun f w => ∃ H : GH, ∃ v512 : Value, ∃ n513 : Nat, ∃ cs514 : List Value, St Ha wa H w [.box b35 34 [v512], .row 3 1 v512 n513 cs514] ∧ Inc H448 H ∧ Els (up wa.heap.size H) eI 1 cs514 t510.1 ∧ f 1 = Value.func (.func 95) #[] #[Value.pointer (some (⟨b35, 0, none⟩ : Addr))] ∧ f 2 = Value.pointer (some ⟨b254, 0, none⟩) ∧ f 7 = Value.int .i64 (shlK true 64 1 a0.vars) ∧ f 8 = Value.int .i64 ((i265 : Nat) : Int) ∧ f 20 = Value.bool t510.2) ?_ ?_
    ·
     clear hp; have hp := hqt510; clear hqt510
     rcases ifB hp with ⟨c511, hp⟩ | ⟨c511, hp⟩
     ·
      refine FL.val (wF_yes rfl rfl rfl c511) rfl rfl (E.move k454) ?_
      refine FL.val (wF_yes rfl rfl rfl c511) rfl rfl (E.move (v := Value.int .i64 ((i265 : Nat) : Int)) rfl) ?_
      obtain ⟨s535, hq535, hp⟩ := bnd hp
      obtain ⟨R535, hR535⟩ : ∃ R535 : ((List Int) × Bool) → Ending → World → Prop, R535 = (fun s535 e w => ∃ H : GH, ∃ v536 : Value, ∃ n537 : Nat, ∃ cs538 : List Value, e = Ending.returned (Value.bool s535.2) ∧ St Ha wa H w [.box b35 34 [v536], .row 3 1 v536 n537 cs538] ∧ Inc H448 H ∧ Els (up wa.heap.size H) eI 1 cs538 s535.1) := ⟨_, rfl⟩
      have hc535 : Calls Tryz.prog 95 #[Value.int .i64 ((i265 : Nat) : Int), Value.pointer (some (⟨b35, 0, none⟩ : Addr))] w459 (R535 s535) := by
       clear hp; have hp := hq535; clear hq535
       refine calls_go (N := 11) (args := [Value.int .i64 ((i265 : Nat) : Int), Value.pointer (some (⟨b35, 0, none⟩ : Addr))]) Tryz.func95 rfl rfl rfl ?_
       refine FW.seq (FW.region ?_)
       refine FL.v (E.assign (v := Value.bool false) rfl) ?_
       refine FL.nil (FW.seq (FW.region ?_))
       refine FL.v (E.load rfl (run_load0 Tryz.isAgg34 (S461.box_now (i := 0) rfl) rfl)) ?_
       refine FL.v (E.move (v := Value.int .i64 ((i265 : Nat) : Int)) rfl) ?_
       obtain ⟨v540, w541, run542, S543⟩ := S461.buildSlice (P := Tryz.prog) te34 [Value.int .i64 ((i265 : Nat) : Int)] (parts := #[(0, Value.int .i64 ((i265 : Nat) : Int))]) (cells := [Value.int .i64 ((i265 : Nat) : Int)]) rfl (szs_cons rfl szs_nil) (fc_cons rfl fc_nil) (ones_cons rfl ones_nil) (Nat.le_of_ble_eq_true rfl)
       have els544 : Els (up wa.heap.size H448) eI 1 [Value.int .i64 ((i265 : Nat) : Int)] [((i265 : Nat) : Int)] := (Els.snoc (H := (up wa.heap.size H448)) (E := eI) (k := 1) (c := [Value.int .i64 ((i265 : Nat) : Int)]) (x := ((i265 : Nat) : Int)) Els.nil rfl rfl)
       refine FL.v (E.buildSlice (B1 rfl) run542) ?_
       obtain ⟨xs545, hz546, hp⟩ := bnd hp
       obtain ⟨v547, w550, n548, cs549, run551, S552, els553, ce554⟩ := S543.appendO (P := Tryz.prog) te34 (i := 2) (j := 0) rfl els358 rfl els544 hz546
       have S552 : St Ha wa H448 w550 [.row 3 1 v540 1 [Value.int .i64 ((i265 : Nat) : Int)], .box b35 34 [v355], .row 3 1 v547 n548 cs549] := S552
       have S555 : St Ha wa H448 w550 [.box b35 34 [v355], .row 3 1 v547 n548 cs549] := S552.drop 0
       refine FL.v (E.append rfl rfl run551) ?_
       obtain ⟨w556, run557, S558⟩ := S555.store0 (P := Tryz.prog) (t := 34) (i := 0) (cs' := [v547]) (l' := [.box b35 34 [v547], .row 3 1 v547 n548 cs549]) (v := v547) (c := [v547]) rfl Tryz.sizeOf34 (Ln.cells (S555.row_ln (i := 1) rfl)) rfl (ones_cons (Ln.one (S555.row_ln (i := 1) rfl)) ones_nil) (Nat.le_of_ble_eq_true rfl) rfl rfl
       refine FL.act rfl rfl (E.store rfl rfl run557) ?_
       refine FL.nil (FW.seq (FW.region ?_))
       refine FL.v (E.load rfl (run_load0 Tryz.isAgg34 (S558.box_now (i := 0) rfl) rfl)) ?_
       refine FL.v (E.lenO te34 rfl S558 (i := 1) rfl els553 (by decide)) ?_
       refine FL.v (E.leq rfl rfl) ?_
       refine FL.v (E.assign (v := Value.bool (decide ((len xs545) ≤ 300))) rfl) ?_
       refine FL.nil ?_
       refine FW.ret ?_
       obtain rfl := Option.some.inj hp
       exact ⟨.inr rfl, res1 rfl rfl (by rw [hR535]; exact ⟨_, _, _, _, rfl, S558, (Inc.rfl _), els553⟩)⟩
      clear hq535
      refine FL.call (wF_yes rfl rfl rfl c511) rfl rfl (E.callV Tryz.call95 rfl (appA (A1 rfl) #[Value.pointer (some (⟨b35, 0, none⟩ : Addr))])) hc535 ?_
      intro e w562 hQ535
      rw [hR535] at hQ535
      obtain ⟨H559, v536, n537, cs538, rfl, S560, i561, els539⟩ := hQ535
      refine ⟨_, rfl, ?_⟩
      refine FL.val (wF_yes rfl rfl rfl c511) rfl rfl (E.not rfl) ?_
      refine FL.v (E.pickT rfl c511 rfl) ?_
      obtain rfl := Option.some.inj hp
      exact FL.nil ⟨rfl, ⟨_, _, _, _, S560, i561, els539, k454, k455, k456, k453, rfl⟩⟩
     ·
      refine FL.skip (wF_no rfl rfl rfl c511) rfl ?_
      refine FL.skip (wF_no rfl rfl rfl c511) rfl ?_
      refine FL.skip (wF_no rfl rfl rfl c511) rfl ?_
      refine FL.skip (wF_no rfl rfl rfl c511) rfl ?_
      refine FL.v (E.pickF rfl c511 rfl) ?_
      obtain rfl := Option.some.inj hp
      exact FL.nil ⟨rfl, ⟨_, _, _, _, S461, (Inc.rfl _), els358, k454, k455, k456, k453, rfl⟩⟩
    clear hqt510
    rintro f568 w567 ⟨H564, v512, n513, cs514, S565, i566, els515, k569, k570, k571, k572, k573⟩
    refine FL.nil ?_
    rcases ifB hp with ⟨c574, hp⟩ | ⟨c574, hp⟩
    ·
     refine FW.condT k573 c574 ?_
     refine FW.ret ?_
     obtain rfl := Option.some.inj hp
     exact ⟨nofun, rfl, ⟨.inr rfl, res0 rfl (by rw [hR249]; exact ⟨_, _, _, _, rfl, S565, ((i260.tr i450).tr i566), els515⟩)⟩⟩
    ·
     refine FW.condF k573 c574 ?_
     refine FW.skip (FW.region ?_)
     refine FL.v (E.add k572 rfl) ?_
     refine FL.v (E.move (v := Value.int .i64 (wr (((i265 : Nat) : Int) + 1))) rfl) ?_
     refine FL.nil ?_
     obtain rfl := Option.some.inj hp
     exact ⟨rfl, ⟨_, _, _, _, S565, (i450.tr i566), els515, (nat_succ rfl hj265 (chk_le hchk265)), k569, k570, k571⟩⟩
   ·
    clear hp hq
    rintro s265 f585 w584 ⟨H581, v355, n356, cs357, S582, i583, els358, k586, k587, k588, k589⟩
    refine FW.seq (FW.region ?_)
    refine FL.v (E.lss k586 k589) ?_
    refine FL.nil (FW.seq ?_)
    refine FW.condF rfl (dlt_maxchk hchk265) ?_
    refine FW.exit ?_
    exact ⟨nofun, rfl, ⟨_, _, _, _, S582, i583, els358⟩⟩
   ·
    clear hq
    intro e f580 w579 hD
    rcases q265 with s265 | x265
    ·
     obtain ⟨rfl, hD⟩ := hD
     obtain ⟨H576, v355, n356, cs357, S577, i578, els358⟩ := hD
     replace hp := el_go hp
     obtain rfl := Option.some.inj hp
     exact ⟨.inl rfl, res0 rfl (by rw [hR249]; exact ⟨_, _, _, _, rfl, S577, (i260.tr i578), els358⟩)⟩
    ·
     obtain ⟨he, hL⟩ := hD
     replace hp := el_rt hp
     obtain rfl := Option.some.inj hp
     subst he
     exact hL
  clear hq249
  refine FL.call rfl rfl rfl (E.call Tryz.call94 (A2 rfl rfl)) hc249 ?_
  intro e w593 hQ249
  rw [hR249] at hQ249
  obtain ⟨H590, v250, n251, cs252, rfl, S591, i592, els253⟩ := hQ249
  refine ⟨_, rfl, ?_⟩
  refine FL.nil (FW.seq (FW.seq (FW.region ?_)))
  refine FL.v (E.load rfl (run_load0 Tryz.isAgg34 (S591.box_now (i := 0) rfl) rfl)) ?_
  refine FL.v (E.lenO te34 rfl S591 (i := 1) rfl els253 (by decide)) ?_
  refine FL.v (E.gtr rfl rfl) ?_
  refine FL.nil ?_
  rcases ifB hp with ⟨c595, hp⟩ | ⟨c595, hp⟩
  ·
   refine FW.condT rfl c595 ?_
   refine FW.seq (FW.region ?_)
   refine FL.v (E.assign (v := Value.slice none 0 0) rfl) ?_
   refine FL.v (E.assign (v := Value.bool false) rfl) ?_
   refine FL.nil ?_
   refine FW.ret ?_
   obtain rfl := Option.some.inj hp
   exact ⟨.inr rfl, res2 rfl rfl rfl ⟨_, _, _, _, rfl, ((S591.nil 3 1).sel [0] (by decide) rfl), Els.nil⟩⟩
  ·
   refine FW.condF rfl c595 ?_
   refine FW.skip (FW.seq (FW.region ?_))
   refine FL.v (E.load rfl (run_load0 Tryz.isAgg34 (S591.box_now (i := 0) rfl) rfl)) ?_
   refine FL.v (E.assign (v := v250) rfl) ?_
   refine FL.v (E.assign (v := Value.bool true) rfl) ?_
   refine FL.nil ?_
   refine FW.ret ?_
   obtain rfl := Option.some.inj hp
   exact ⟨.inr rfl, res2 rfl rfl rfl ⟨_, _, _, _, rfl, (S591.sel [1] (by decide) rfl), els253⟩⟩

@[reducible] def p_impl_total (Ha : GH) (wa : World) (r : (List Int)) : Ending → World → Prop :=
  fun e w' => ∃ H' : GH, ∃ v0 : Value, ∃ n0 : Nat, ∃ c0 : List Value, e = .returned (v0) ∧ St Ha wa H' w' [.row 3 1 v0 n0 c0] ∧ Els (up wa.heap.size H') eI 1 c0 r
theorem w_impl_total {Ha : GH} {wa : World} (hs : Sl Ha wa) (a0 : Int) (a1 : Int) {r : (List Int)} (hp : (PF.impl_total a0 a1) = some r) :
    Calls Tryz.prog 97 #[Value.int .i64 a0, Value.int .i64 a1] wa (p_impl_total Ha wa r) := by
  unfold PF.impl_total at hp
  have S0 := St.init hs
  refine calls_go (N := 28) (args := [Value.int .i64 a0, Value.int .i64 a1]) Tryz.func97 rfl rfl rfl ?_
  refine FW.seq (FW.region ?_)
  refine FL.v (E.assign (v := Value.slice none 0 0) rfl) ?_
  refine FL.nil (FW.seq (FW.region ?_))
  refine FL.v (E.assign (v := Value.slice none 0 0) rfl) ?_
  refine FL.nil (FW.seq (FW.seq (FW.region ?_)))
  refine FL.v (E.assign (v := Value.int .i64 1) rfl) ?_
  refine FL.nil ?_
  obtain ⟨q22, hq, hp⟩ := bndR hp
  refine FW.block ?_
  refine FW.mono (FW.iter (S := ((List Int) × Int)) (X := Empty) (fun (s22 : ((List Int) × Int)) f w => ∃ H : GH, ∃ v23 : Value, ∃ n24 : Nat, ∃ cs25 : List Value, St Ha wa H w [.row 3 1 v23 n24 cs25] ∧ Inc Ha H ∧ Els (up wa.heap.size H) eI 1 cs25 s22.1 ∧ f 0 = Value.int .i64 a0 ∧ f 1 = Value.int .i64 a1 ∧ f 5 = v23 ∧ f 6 = Value.int .i64 s22.2) (fun (q : Rs ((List Int) × Int) Empty) e f w => match q with | .go s22 => e = Exit.exit 0 ∧ (∃ H : GH, ∃ v23 : Value, ∃ n24 : Nat, ∃ cs25 : List Value, St Ha wa H w [.row 3 1 v23 n24 cs25] ∧ Inc Ha H ∧ Els (up wa.heap.size H) eI 1 cs25 s22.1 ∧ f 5 = v23) | .rt x => x.elim) hq ⟨_, _, _, _, (S0.nil 3 1), (Inc.rfl _), Els.nil, rfl, rfl, rfl, rfl⟩ ?_) ?_
  ·
    clear hp hq
    rintro s22 f76 w75 ⟨H72, v23, n24, cs25, S73, i74, els26, k77, k78, k79, k80⟩ o117 hp
    refine FW.seq (FW.seq (FW.region ?_))
    refine FL.v (E.move k80) ?_
    refine FL.v (E.move k77) ?_
    refine FL.v (E.leq rfl rfl) ?_
    refine FL.nil ?_
    rcases ifB hp with ⟨c81, hp⟩ | ⟨c81, hp⟩
    ·
      refine FW.condT rfl c81 ?_
      refine FW.skip (FW.seq (FW.block (FW.seq (FW.region ?_))))
      refine FL.v (E.move k78) ?_
      refine FL.v (E.move k80) ?_
      refine FL.v (E.sub rfl rfl) ?_
      obtain ⟨u83, z82, hp⟩ := bnd hp
      refine FL.v (E.shr rfl rfl (nn_ge z82)) ?_
      refine FL.v (E.and rfl rfl) ?_
      refine FL.v (E.eql rfl rfl) ?_
      refine FL.nil ?_
      rcases ifB hp with ⟨c84, hp⟩ | ⟨c84, hp⟩
      ·
        refine FW.condT rfl c84 ?_
        refine FW.region ?_
        refine FL.v (E.move k79) ?_
        refine FL.v (E.move k80) ?_
        obtain ⟨v85, w86, run87, S88⟩ := S73.buildSlice (P := Tryz.prog) te34 [Value.int .i64 s22.2] (parts := #[(0, Value.int .i64 s22.2)]) (cells := [Value.int .i64 s22.2]) rfl (szs_cons rfl szs_nil) (fc_cons rfl fc_nil) (ones_cons rfl ones_nil) (Nat.le_of_ble_eq_true rfl)
        have els89 : Els (up wa.heap.size H72) eI 1 [Value.int .i64 s22.2] [s22.2] := (Els.snoc (H := (up wa.heap.size H72)) (E := eI) (k := 1) (c := [Value.int .i64 s22.2]) (x := s22.2) Els.nil rfl rfl)
        refine FL.v (E.buildSlice (B1 rfl) run87) ?_
        obtain ⟨xs90, hz91, hp⟩ := bnd hp
        obtain ⟨v92, w95, n93, cs94, run96, S97, els98, ce99⟩ := S88.appendO (P := Tryz.prog) te34 (i := 1) (j := 0) rfl els26 rfl els89 hz91
        have S97 : St Ha wa H72 w95 [.row 3 1 v85 1 [Value.int .i64 s22.2], .row 3 1 v92 n93 cs94] := S97
        have S100 : St Ha wa H72 w95 [.row 3 1 v92 n93 cs94] := S97.drop 0
        refine FL.v (E.append rfl rfl run96) ?_
        refine FL.v (E.assign (v := v92) rfl) ?_
        refine FL.nil (FW.region ?_)
        refine FL.v (E.move k80) ?_
        refine FL.v (E.add rfl rfl) ?_
        refine FL.v (E.assign (v := Value.int .i64 (wr (s22.2 + 1))) rfl) ?_
        refine FL.nil ?_
        obtain rfl := Option.some.inj hp
        exact ⟨rfl, ⟨_, _, _, _, S100, i74, els98, k77, k78, rfl, rfl⟩⟩
      ·
        refine FW.condF rfl c84 ?_
        refine FW.region ?_
        refine FL.v (E.move k79) ?_
        refine FL.v (E.move k80) ?_
        refine FL.v (E.neg rfl) ?_
        obtain ⟨v101, w102, run103, S104⟩ := S73.buildSlice (P := Tryz.prog) te34 [Value.int .i64 (wr (-s22.2))] (parts := #[(0, Value.int .i64 (wr (-s22.2)))]) (cells := [Value.int .i64 (wr (-s22.2))]) rfl (szs_cons rfl szs_nil) (fc_cons rfl fc_nil) (ones_cons rfl ones_nil) (Nat.le_of_ble_eq_true rfl)
        have els105 : Els (up wa.heap.size H72) eI 1 [Value.int .i64 (wr (-s22.2))] [(wr (-s22.2))] := (Els.snoc (H := (up wa.heap.size H72)) (E := eI) (k := 1) (c := [Value.int .i64 (wr (-s22.2))]) (x := (wr (-s22.2))) Els.nil rfl rfl)
        refine FL.v (E.buildSlice (B1 rfl) run103) ?_
        obtain ⟨xs106, hz107, hp⟩ := bnd hp
        obtain ⟨v108, w111, n109, cs110, run112, S113, els114, ce115⟩ := S104.appendO (P := Tryz.prog) te34 (i := 1) (j := 0) rfl els26 rfl els105 hz107
        have S113 : St Ha wa H72 w111 [.row 3 1 v101 1 [Value.int .i64 (wr (-s22.2))], .row 3 1 v108 n109 cs110] := S113
        have S116 : St Ha wa H72 w111 [.row 3 1 v108 n109 cs110] := S113.drop 0
        refine FL.v (E.append rfl rfl run112) ?_
        refine FL.v (E.assign (v := v108) rfl) ?_
        refine FL.nil (FW.region ?_)
        refine FL.v (E.move k80) ?_
        refine FL.v (E.add rfl rfl) ?_
        refine FL.v (E.assign (v := Value.int .i64 (wr (s22.2 + 1))) rfl) ?_
        refine FL.nil ?_
        obtain rfl := Option.some.inj hp
        exact ⟨rfl, ⟨_, _, _, _, S116, i74, els114, k77, k78, rfl, rfl⟩⟩
    ·
      refine FW.condF rfl c81 ?_
      refine FW.exit ?_
      obtain rfl := Option.some.inj hp
      exact ⟨nofun, rfl, ⟨_, _, _, _, S73, i74, els26, k79⟩⟩
  ·
    clear hq
    intro e f122 w121 hD
    rcases q22 with s22 | x22
    ·
      obtain ⟨rfl, hD⟩ := hD
      obtain ⟨H118, v23, n24, cs25, S119, i120, els26, k123⟩ := hD
      replace hp := el_go hp
      refine FW.seq (FW.region ?_)
      refine FL.v (E.move k123) ?_
      refine FL.v (E.assign (v := v23) rfl) ?_
      refine FL.nil ?_
      refine FW.ret ?_
      obtain rfl := Option.some.inj hp
      exact ⟨.inr rfl, res1 rfl rfl ⟨_, _, _, _, rfl, S119, els26⟩⟩
    · exact x22.elim

@[reducible] def p_impl_TotalOf (Ha : GH) (wa : World) (r : ((List Int) × Bool)) : Ending → World → Prop :=
 fun e w' => ∃ H' : GH, ∃ v0 : Value, ∃ n0 : Nat, ∃ c0 : List Value, e = .returned (Value.tuple #[v0, Value.bool r.2]) ∧ St Ha wa H' w' [.row 3 1 v0 n0 c0] ∧ Els (up wa.heap.size H') eI 1 c0 r.1
theorem w_impl_TotalOf {Ha : GH} {wa : World} (hs : Sl Ha wa) (a0 : Int) (a1 : Int) {r : ((List Int) × Bool)} (hp : (PF.impl_TotalOf a0 a1) = some r) :
  Calls Tryz.prog 20 #[Value.int .i64 a0, Value.int .i64 a1] wa (p_impl_TotalOf Ha wa r) := by
 unfold PF.impl_TotalOf at hp
 have S0 := St.init hs
 refine calls_go (N := 20) (args := [Value.int .i64 a0, Value.int .i64 a1]) Tryz.func20 rfl rfl rfl ?_
 refine FW.seq (FW.region ?_)
 refine FL.v (E.assign (v := Value.slice none 0 0) rfl) ?_
 refine FL.v (E.assign (v := Value.bool false) rfl) ?_
 refine FL.nil (FW.seq (FW.seq (FW.region ?_)))
 refine FL.v (E.move (v := Value.int .i64 a0) rfl) ?_
 refine FL.call rfl rfl rfl (E.call Tryz.call96 (A1 rfl)) (w_impl_varsOk S0.sl a0) ?_
 rintro e w21 ⟨rfl, r22⟩
 refine ⟨_, rfl, ?_⟩
 have S23 := S0.call r22
 refine FL.v (E.not rfl) ?_
 refine FL.v (E.move (v := Value.bool (!(PF.impl_varsOk a0))) rfl) ?_
 obtain ⟨t29, hqt29, hp⟩ := bnd hp
 refine FL.cut 7 (fun f w => ∃ H : GH, St Ha wa H w [] ∧ Inc Ha H ∧ f 0 = Value.int .i64 a0 ∧ f 1 = Value.int .i64 a1 ∧ f 16 = Value.bool t29) ?_ ?_
 ·
  clear hp; have hp := hqt29; clear hqt29
  rcases ifB hp with ⟨c35, hp⟩ | ⟨c35, hp⟩
  ·
   refine FL.skip (wF_no rfl rfl rfl c35) rfl ?_
   refine FL.skip (wF_no rfl rfl rfl c35) rfl ?_
   refine FL.skip (wF_no rfl rfl rfl c35) rfl ?_
   refine FL.skip (wF_no rfl rfl rfl c35) rfl ?_
   refine FL.skip (wF_no rfl rfl rfl c35) rfl ?_
   refine FL.skip (wF_no rfl rfl rfl c35) rfl ?_
   obtain rfl := Option.some.inj hp
   refine FL.v (E.pickT rfl c35 rfl) ?_
   exact FL.nil ⟨rfl, _, S23, (Inc.rfl _), rfl, rfl, rfl⟩
  ·
   refine FL.val (wF_yes rfl rfl rfl c35) rfl rfl (E.move (v := Value.int .i64 a1) rfl) ?_
   refine FL.val (wF_yes rfl rfl rfl c35) rfl rfl (E.move (v := Value.int .i64 a0) rfl) ?_
   obtain ⟨u37, z36, hp⟩ := bnd hp
   refine FL.val (wF_yes rfl rfl rfl c35) rfl rfl (E.shl rfl rfl (nn_ge z36)) ?_
   refine FL.val (wF_yes rfl rfl rfl c35) rfl rfl (E.sub rfl rfl) ?_
   refine FL.call (wF_yes rfl rfl rfl c35) rfl rfl (E.call Tryz.call87 (A3 rfl rfl rfl)) (w_impl_within S23.sl a1 0 (wr ((shlK true 64 1 a0) - 1))) ?_
   rintro e w38 ⟨rfl, r39⟩
   refine ⟨_, rfl, ?_⟩
   have S40 := S23.call r39
   refine FL.val (wF_yes rfl rfl rfl c35) rfl rfl (E.not rfl) ?_
   obtain rfl := Option.some.inj hp
   refine FL.v (E.pickF rfl c35 rfl) ?_
   exact FL.nil ⟨rfl, _, S40, (Inc.rfl _), rfl, rfl, rfl⟩
 rintro f34 w33 ⟨H30, S31, i32, k41, k42, k43⟩
 refine FL.nil ?_
 rcases ifB hp with ⟨c44, hp⟩ | ⟨c44, hp⟩
 ·
  refine FW.condT k43 c44 ?_
  refine FW.seq (FW.region ?_)
  refine FL.v (E.assign (v := Value.slice none 0 0) rfl) ?_
  refine FL.v (E.assign (v := Value.bool false) rfl) ?_
  refine FL.nil ?_
  refine FW.ret ?_
  obtain rfl := Option.some.inj hp
  exact ⟨.inr rfl, res2 rfl rfl rfl ⟨_, _, _, _, rfl, (S31.nil 3 1), Els.nil⟩⟩
 ·
  refine FW.condF k43 c44 ?_
  refine FW.skip (FW.seq (FW.region ?_))
  refine FL.v (E.move k41) ?_
  refine FL.v (E.move k42) ?_
  obtain ⟨r45, hr46, hp⟩ := bnd hp
  refine FL.call rfl rfl rfl (E.call Tryz.call97 (A2 rfl rfl)) (w_impl_total S31.sl a0 a1 hr46) ?_
  rintro e w48 ⟨H47, v51, n52, cs53, rfl, r50, els54⟩
  refine ⟨_, rfl, ?_⟩
  have els54 := els54.mono (up_le S31.size)
  have S49 := S31.join (l' := [.row 3 1 v51 n52 cs53]) r50 rfl
  refine FL.v (E.assign (v := v51) rfl) ?_
  refine FL.v (E.assign (v := Value.bool true) rfl) ?_
  refine FL.nil ?_
  refine FW.ret ?_
  obtain rfl := Option.some.inj hp
  exact ⟨.inr rfl, res2 rfl rfl rfl ⟨_, _, _, _, rfl, S49, els54⟩⟩

theorem w_impl_part_1 {Ha : GH} {wa : World} (hs : Sl Ha wa) (a0 : Int) (q0 : Addr) (b0 : List Int) (u0_0 : Value) (g0_0 : RSl Ha eI 1 u0_0 b0) (c0 : CAt Ha q0 [u0_0]) {r : Bool} (hp : (PF.impl_part_1 a0 b0) = some r) :
  Calls Tryz.prog 201 #[Value.int .i64 a0, Value.pointer (some q0)] wa (Sc Ha wa (Value.bool r)) := by
 unfold PF.impl_part_1 at hp
 have S0 := St.init hs
 refine calls_go (N := 8) (args := [Value.int .i64 a0, Value.pointer (some q0)]) Tryz.func201 rfl rfl rfl ?_
 refine FW.seq (FW.region ?_)
 refine FL.v (E.assign (v := Value.bool false) rfl) ?_
 refine FL.nil (FW.seq (FW.region ?_))
 refine FL.v (E.load rfl (run_load0 Tryz.isAgg34 (c0.now S0.sl) rfl)) ?_
 refine FL.v (E.move (v := Value.int .i64 a0) rfl) ?_
 obtain ⟨r21, hr22, hp⟩ := bnd hp
 refine FL.call rfl rfl rfl (E.call Tryz.call74 (A2 rfl rfl)) (w_slices_Contains_int_int S0.sl u0_0 b0 g0_0 a0 hr22) ?_
 rintro e w23 ⟨rfl, r24⟩
 refine ⟨_, rfl, ?_⟩
 have S25 := S0.call r24
 refine FL.v (E.not rfl) ?_
 refine FL.v (E.assign (v := Value.bool (!r21)) rfl) ?_
 refine FL.nil ?_
 refine FW.ret ?_
 obtain rfl := Option.some.inj hp
 exact ⟨.inr rfl, res1 rfl rfl ⟨rfl, S25.back⟩⟩

theorem w_impl_part {Ha : GH} {wa : World} (hs : Sl Ha wa) (v0 : Value) (a0 : List Int) (p0 : RSl Ha eI 1 v0 a0) (v1 : Value) (a1 : List Int) (p1 : RSl Ha eI 1 v1 a1) {r : Bool} (hp : (PF.impl_part a0 a1) = some r) :
  Calls Tryz.prog 98 #[v0, v1] wa (Sc Ha wa (Value.bool r)) := by
 unfold PF.impl_part at hp
 have S0 := St.init hs
 refine calls_go (N := 9) (args := [v0, v1]) Tryz.func98 rfl rfl rfl ?_
 refine FW.seq (FW.region ?_)
 obtain ⟨b21, w22, run23, S24⟩ := S0.box (P := Tryz.prog) 34 [v1] (v := v1) p1.cells (ones_cons p1.one ones_nil)
 refine FL.v (E.box rfl run23) ?_
 obtain ⟨H25, S26, i27, at28⟩ := S24.sealBox (i := 0) (l' := []) rfl rfl
 refine FL.v (E.assign (v := Value.bool false) rfl) ?_
 refine FL.nil (FW.seq (FW.region ?_))
 refine FL.v (E.move (v := v0) rfl) ?_
 refine FL.v (E.makeFunc A0 (A1 rfl)) ?_
 obtain ⟨r29, hr30, hp⟩ := bnd hp
 refine FL.call rfl rfl rfl (E.call Tryz.call200 (A2 rfl rfl)) (w_slices_ContainsFunc_int_int S26.sl v0 a0 (p0.mono i27) (Value.func (.func 201) #[] #[Value.pointer (some ⟨b21, 0, none⟩)]) (fun x0 => PF.impl_part_1 x0 a1) (fun H2 w2 hi2 hs2 x0 r hr => ⟨201, #[Value.pointer (some ⟨b21, 0, none⟩)], rfl, Tryz.call201, w_impl_part_1 hs2 x0 ⟨b21, 0, none⟩ a1 v1 ((p1.mono i27).mono hi2) (at28.mono hi2) hr⟩) hr30) ?_
 rintro e w31 ⟨rfl, r32⟩
 refine ⟨_, rfl, ?_⟩
 have S33 := S26.call r32
 refine FL.v (E.not rfl) ?_
 refine FL.v (E.assign (v := Value.bool (!r29)) rfl) ?_
 refine FL.nil ?_
 refine FW.ret ?_
 obtain rfl := Option.some.inj hp
 exact ⟨.inr rfl, res1 rfl rfl ⟨rfl, S33.back⟩⟩

theorem w_impl_DoesExtend {Ha : GH} {wa : World} (hs : Sl Ha wa) (a0 : Int) (v1 : Value) (a1 : List Int) (p1 : RSl Ha eI 1 v1 a1) (v2 : Value) (a2 : List Int) (p2 : RSl Ha eI 1 v2 a2) {r : (Bool × Bool)} (hp : (PF.impl_DoesExtend a0 a1 a2) = some r) :
  Calls Tryz.prog 21 #[Value.int .i64 a0, v1, v2] wa (Sc Ha wa (Value.tuple #[Value.bool r.1, Value.bool r.2])) := by
 unfold PF.impl_DoesExtend at hp
 have S0 := St.init hs
 refine calls_go (N := 21) (args := [Value.int .i64 a0, v1, v2]) Tryz.func21 rfl rfl rfl ?_
 refine FW.seq (FW.region ?_)
 refine FL.v (E.assign (v := Value.bool false) rfl) ?_
 refine FL.v (E.assign (v := Value.bool false) rfl) ?_
 refine FL.nil (FW.seq (FW.seq (FW.region ?_)))
 refine FL.v (E.move (v := Value.int .i64 a0) rfl) ?_
 refine FL.v (E.move (v := v1) rfl) ?_
 obtain ⟨r21, hr22, hp⟩ := bnd hp
 refine FL.call rfl rfl rfl (E.call Tryz.call90 (A2 rfl rfl)) (w_impl_IsAssignment S0.sl a0 v1 a1 p1 hr22) ?_
 rintro e w23 ⟨rfl, r24⟩
 refine ⟨_, rfl, ?_⟩
 have S25 := S0.call r24
 refine FL.v (E.not rfl) ?_
 refine FL.v (E.move (v := Value.bool (!r21)) rfl) ?_
 obtain ⟨t31, hqt31, hp⟩ := bnd hp
 refine FL.cut 5 (fun f w => ∃ H : GH, St Ha wa H w [] ∧ Inc Ha H ∧ f 1 = v1 ∧ f 2 = v2 ∧ f 17 = Value.bool t31) ?_ ?_
 ·
  clear hp; have hp := hqt31; clear hqt31
  rcases ifB hp with ⟨c37, hp⟩ | ⟨c37, hp⟩
  ·
   refine FL.skip (wF_no rfl rfl rfl c37) rfl ?_
   refine FL.skip (wF_no rfl rfl rfl c37) rfl ?_
   refine FL.skip (wF_no rfl rfl rfl c37) rfl ?_
   refine FL.skip (wF_no rfl rfl rfl c37) rfl ?_
   obtain rfl := Option.some.inj hp
   refine FL.v (E.pickT rfl c37 rfl) ?_
   exact FL.nil ⟨rfl, _, S25, (Inc.rfl _), rfl, rfl, rfl⟩
  ·
   refine FL.val (wF_yes rfl rfl rfl c37) rfl rfl (E.move (v := Value.int .i64 a0) rfl) ?_
   refine FL.val (wF_yes rfl rfl rfl c37) rfl rfl (E.move (v := v2) rfl) ?_
   obtain ⟨r38, hr39, hp⟩ := bnd hp
   refine FL.call (wF_yes rfl rfl rfl c37) rfl rfl (E.call Tryz.call90 (A2 rfl rfl)) (w_impl_IsAssignment S25.sl a0 v2 a2 p2 hr39) ?_
   rintro e w40 ⟨rfl, r41⟩
   refine ⟨_, rfl, ?_⟩
   have S42 := S25.call r41
   refine FL.val (wF_yes rfl rfl rfl c37) rfl rfl (E.not rfl) ?_
   obtain rfl := Option.some.inj hp
   refine FL.v (E.pickF rfl c37 rfl) ?_
   exact FL.nil ⟨rfl, _, S42, (Inc.rfl _), rfl, rfl, rfl⟩
 rintro f36 w35 ⟨H32, S33, i34, k43, k44, k45⟩
 refine FL.nil ?_
 rcases ifB hp with ⟨c46, hp⟩ | ⟨c46, hp⟩
 ·
  refine FW.condT k45 c46 ?_
  refine FW.seq (FW.region ?_)
  refine FL.v (E.assign (v := Value.bool false) rfl) ?_
  refine FL.v (E.assign (v := Value.bool false) rfl) ?_
  refine FL.nil ?_
  refine FW.ret ?_
  obtain rfl := Option.some.inj hp
  exact ⟨.inr rfl, res2 rfl rfl rfl ⟨rfl, S33.back⟩⟩
 ·
  refine FW.condF k45 c46 ?_
  refine FW.skip (FW.seq (FW.region ?_))
  refine FL.v (E.move k43) ?_
  refine FL.v (E.move k44) ?_
  obtain ⟨r47, hr48, hp⟩ := bnd hp
  refine FL.call rfl rfl rfl (E.call Tryz.call98 (A2 rfl rfl)) (w_impl_part S33.sl v1 a1 (p1.mono i34) v2 a2 (p2.mono i34) hr48) ?_
  rintro e w49 ⟨rfl, r50⟩
  refine ⟨_, rfl, ?_⟩
  have S51 := S33.call r50
  refine FL.v (E.assign (v := Value.bool r47) rfl) ?_
  refine FL.v (E.assign (v := Value.bool true) rfl) ?_
  refine FL.nil ?_
  refine FW.ret ?_
  obtain rfl := Option.some.inj hp
  exact ⟨.inr rfl, res2 rfl rfl rfl ⟨rfl, S51.back⟩⟩

@[reducible] def p_impl_PropagationSteps (Ha : GH) (wa : World) (r : ((List (Int × Int)) × Bool)) : Ending → World → Prop :=
 fun e w' => ∃ H' : GH, ∃ v0 : Value, ∃ n0 : Nat, ∃ c0 : List Value, e = .returned (Value.tuple #[v0, Value.bool r.2]) ∧ St Ha wa H' w' [.row 47 2 v0 n0 c0] ∧ Els (up wa.heap.size H') eI2 2 c0 r.1
theorem w_impl_PropagationSteps {Ha : GH} {wa : World} (hs : Sl Ha wa) (a0 : Cnf) (v0_1 : Value) (p0_1 : RSl Ha (eL eI 1) 1 v0_1 a0.clauses) (v1 : Value) (a1 : List Int) (p1 : RSl Ha eI 1 v1 a1) {r : ((List (Int × Int)) × Bool)} (hp : (PF.impl_PropagationSteps a0 a1) = some r) :
  Calls Tryz.prog 22 #[Value.agg #[Value.int .i64 a0.vars, v0_1], v1] wa (p_impl_PropagationSteps Ha wa r) := by
 unfold PF.impl_PropagationSteps at hp
 have S0 := St.init hs
 refine calls_go (N := 28) (args := [Value.agg #[Value.int .i64 a0.vars, v0_1], v1]) Tryz.func22 rfl rfl rfl ?_
 refine FW.seq (FW.region ?_)
 obtain ⟨b21, w22, run23, S24⟩ := S0.box (P := Tryz.prog) 26 [Value.int .i64 a0.vars, v0_1] (v := Value.agg #[Value.int .i64 a0.vars, v0_1]) rfl (ones_cons rfl (ones_cons p0_1.one ones_nil))
 refine FL.v (E.box rfl run23) ?_
 obtain ⟨H25, S26, i27, at28⟩ := S24.sealBox (i := 0) (l' := []) rfl rfl
 refine FL.v (E.assign (v := Value.slice none 0 0) rfl) ?_
 refine FL.v (E.assign (v := Value.bool false) rfl) ?_
 refine FL.nil (FW.seq (FW.seq (FW.region ?_)))
 refine FL.v (E.load rfl (run_loadA Tryz.isAgg26 Tryz.sizeOf26 (at28.now S26.sl) rfl)) ?_
 obtain ⟨r29, hr30, hp⟩ := bnd hp
 refine FL.call rfl rfl rfl (E.call Tryz.call72 (A1 rfl)) (w_impl_IsCnf S26.sl a0 v0_1 (p0_1.mono i27) hr30) ?_
 rintro e w31 ⟨rfl, r32⟩
 refine ⟨_, rfl, ?_⟩
 have S33 := S26.call r32
 refine FL.v (E.not rfl) ?_
 refine FL.v (E.move (v := Value.bool (!r29)) rfl) ?_
 obtain ⟨t39, hqt39, hp⟩ := bnd hp
 refine FL.cut 6 (fun f w => ∃ H : GH, St Ha wa H w [] ∧ Inc H25 H ∧ f 1 = v1 ∧ f 2 = Value.pointer (some ⟨b21, 0, none⟩) ∧ f 18 = Value.bool t39) ?_ ?_
 ·
  clear hp; have hp := hqt39; clear hqt39
  rcases ifB hp with ⟨c45, hp⟩ | ⟨c45, hp⟩
  ·
   refine FL.skip (wF_no rfl rfl rfl c45) rfl ?_
   refine FL.skip (wF_no rfl rfl rfl c45) rfl ?_
   refine FL.skip (wF_no rfl rfl rfl c45) rfl ?_
   refine FL.skip (wF_no rfl rfl rfl c45) rfl ?_
   refine FL.skip (wF_no rfl rfl rfl c45) rfl ?_
   obtain rfl := Option.some.inj hp
   refine FL.v (E.pickT rfl c45 rfl) ?_
   exact FL.nil ⟨rfl, _, S33, (Inc.rfl _), rfl, rfl, rfl⟩
  ·
   refine FL.val (wF_yes rfl rfl rfl c45) rfl rfl (E.fieldAddr tf26_0 rfl) ?_
   refine FL.val (wF_yes rfl rfl rfl c45) rfl rfl (E.load rfl (run_load1 Tryz.isAgg3 (at28.now S33.sl) rfl)) ?_
   refine FL.val (wF_yes rfl rfl rfl c45) rfl rfl (E.move (v := v1) rfl) ?_
   obtain ⟨r46, hr47, hp⟩ := bnd hp
   refine FL.call (wF_yes rfl rfl rfl c45) rfl rfl (E.call Tryz.call90 (A2 rfl rfl)) (w_impl_IsAssignment S33.sl a0.vars v1 a1 (p1.mono i27) hr47) ?_
   rintro e w48 ⟨rfl, r49⟩
   refine ⟨_, rfl, ?_⟩
   have S50 := S33.call r49
   refine FL.val (wF_yes rfl rfl rfl c45) rfl rfl (E.not rfl) ?_
   obtain rfl := Option.some.inj hp
   refine FL.v (E.pickF rfl c45 rfl) ?_
   exact FL.nil ⟨rfl, _, S50, (Inc.rfl _), rfl, rfl, rfl⟩
 rintro f44 w43 ⟨H40, S41, i42, k51, k52, k53⟩
 refine FL.nil ?_
 rcases ifB hp with ⟨c54, hp⟩ | ⟨c54, hp⟩
 ·
  refine FW.condT k53 c54 ?_
  refine FW.seq (FW.region ?_)
  refine FL.v (E.assign (v := Value.slice none 0 0) rfl) ?_
  refine FL.v (E.assign (v := Value.bool false) rfl) ?_
  refine FL.nil ?_
  refine FW.ret ?_
  obtain rfl := Option.some.inj hp
  exact ⟨.inr rfl, res2 rfl rfl rfl ⟨_, _, _, _, rfl, (S41.nil 47 2), Els.nil⟩⟩
 ·
  refine FW.condF k53 c54 ?_
  refine FW.skip (FW.seq (FW.region ?_))
  refine FL.v (E.fieldAddr tf26_1 k52) ?_
  refine FL.v (E.load rfl (run_load1 Tryz.isAgg24 ((at28.mono i42).now S41.sl) rfl)) ?_
  refine FL.v (E.move k51) ?_
  obtain ⟨r55, hr56, hp⟩ := bnd hp
  refine FL.call rfl rfl rfl (E.call Tryz.call91 (A2 rfl rfl)) (w_impl_propagate S41.sl v0_1 a0.clauses (p0_1.mono (i27.tr i42)) v1 a1 (p1.mono (i27.tr i42)) hr56) ?_
  rintro e w58 ⟨H57, v61, v64, n65, cs66, rfl, r60, h62, els67⟩
  refine ⟨_, rfl, ?_⟩
  have nv63 : New H40 [v61] := New.of_up S41.sl h62.dom
  have h62 := h62.mono (up_le S41.size)
  have els67 := els67.mono (up_le S41.size)
  have S59 := S41.join (l' := [.row 47 2 v64 n65 cs66]) r60 rfl
  refine FL.v (E.move (v := Value.tuple #[v61, v64, Value.bool r55.2.2]) rfl) ?_
  refine FL.v (E.extract (i := 0) rfl rfl) ?_
  refine FL.v (E.extract (i := 1) rfl rfl) ?_
  refine FL.v (E.extract (i := 2) rfl rfl) ?_
  refine FL.v (E.assign (v := v61) rfl) ?_
  refine FL.v (E.assign (v := v64) rfl) ?_
  refine FL.v (E.assign (v := Value.bool r55.2.2) rfl) ?_
  refine FL.nil (FW.seq (FW.region ?_))
  refine FL.v (E.move (v := v64) rfl) ?_
  refine FL.v (E.assign (v := v64) rfl) ?_
  refine FL.v (E.assign (v := Value.bool true) rfl) ?_
  refine FL.nil ?_
  refine FW.ret ?_
  obtain rfl := Option.some.inj hp
  exact ⟨.inr rfl, res2 rfl rfl rfl ⟨_, _, _, _, rfl, S59, els67⟩⟩

@[reducible] def p_spec_PropagationSteps (Ha : GH) (wa : World) (r : ((List (Int × Int)) × Bool)) : Ending → World → Prop :=
 fun e w' => ∃ H' : GH, ∃ v0 : Value, ∃ n0 : Nat, ∃ c0 : List Value, e = .returned (Value.tuple #[v0, Value.bool r.2]) ∧ St Ha wa H' w' [.row 47 2 v0 n0 c0] ∧ Els (up wa.heap.size H') eI2 2 c0 r.1
theorem w_spec_PropagationSteps {Ha : GH} {wa : World} (hs : Sl Ha wa) (a0 : Cnf) (v0_1 : Value) (p0_1 : RSl Ha (eL eI 1) 1 v0_1 a0.clauses) (v1 : Value) (a1 : List Int) (p1 : RSl Ha eI 1 v1 a1) {r : ((List (Int × Int)) × Bool)} (hp : (PF.spec_PropagationSteps a0 a1) = some r) :
  Calls Tryz.prog 23 #[Value.agg #[Value.int .i64 a0.vars, v0_1], v1] wa (p_spec_PropagationSteps Ha wa r) := by
 unfold PF.spec_PropagationSteps at hp
 have S0 := St.init hs
 refine calls_go (N := 22) (args := [Value.agg #[Value.int .i64 a0.vars, v0_1], v1]) Tryz.func23 rfl rfl rfl ?_
 refine FW.seq (FW.region ?_)
 obtain ⟨b21, w22, run23, S24⟩ := S0.box (P := Tryz.prog) 26 [Value.int .i64 a0.vars, v0_1] (v := Value.agg #[Value.int .i64 a0.vars, v0_1]) rfl (ones_cons rfl (ones_cons p0_1.one ones_nil))
 refine FL.v (E.box rfl run23) ?_
 obtain ⟨H25, S26, i27, at28⟩ := S24.sealBox (i := 0) (l' := []) rfl rfl
 refine FL.v (E.assign (v := Value.slice none 0 0) rfl) ?_
 refine FL.v (E.assign (v := Value.bool false) rfl) ?_
 refine FL.nil (FW.seq (FW.seq (FW.region ?_)))
 refine FL.v (E.load rfl (run_loadA Tryz.isAgg26 Tryz.sizeOf26 (at28.now S26.sl) rfl)) ?_
 refine FL.v (E.move (v := v1) rfl) ?_
 obtain ⟨r29, hr30, hp⟩ := bnd hp
 refine FL.call rfl rfl rfl (E.call Tryz.call92 (A2 rfl rfl)) (w_spec_l3Asked S26.sl a0 v0_1 (p0_1.mono i27) v1 a1 (p1.mono i27) hr30) ?_
 rintro e w31 ⟨rfl, r32⟩
 refine ⟨_, rfl, ?_⟩
 have S33 := S26.call r32
 refine FL.v (E.not rfl) ?_
 refine FL.nil ?_
 rcases ifB hp with ⟨c34, hp⟩ | ⟨c34, hp⟩
 ·
  refine FW.condT rfl c34 ?_
  refine FW.seq (FW.region ?_)
  obtain ⟨v35, w36, run37, S38⟩ := S33.buildSlice (P := Tryz.prog) te44 [] (parts := #[]) (cells := []) rfl szs_nil fc_nil ones_nil (Nat.le_of_ble_eq_true rfl)
  have els39 : Els (up wa.heap.size H25) eI2 2 [] [] := Els.nil
  refine FL.v (E.buildSlice (B0) run37) ?_
  refine FL.v (E.assign (v := v35) rfl) ?_
  refine FL.v (E.assign (v := Value.bool false) rfl) ?_
  refine FL.nil ?_
  refine FW.ret ?_
  obtain rfl := Option.some.inj hp
  exact ⟨.inr rfl, res2 rfl rfl rfl ⟨_, _, _, _, rfl, S38, els39⟩⟩
 ·
  refine FW.condF rfl c34 ?_
  refine FW.skip (FW.seq (FW.region ?_))
  refine FL.v (E.load rfl (run_loadA Tryz.isAgg26 Tryz.sizeOf26 (at28.now S33.sl) rfl)) ?_
  refine FL.v (E.move (v := v1) rfl) ?_
  obtain ⟨r40, hr41, hp⟩ := bnd hp
  refine FL.call rfl rfl rfl (E.call Tryz.call93 (A2 rfl rfl)) (w_spec_l3Steps S33.sl a0 v0_1 (p0_1.mono i27) v1 a1 (p1.mono i27) hr41) ?_
  rintro e w43 ⟨H42, v46, n47, cs48, v50, n51, cs52, rfl, r45, els49, els53⟩
  refine ⟨_, rfl, ?_⟩
  have els49 := els49.mono (up_le S33.size)
  have els53 := els53.mono (up_le S33.size)
  have S44 := S33.join (l' := [.row 47 2 v46 n47 cs48, .row 3 1 v50 n51 cs52]) r45 rfl
  refine FL.v (E.move (v := Value.tuple #[v46, v50, Value.bool r40.2.2]) rfl) ?_
  refine FL.v (E.extract (i := 0) rfl rfl) ?_
  refine FL.v (E.extract (i := 1) rfl rfl) ?_
  refine FL.v (E.extract (i := 2) rfl rfl) ?_
  refine FL.v (E.assign (v := v46) rfl) ?_
  refine FL.v (E.assign (v := v50) rfl) ?_
  refine FL.v (E.assign (v := Value.bool r40.2.2) rfl) ?_
  refine FL.nil (FW.seq (FW.region ?_))
  refine FL.v (E.move (v := v46) rfl) ?_
  refine FL.v (E.assign (v := v46) rfl) ?_
  refine FL.v (E.assign (v := Value.bool true) rfl) ?_
  refine FL.nil ?_
  refine FW.ret ?_
  obtain rfl := Option.some.inj hp
  exact ⟨.inr rfl, res2 rfl rfl rfl ⟨_, _, _, _, rfl, (S44.sel [0] (by decide) rfl), els49⟩⟩

@[reducible] def p_spec_DrawValueOfCnf (Ha : GH) (wa : World) (r : (Cnf × (List Int))) : Ending → World → Prop :=
 fun e w' => ∃ H' : GH, ∃ v0_1 : Value, ∃ v1 : Value, ∃ n1 : Nat, ∃ c1 : List Value, e = .returned (Value.tuple #[Value.agg #[Value.int .i64 r.1.vars, v0_1], v1]) ∧ St Ha wa H' w' [.row 3 1 v1 n1 c1] ∧ RSl (up wa.heap.size H') (eL eI 1) 1 v0_1 r.1.clauses ∧ Els (up wa.heap.size H') eI 1 c1 r.2
theorem w_spec_DrawValueOfCnf {Ha : GH} {wa : World} (hs : Sl Ha wa) (v0 : Value) (a0 : List Int) (p0 : RSl Ha (eN .u8) 1 v0 a0) {r : (Cnf × (List Int))} (hp : (PF.spec_DrawValueOfCnf a0) = some r) :
  Calls Tryz.prog 99 #[v0] wa (p_spec_DrawValueOfCnf Ha wa r) := by
 unfold PF.spec_DrawValueOfCnf at hp
 have S0 := St.init hs
 refine calls_go (N := 16) (args := [v0]) Tryz.func99 rfl rfl rfl ?_
 refine FW.seq (FW.region ?_)
 obtain ⟨b21, w22, run23, S24⟩ := S0.alloc (P := Tryz.prog) 26 [Value.int .i64 0, Value.slice none 0 0] Tryz.zeroValue26 rfl (ones_cons rfl (ones_cons rfl ones_nil))
 refine FL.v (E.alloc run23) ?_
 refine FL.v (E.assign (v := Value.slice none 0 0) rfl) ?_
 refine FL.nil (FW.seq (FW.region ?_))
 refine FL.v (E.move (v := v0) rfl) ?_
 refine FL.v (E.build (B1 rfl) (run_build _ 92 #[(0, v0)] #[v0, Value.int .i64 0, Value.int .u64 0] (by obtain ⟨_, _, rfl⟩ := RSl.ln p0; rfl))) ?_
 obtain ⟨b25, w26, run27, S28⟩ := S24.box (P := Tryz.prog) 92 [v0, Value.int .i64 0, Value.int .u64 0] (v := Value.agg #[v0, Value.int .i64 0, Value.int .u64 0]) rfl (ones_cons p0.one (ones_cons rfl (ones_cons rfl ones_nil)))
 refine FL.v (E.box rfl run27) ?_
 refine FL.v (E.assign (v := Value.pointer (some (⟨b25, 0, none⟩ : Addr))) rfl) ?_
 refine FL.nil (FW.seq (FW.region ?_))
 refine FL.v (E.move (v := Value.pointer (some (⟨b25, 0, none⟩ : Addr))) rfl) ?_
 obtain ⟨r29, hr30, hp⟩ := bnd hp
 refine FL.call rfl rfl rfl (E.call Tryz.call67 (A1 rfl)) (w_spec_l1Cur_cnf (L := [.box b21 26 [Value.int .i64 0, Value.slice none 0 0]]) S28 (a0 := (l1Cur.mk a0 0 0)) p0 hr30) ?_
 rintro e w32 ⟨H31, v35, v37, rfl, ⟨S33, i34⟩, h36, h38⟩
 refine ⟨_, rfl, ?_⟩
 have S33 : St Ha wa H31 w32 [.box b25 92 [v37, Value.int .i64 r29.2.at_, Value.int .u64 r29.2.seed], .box b21 26 [Value.int .i64 0, Value.slice none 0 0]] := S33
 obtain ⟨b39, w40, run41, S42⟩ := S33.alloc (P := Tryz.prog) 26 [Value.int .i64 0, Value.slice none 0 0] Tryz.zeroValue26 rfl (ones_cons rfl (ones_cons rfl ones_nil))
 refine FL.v (E.alloc run41) ?_
 obtain ⟨w43, run44, S45⟩ := S42.store0 (P := Tryz.prog) (t := 26) (i := 0) (cs' := [Value.int .i64 r29.1.vars, v35]) (l' := [.box b39 26 [Value.int .i64 r29.1.vars, v35], .box b25 92 [v37, Value.int .i64 r29.2.at_, Value.int .u64 r29.2.seed], .box b21 26 [Value.int .i64 0, Value.slice none 0 0]]) (v := Value.agg #[Value.int .i64 r29.1.vars, v35]) (c := [Value.int .i64 r29.1.vars, v35]) rfl Tryz.sizeOf26 rfl rfl (ones_cons rfl (ones_cons h36.one ones_nil)) (Nat.le_of_ble_eq_true rfl) rfl rfl
 refine FL.act rfl rfl (E.store rfl rfl run44) ?_
 obtain ⟨H46, S47, i48, at49⟩ := S45.sealBox (i := 0) (l' := [.box b25 92 [v37, Value.int .i64 r29.2.at_, Value.int .u64 r29.2.seed], .box b21 26 [Value.int .i64 0, Value.slice none 0 0]]) rfl rfl
 refine FL.nil (FW.seq ?_)
 obtain ⟨r53, hr54, hp⟩ := bnd hp
 refine FW.drawB (Sl H46) (fun f w => ∃ H : GH, ∃ v68 : Value, ∃ v70 : Value, ∃ n71 : Nat, ∃ cs72 : List Value, St Ha wa H w [.box b21 26 [Value.int .i64 r29.1.vars, v68], .row 3 1 v70 n71 cs72] ∧ Inc H46 H ∧ RSl (up wa.heap.size H) (eL eI 1) 1 v68 r29.1.clauses ∧ Els (up wa.heap.size H) eI 1 cs72 r53.1 ∧ f 2 = Value.pointer (some (⟨b21, 0, none⟩ : Addr)) ∧ f 3 = v70) (by kernel_rfl) S47.sl ?_ ?_
 ·
  intro w50 r51
  have S52 := S47.call r51
  refine FB.t (i := 0) (bs 7 1) rfl (SP.nil S52.sl) rfl (fun w' hw' => (E.load rfl (run_loadA Tryz.isAgg26 Tryz.sizeOf26 (at49.now hw') rfl))) ?_
  refine FB.t (i := 1) (bs 7 3) rfl (SP.nil S52.sl) rfl (fun w' hw' => (E.move (v := Value.pointer (some (⟨b25, 0, none⟩ : Addr))) rfl)) ?_
  refine FB.t (i := 2) (bs 7 7) rfl (SP.nil S52.sl) rfl (fun w' hw' => (E.fieldAddr tf26_0 rfl)) ?_
  refine FB.t (i := 3) (bs 7 15) rfl (SP.nil S52.sl) rfl (fun w' hw' => (E.load rfl (run_load1 Tryz.isAgg3 (at49.now hw') rfl))) ?_
  refine FB.all1 (i := 4) (by kernel_rfl) ?_
  ·
   refine FC.call (l' := (bs 7 31)) rfl (by kernel_rfl) rfl rfl rfl (E.call Tryz.call89 (A2 rfl rfl)) (w_spec_l1Cur_anyAssignment (L := [.box b21 26 [Value.int .i64 0, Value.slice none 0 0]]) S52 (a0 := r29.2) (h38.mono i48) r29.1.vars hr54) ?_
   rintro e w56 ⟨H55, v59, n60, cs61, v63, rfl, ⟨S57, i58⟩, els62, h64⟩
   refine ⟨_, rfl, ?_⟩
   have S57 : St Ha wa H55 w56 [.row 3 1 v59 n60 cs61, .box b25 92 [v63, Value.int .i64 r53.2.at_, Value.int .u64 r53.2.seed], .box b21 26 [Value.int .i64 0, Value.slice none 0 0]] := S57
   refine ⟨(SP.nil (Sl.of_inc i58 S57.sl)), ?_⟩
   refine FB.all1 (i := 5) (by kernel_rfl) ?_
   ·
    obtain ⟨w65, run66, S67⟩ := S57.store0 (P := Tryz.prog) (t := 26) (i := 2) (cs' := [Value.int .i64 r29.1.vars, v35]) (l' := [.row 3 1 v59 n60 cs61, .box b25 92 [v63, Value.int .i64 r53.2.at_, Value.int .u64 r53.2.seed], .box b21 26 [Value.int .i64 r29.1.vars, v35]]) (v := Value.agg #[Value.int .i64 r29.1.vars, v35]) (c := [Value.int .i64 r29.1.vars, v35]) rfl Tryz.sizeOf26 rfl rfl (ones_cons rfl (ones_cons h36.one ones_nil)) (Nat.le_of_ble_eq_true rfl) rfl rfl
    refine FC.act (l' := (bs 7 63)) rfl (by kernel_rfl) rfl rfl (E.store rfl rfl run66) ?_
    refine ⟨(SP.nil (Sl.of_inc i58 S67.sl)), ?_⟩
    refine FB.t (i := 6) (bs 7 127) rfl (SP.nil (Sl.of_inc i58 S67.sl)) rfl (fun w' hw' => (E.assign (v := v59) rfl)) ?_
    exact FB.done (by kernel_rfl) ⟨_, _, _, _, _, (S67.sel [2, 0] (by decide) rfl), i58, (h36.mono (up_mono (i48.tr i58))), els62, rfl, rfl⟩
 ·
  rintro f78 w77 ⟨H74, v68, v70, n71, cs72, S75, i76, h69, els73, k79, k80⟩
  refine FW.ret ?_
  obtain rfl := Option.some.inj hp
  exact ⟨.inr rfl, resC2 rfl k79 (loadVar_A Tryz.isAgg26 Tryz.sizeOf26 (S75.box_now (i := 0) rfl) rfl) k80 ⟨_, _, _, _, _, rfl, (S75.sel [1] (by decide) rfl), h69, els73⟩⟩

@[reducible] def p_spec_DrawIsAutarky (Ha : GH) (wa : World) (r : (Cnf × (List Int))) : Ending → World → Prop :=
 fun e w' => ∃ H' : GH, ∃ v0_1 : Value, ∃ v1 : Value, ∃ n1 : Nat, ∃ c1 : List Value, e = .returned (Value.tuple #[Value.agg #[Value.int .i64 r.1.vars, v0_1], v1]) ∧ St Ha wa H' w' [.row 3 1 v1 n1 c1] ∧ RSl (up wa.heap.size H') (eL eI 1) 1 v0_1 r.1.clauses ∧ Els (up wa.heap.size H') eI 1 c1 r.2
theorem w_spec_DrawIsAutarky {Ha : GH} {wa : World} (hs : Sl Ha wa) (v0 : Value) (a0 : List Int) (p0 : RSl Ha (eN .u8) 1 v0 a0) {r : (Cnf × (List Int))} (hp : (PF.spec_DrawIsAutarky a0) = some r) :
  Calls Tryz.prog 24 #[v0] wa (p_spec_DrawIsAutarky Ha wa r) := by
 unfold PF.spec_DrawIsAutarky at hp
 have S0 := St.init hs
 refine calls_go (N := 8) (args := [v0]) Tryz.func24 rfl rfl rfl ?_
 refine FW.seq (FW.region ?_)
 obtain ⟨b21, w22, run23, S24⟩ := S0.alloc (P := Tryz.prog) 26 [Value.int .i64 0, Value.slice none 0 0] Tryz.zeroValue26 rfl (ones_cons rfl (ones_cons rfl ones_nil))
 refine FL.v (E.alloc run23) ?_
 refine FL.v (E.assign (v := Value.slice none 0 0) rfl) ?_
 refine FL.nil (FW.seq (FW.region ?_))
 refine FL.v (E.move (v := v0) rfl) ?_
 obtain ⟨r25, hr26, hp⟩ := bnd hp
 refine FL.call rfl rfl rfl (E.call Tryz.call99 (A1 rfl)) (w_spec_DrawValueOfCnf S24.sl v0 a0 p0 hr26) ?_
 rintro e w28 ⟨H27, v31, v34, n35, cs36, rfl, r30, h32, els37⟩
 refine ⟨_, rfl, ?_⟩
 have nv33 : New Ha [v31] := New.of_up S24.sl h32.dom
 have h32 := h32.mono (up_le S24.size)
 have els37 := els37.mono (up_le S24.size)
 have S29 := S24.join (l' := [.row 3 1 v34 n35 cs36, .box b21 26 [Value.int .i64 0, Value.slice none 0 0]]) r30 rfl
 refine FL.v (E.extract (i := 0) rfl rfl) ?_
 refine FL.v (E.extract (i := 1) rfl rfl) ?_
 obtain ⟨w38, run39, S40⟩ := S29.store0 (P := Tryz.prog) (t := 26) (i := 1) (cs' := [Value.int .i64 r25.1.vars, v31]) (l' := [.row 3 1 v34 n35 cs36, .box b21 26 [Value.int .i64 r25.1.vars, v31]]) (v := Value.agg #[Value.int .i64 r25.1.vars, v31]) (c := [Value.int .i64 r25.1.vars, v31]) rfl Tryz.sizeOf26 rfl rfl (ones_cons rfl (ones_cons h32.one ones_nil)) (Nat.le_of_ble_eq_true rfl) rfl rfl
 refine FL.act rfl rfl (E.store rfl rfl run39) ?_
 obtain ⟨H41, S42, i43, at44⟩ := S40.sealBox (i := 1) (l' := [.row 3 1 v34 n35 cs36]) rfl rfl
 refine FL.v (E.assign (v := v34) rfl) ?_
 refine FL.nil ?_
 refine FW.ret ?_
 obtain rfl := Option.some.inj hp
 exact ⟨.inr rfl, resC2 rfl rfl (loadVar_A Tryz.isAgg26 Tryz.sizeOf26 (at44.now S42.sl) rfl) rfl ⟨_, _, _, _, _, rfl, S42, (h32.mono (up_mono i43)), (els37.mono (up_mono i43))⟩⟩

theorem w_impl_touches_1 {Ha : GH} {wa : World} (hs : Sl Ha wa) (a0 : Int) (q0 : Addr) (b0 : List Int) (u0_0 : Value) (g0_0 : RSl Ha eI 1 u0_0 b0) (c0 : CAt Ha q0 [u0_0]) {r : Bool} (hp : (PF.impl_touches_1 a0 b0) = some r) :
  Calls Tryz.prog 202 #[Value.int .i64 a0, Value.pointer (some q0)] wa (Sc Ha wa (Value.bool r)) := by
 unfold PF.impl_touches_1 at hp
 have S0 := St.init hs
 refine calls_go (N := 13) (args := [Value.int .i64 a0, Value.pointer (some q0)]) Tryz.func202 rfl rfl rfl ?_
 refine FW.seq (FW.region ?_)
 refine FL.v (E.assign (v := Value.bool false) rfl) ?_
 refine FL.nil (FW.seq (FW.region ?_))
 refine FL.v (E.load rfl (run_load0 Tryz.isAgg34 (c0.now S0.sl) rfl)) ?_
 refine FL.v (E.move (v := Value.int .i64 a0) rfl) ?_
 obtain ⟨r21, hr22, hp⟩ := bnd hp
 refine FL.call rfl rfl rfl (E.call Tryz.call74 (A2 rfl rfl)) (w_slices_Contains_int_int S0.sl u0_0 b0 g0_0 a0 hr22) ?_
 rintro e w23 ⟨rfl, r24⟩
 refine ⟨_, rfl, ?_⟩
 have S25 := S0.call r24
 refine FL.v (E.move (v := Value.bool r21) rfl) ?_
 obtain ⟨t31, hqt31, hp⟩ := bnd hp
 refine FL.cut 5 (fun f w => ∃ H : GH, St Ha wa H w [] ∧ Inc Ha H ∧ f 12 = Value.bool t31) ?_ ?_
 ·
  clear hp; have hp := hqt31; clear hqt31
  rcases ifB hp with ⟨c37, hp⟩ | ⟨c37, hp⟩
  ·
   refine FL.skip (wF_no rfl rfl rfl c37) rfl ?_
   refine FL.skip (wF_no rfl rfl rfl c37) rfl ?_
   refine FL.skip (wF_no rfl rfl rfl c37) rfl ?_
   refine FL.skip (wF_no rfl rfl rfl c37) rfl ?_
   obtain rfl := Option.some.inj hp
   refine FL.v (E.pickT rfl c37 rfl) ?_
   exact FL.nil ⟨rfl, _, S25, (Inc.rfl _), rfl⟩
  ·
   refine FL.val (wF_yes rfl rfl rfl c37) rfl rfl (E.load rfl (run_load0 Tryz.isAgg34 (c0.now S25.sl) rfl)) ?_
   refine FL.val (wF_yes rfl rfl rfl c37) rfl rfl (E.move (v := Value.int .i64 a0) rfl) ?_
   refine FL.val (wF_yes rfl rfl rfl c37) rfl rfl (E.neg rfl) ?_
   obtain ⟨r38, hr39, hp⟩ := bnd hp
   refine FL.call (wF_yes rfl rfl rfl c37) rfl rfl (E.call Tryz.call74 (A2 rfl rfl)) (w_slices_Contains_int_int S25.sl u0_0 b0 g0_0 (wr (-a0)) hr39) ?_
   rintro e w40 ⟨rfl, r41⟩
   refine ⟨_, rfl, ?_⟩
   have S42 := S25.call r41
   obtain rfl := Option.some.inj hp
   refine FL.v (E.pickF rfl c37 rfl) ?_
   exact FL.nil ⟨rfl, _, S42, (Inc.rfl _), rfl⟩
 rintro f36 w35 ⟨H32, S33, i34, k43⟩
 refine FL.v (E.assign k43) ?_
 refine FL.nil ?_
 refine FW.ret ?_
 obtain rfl := Option.some.inj hp
 exact ⟨.inr rfl, res1 rfl rfl ⟨rfl, S33.back⟩⟩

theorem w_impl_touches {Ha : GH} {wa : World} (hs : Sl Ha wa) (v0 : Value) (a0 : List Int) (p0 : RSl Ha eI 1 v0 a0) (v1 : Value) (a1 : List Int) (p1 : RSl Ha eI 1 v1 a1) {r : Bool} (hp : (PF.impl_touches a0 a1) = some r) :
  Calls Tryz.prog 102 #[v0, v1] wa (Sc Ha wa (Value.bool r)) := by
 unfold PF.impl_touches at hp
 have S0 := St.init hs
 refine calls_go (N := 8) (args := [v0, v1]) Tryz.func102 rfl rfl rfl ?_
 refine FW.seq (FW.region ?_)
 obtain ⟨b21, w22, run23, S24⟩ := S0.box (P := Tryz.prog) 34 [v1] (v := v1) p1.cells (ones_cons p1.one ones_nil)
 refine FL.v (E.box rfl run23) ?_
 obtain ⟨H25, S26, i27, at28⟩ := S24.sealBox (i := 0) (l' := []) rfl rfl
 refine FL.v (E.assign (v := Value.bool false) rfl) ?_
 refine FL.nil (FW.seq (FW.region ?_))
 refine FL.v (E.move (v := v0) rfl) ?_
 refine FL.v (E.makeFunc A0 (A1 rfl)) ?_
 obtain ⟨r29, hr30, hp⟩ := bnd hp
 refine FL.call rfl rfl rfl (E.call Tryz.call200 (A2 rfl rfl)) (w_slices_ContainsFunc_int_int S26.sl v0 a0 (p0.mono i27) (Value.func (.func 202) #[] #[Value.pointer (some ⟨b21, 0, none⟩)]) (fun x0 => PF.impl_touches_1 x0 a1) (fun H2 w2 hi2 hs2 x0 r hr => ⟨202, #[Value.pointer (some ⟨b21, 0, none⟩)], rfl, Tryz.call202, w_impl_touches_1 hs2 x0 ⟨b21, 0, none⟩ a1 v1 ((p1.mono i27).mono hi2) (at28.mono hi2) hr⟩) hr30) ?_
 rintro e w31 ⟨rfl, r32⟩
 refine ⟨_, rfl, ?_⟩
 have S33 := S26.call r32
 refine FL.v (E.assign (v := Value.bool r29) rfl) ?_
 refine FL.nil ?_
 refine FW.ret ?_
 obtain rfl := Option.some.inj hp
 exact ⟨.inr rfl, res1 rfl rfl ⟨rfl, S33.back⟩⟩

theorem w_impl_IsAutarky_1 {Ha : GH} {wa : World} (hs : Sl Ha wa) (v0 : Value) (a0 : List Int) (p0 : RSl Ha eI 1 v0 a0) (q0 : Addr) (b0 : List Int) (u0_0 : Value) (g0_0 : RSl Ha eI 1 u0_0 b0) (c0 : CAt Ha q0 [u0_0]) {r : Bool} (hp : (PF.impl_IsAutarky_1 a0 b0) = some r) :
  Calls Tryz.prog 101 #[v0, Value.pointer (some q0)] wa (Sc Ha wa (Value.bool r)) := by
 unfold PF.impl_IsAutarky_1 at hp
 have S0 := St.init hs
 refine calls_go (N := 13) (args := [v0, Value.pointer (some q0)]) Tryz.func101 rfl rfl rfl ?_
 refine FW.seq (FW.region ?_)
 refine FL.v (E.assign (v := Value.bool false) rfl) ?_
 refine FL.nil (FW.seq (FW.region ?_))
 refine FL.v (E.move (v := v0) rfl) ?_
 refine FL.v (E.load rfl (run_load0 Tryz.isAgg34 (c0.now S0.sl) rfl)) ?_
 obtain ⟨r21, hr22, hp⟩ := bnd hp
 refine FL.call rfl rfl rfl (E.call Tryz.call102 (A2 rfl rfl)) (w_impl_touches S0.sl v0 a0 p0 u0_0 b0 g0_0 hr22) ?_
 rintro e w23 ⟨rfl, r24⟩
 refine ⟨_, rfl, ?_⟩
 have S25 := S0.call r24
 refine FL.v (E.move (v := Value.bool r21) rfl) ?_
 obtain ⟨t31, hqt31, hp⟩ := bnd hp
 refine FL.cut 5 (fun f w => ∃ H : GH, St Ha wa H w [] ∧ Inc Ha H ∧ f 12 = Value.bool t31) ?_ ?_
 ·
  clear hp; have hp := hqt31; clear hqt31
  rcases ifB hp with ⟨c37, hp⟩ | ⟨c37, hp⟩
  ·
   refine FL.val (wF_yes rfl rfl rfl c37) rfl rfl (E.move (v := v0) rfl) ?_
   refine FL.val (wF_yes rfl rfl rfl c37) rfl rfl (E.load rfl (run_load0 Tryz.isAgg34 (c0.now S25.sl) rfl)) ?_
   obtain ⟨r38, hr39, hp⟩ := bnd hp
   refine FL.call (wF_yes rfl rfl rfl c37) rfl rfl (E.call Tryz.call103 (A2 rfl rfl)) (w_impl_clauseValue S25.sl v0 a0 p0 u0_0 b0 g0_0 hr39) ?_
   rintro e w40 ⟨rfl, r41⟩
   refine ⟨_, rfl, ?_⟩
   have S42 := S25.call r41
   refine FL.val (wF_yes rfl rfl rfl c37) rfl rfl (E.lss rfl rfl) ?_
   obtain rfl := Option.some.inj hp
   refine FL.v (E.pickT rfl c37 rfl) ?_
   exact FL.nil ⟨rfl, _, S42, (Inc.rfl _), rfl⟩
  ·
   refine FL.skip (wF_no rfl rfl rfl c37) rfl ?_
   refine FL.skip (wF_no rfl rfl rfl c37) rfl ?_
   refine FL.skip (wF_no rfl rfl rfl c37) rfl ?_
   refine FL.skip (wF_no rfl rfl rfl c37) rfl ?_
   obtain rfl := Option.some.inj hp
   refine FL.v (E.pickF rfl c37 rfl) ?_
   exact FL.nil ⟨rfl, _, S25, (Inc.rfl _), rfl⟩
 rintro f36 w35 ⟨H32, S33, i34, k43⟩
 refine FL.v (E.assign k43) ?_
 refine FL.nil ?_
 refine FW.ret ?_
 obtain rfl := Option.some.inj hp
 exact ⟨.inr rfl, res1 rfl rfl ⟨rfl, S33.back⟩⟩

theorem w_impl_IsAutarky {Ha : GH} {wa : World} (hs : Sl Ha wa) (a0 : Cnf) (v0_1 : Value) (p0_1 : RSl Ha (eL eI 1) 1 v0_1 a0.clauses) (v1 : Value) (a1 : List Int) (p1 : RSl Ha eI 1 v1 a1) {r : (Bool × Bool)} (hp : (PF.impl_IsAutarky a0 a1) = some r) :
  Calls Tryz.prog 25 #[Value.agg #[Value.int .i64 a0.vars, v0_1], v1] wa (Sc Ha wa (Value.tuple #[Value.bool r.1, Value.bool r.2])) := by
 unfold PF.impl_IsAutarky at hp
 have S0 := St.init hs
 refine calls_go (N := 21) (args := [Value.agg #[Value.int .i64 a0.vars, v0_1], v1]) Tryz.func25 rfl rfl rfl ?_
 refine FW.seq (FW.region ?_)
 obtain ⟨b21, w22, run23, S24⟩ := S0.box (P := Tryz.prog) 26 [Value.int .i64 a0.vars, v0_1] (v := Value.agg #[Value.int .i64 a0.vars, v0_1]) rfl (ones_cons rfl (ones_cons p0_1.one ones_nil))
 refine FL.v (E.box rfl run23) ?_
 obtain ⟨H25, S26, i27, at28⟩ := S24.sealBox (i := 0) (l' := []) rfl rfl
 obtain ⟨b29, w30, run31, S32⟩ := S26.box (P := Tryz.prog) 34 [v1] (v := v1) p1.cells (ones_cons p1.one ones_nil)
 refine FL.v (E.box rfl run31) ?_
 obtain ⟨H33, S34, i35, at36⟩ := S32.sealBox (i := 0) (l' := []) rfl rfl
 refine FL.v (E.assign (v := Value.bool false) rfl) ?_
 refine FL.v (E.assign (v := Value.bool false) rfl) ?_
 refine FL.nil (FW.seq (FW.seq (FW.region ?_)))
 refine FL.v (E.load rfl (run_loadA Tryz.isAgg26 Tryz.sizeOf26 ((at28.mono i35).now S34.sl) rfl)) ?_
 obtain ⟨r37, hr38, hp⟩ := bnd hp
 refine FL.call rfl rfl rfl (E.call Tryz.call72 (A1 rfl)) (w_impl_IsCnf S34.sl a0 v0_1 (p0_1.mono (i27.tr i35)) hr38) ?_
 rintro e w39 ⟨rfl, r40⟩
 refine ⟨_, rfl, ?_⟩
 have S41 := S34.call r40
 refine FL.v (E.not rfl) ?_
 refine FL.v (E.move (v := Value.bool (!r37)) rfl) ?_
 obtain ⟨t47, hqt47, hp⟩ := bnd hp
 refine FL.cut 6 (fun f w => ∃ H : GH, St Ha wa H w [] ∧ Inc H33 H ∧ f 2 = Value.pointer (some ⟨b21, 0, none⟩) ∧ f 3 = Value.pointer (some ⟨b29, 0, none⟩) ∧ f 15 = Value.bool t47) ?_ ?_
 ·
  clear hp; have hp := hqt47; clear hqt47
  rcases ifB hp with ⟨c53, hp⟩ | ⟨c53, hp⟩
  ·
   refine FL.skip (wF_no rfl rfl rfl c53) rfl ?_
   refine FL.skip (wF_no rfl rfl rfl c53) rfl ?_
   refine FL.skip (wF_no rfl rfl rfl c53) rfl ?_
   refine FL.skip (wF_no rfl rfl rfl c53) rfl ?_
   refine FL.skip (wF_no rfl rfl rfl c53) rfl ?_
   obtain rfl := Option.some.inj hp
   refine FL.v (E.pickT rfl c53 rfl) ?_
   exact FL.nil ⟨rfl, _, S41, (Inc.rfl _), rfl, rfl, rfl⟩
  ·
   refine FL.val (wF_yes rfl rfl rfl c53) rfl rfl (E.fieldAddr tf26_0 rfl) ?_
   refine FL.val (wF_yes rfl rfl rfl c53) rfl rfl (E.load rfl (run_load1 Tryz.isAgg3 ((at28.mono i35).now S41.sl) rfl)) ?_
   refine FL.val (wF_yes rfl rfl rfl c53) rfl rfl (E.load rfl (run_load0 Tryz.isAgg34 (at36.now S41.sl) rfl)) ?_
   obtain ⟨r54, hr55, hp⟩ := bnd hp
   refine FL.call (wF_yes rfl rfl rfl c53) rfl rfl (E.call Tryz.call90 (A2 rfl rfl)) (w_impl_IsAssignment S41.sl a0.vars v1 a1 (p1.mono (i27.tr i35)) hr55) ?_
   rintro e w56 ⟨rfl, r57⟩
   refine ⟨_, rfl, ?_⟩
   have S58 := S41.call r57
   refine FL.val (wF_yes rfl rfl rfl c53) rfl rfl (E.not rfl) ?_
   obtain rfl := Option.some.inj hp
   refine FL.v (E.pickF rfl c53 rfl) ?_
   exact FL.nil ⟨rfl, _, S58, (Inc.rfl _), rfl, rfl, rfl⟩
 rintro f52 w51 ⟨H48, S49, i50, k59, k60, k61⟩
 refine FL.nil ?_
 rcases ifB hp with ⟨c62, hp⟩ | ⟨c62, hp⟩
 ·
  refine FW.condT k61 c62 ?_
  refine FW.seq (FW.region ?_)
  refine FL.v (E.assign (v := Value.bool false) rfl) ?_
  refine FL.v (E.assign (v := Value.bool false) rfl) ?_
  refine FL.nil ?_
  refine FW.ret ?_
  obtain rfl := Option.some.inj hp
  exact ⟨.inr rfl, res2 rfl rfl rfl ⟨rfl, S49.back⟩⟩
 ·
  refine FW.condF k61 c62 ?_
  refine FW.skip (FW.seq (FW.region ?_))
  refine FL.v (E.fieldAddr tf26_1 k59) ?_
  refine FL.v (E.load rfl (run_load1 Tryz.isAgg24 ((at28.mono (i35.tr i50)).now S49.sl) rfl)) ?_
  refine FL.v (E.makeFunc A0 (A1 k60)) ?_
  obtain ⟨r63, hr64, hp⟩ := bnd hp
  refine FL.call rfl rfl rfl (E.call Tryz.call100 (A2 rfl rfl)) (w_slices_ContainsFunc_LLint_Lint S49.sl v0_1 a0.clauses (p0_1.mono ((i27.tr i35).tr i50)) (Value.func (.func 101) #[] #[Value.pointer (some ⟨b29, 0, none⟩)]) (fun x0 => PF.impl_IsAutarky_1 x0 a1) (fun H2 w2 hi2 hs2 x0 y0 z0 r hr => ⟨101, #[Value.pointer (some ⟨b29, 0, none⟩)], rfl, Tryz.call101, w_impl_IsAutarky_1 hs2 y0 x0 z0 ⟨b29, 0, none⟩ a1 v1 ((p1.mono ((i27.tr i35).tr i50)).mono hi2) ((at36.mono i50).mono hi2) hr⟩) hr64) ?_
  rintro e w65 ⟨rfl, r66⟩
  refine ⟨_, rfl, ?_⟩
  have S67 := S49.call r66
  refine FL.v (E.not rfl) ?_
  refine FL.v (E.assign (v := Value.bool (!r63)) rfl) ?_
  refine FL.v (E.assign (v := Value.bool true) rfl) ?_
  refine FL.nil ?_
  refine FW.ret ?_
  obtain rfl := Option.some.inj hp
  exact ⟨.inr rfl, res2 rfl rfl rfl ⟨rfl, S67.back⟩⟩

theorem w_spec_l2Meet {Ha : GH} {wa : World} (hs : Sl Ha wa) (v0 : Value) (a0 : List Int) (p0 : RSl Ha eI 1 v0 a0) (v1 : Value) (a1 : List Int) (p1 : RSl Ha eI 1 v1 a1) {r : Bool} (hp : (PF.spec_l2Meet a0 a1) = some r) :
  Calls Tryz.prog 104 #[v0, v1] wa (Sc Ha wa (Value.bool r)) := by
 unfold PF.spec_l2Meet at hp
 have S0 := St.init hs
 refine calls_go (N := 27) (args := [v0, v1]) Tryz.func104 rfl rfl rfl ?_
 refine FW.seq (FW.region ?_)
 refine FL.v (E.assign (v := Value.bool false) rfl) ?_
 refine FL.nil (FW.seq (FW.seq (FW.region ?_)))
 refine FL.v (E.assign (v := Value.int .i64 0) rfl) ?_
 refine FL.nil ?_
 obtain ⟨q22, hq, hp⟩ := bndR hp
 refine FW.block ?_
 refine FW.mono (FW.forL (S := Unit) (X := Bool) (fun (i22 : Nat) (s22 : Unit) f w => ∃ H : GH, St Ha wa H w [] ∧ Inc Ha H ∧ f 5 = Value.int .i64 ((i22 : Nat) : Int) ∧ f 0 = v0 ∧ f 1 = v1) (fun q e f w => match q with | .go s22 => e = Exit.exit 0 ∧ (∃ H : GH, St Ha wa H w [] ∧ Inc Ha H) | .rt x => ((e = Exit.ret) ∧ (fun e f w => (e = Exit.normal ∨ e = Exit.ret) ∧ ∀ a, Fr (δ := []) 27 a f → ∃ v, (results Tryz.f104 a.tmps).run Tryz.prog w = .ok v w ∧ (Sc Ha wa (Value.bool x)) (.returned v) w) e f w)) hq ⟨_, S0, (Inc.rfl _), rfl, rfl, rfl⟩ ?_ ?_) ?_
 ·
  clear hp hq
  rintro i22 y21 s22 f80 w79 ⟨H76, S77, i78, k81, k82, k83⟩ hx22 o129 hp
  refine FW.seq (FW.seq (FW.region ?_))
  refine FL.v (E.move k81) ?_
  refine FL.v (E.move k82) ?_
  refine FL.v (E.lenP te34 rfl p0) ?_
  refine FL.v (E.lssT rfl rfl (lss_len hx22)) ?_
  refine FL.nil ?_
  refine FW.condT rfl rfl ?_
  refine FW.skip (FW.seq (FW.block (FW.seq (FW.region ?_))))
  refine FL.v (E.move k83) ?_
  refine FL.v (E.move k82) ?_
  refine FL.v (E.move k81) ?_
  obtain ⟨p84, cs85, pt86, l87, at88, rel89⟩ := p0.at (ix_nat hx22)
  obtain rfl := eI_open rel89
  refine FL.v (E.indexAddr te34 rfl rfl pt86) ?_
  refine FL.v (E.load rfl (run_load0 Tryz.isAgg3 ((at88.mono i78).now S77.sl) rfl)) ?_
  obtain ⟨r90, hr91, hp⟩ := bnd hp
  refine FL.call rfl rfl rfl (E.call Tryz.call83 (A2 rfl rfl)) (w_spec_l2Has S77.sl v1 a1 (p1.mono i78) y21 hr91) ?_
  rintro e w92 ⟨rfl, r93⟩
  refine ⟨_, rfl, ?_⟩
  have S94 := S77.call r93
  refine FL.v (E.move (v := Value.bool r90) rfl) ?_
  obtain ⟨t106, hqt106, hp⟩ := bnd hp
  refine FL.cut 8 (fun f w => ∃ H : GH, St Ha wa H w [] ∧ Inc H76 H ∧ f 0 = v0 ∧ f 1 = v1 ∧ f 5 = Value.int .i64 ((i22 : Nat) : Int) ∧ f 26 = Value.bool t106) ?_ ?_
  ·
   clear hp; have hp := hqt106; clear hqt106
   rcases ifB hp with ⟨c112, hp⟩ | ⟨c112, hp⟩
   ·
    refine FL.skip (wF_no rfl rfl rfl c112) rfl ?_
    refine FL.skip (wF_no rfl rfl rfl c112) rfl ?_
    refine FL.skip (wF_no rfl rfl rfl c112) rfl ?_
    refine FL.skip (wF_no rfl rfl rfl c112) rfl ?_
    refine FL.skip (wF_no rfl rfl rfl c112) rfl ?_
    refine FL.skip (wF_no rfl rfl rfl c112) rfl ?_
    refine FL.skip (wF_no rfl rfl rfl c112) rfl ?_
    obtain rfl := Option.some.inj hp
    refine FL.v (E.pickT rfl c112 rfl) ?_
    exact FL.nil ⟨rfl, _, S94, (Inc.rfl _), k82, k83, k81, rfl⟩
   ·
    refine FL.val (wF_yes rfl rfl rfl c112) rfl rfl (E.move k83) ?_
    refine FL.val (wF_yes rfl rfl rfl c112) rfl rfl (E.move k82) ?_
    refine FL.val (wF_yes rfl rfl rfl c112) rfl rfl (E.move k81) ?_
    obtain ⟨p113, cs114, pt115, l116, at117, rel118⟩ := p0.at (ix_nat hx22)
    obtain rfl := eI_open rel118
    refine FL.val (wF_yes rfl rfl rfl c112) rfl rfl (E.indexAddr te34 rfl rfl pt115) ?_
    refine FL.val (wF_yes rfl rfl rfl c112) rfl rfl (E.load rfl (run_load0 Tryz.isAgg3 ((at117.mono i78).now S94.sl) rfl)) ?_
    refine FL.val (wF_yes rfl rfl rfl c112) rfl rfl (E.neg rfl) ?_
    obtain ⟨r119, hr120, hp⟩ := bnd hp
    refine FL.call (wF_yes rfl rfl rfl c112) rfl rfl (E.call Tryz.call83 (A2 rfl rfl)) (w_spec_l2Has S94.sl v1 a1 (p1.mono i78) (wr (-y21)) hr120) ?_
    rintro e w121 ⟨rfl, r122⟩
    refine ⟨_, rfl, ?_⟩
    have S123 := S94.call r122
    obtain rfl := Option.some.inj hp
    refine FL.v (E.pickF rfl c112 rfl) ?_
    exact FL.nil ⟨rfl, _, S123, (Inc.rfl _), k82, k83, k81, rfl⟩
  rintro f111 w110 ⟨H107, S108, i109, k124, k125, k126, k127⟩
  refine FL.nil ?_
  rcases ifB hp with ⟨c128, hp⟩ | ⟨c128, hp⟩
  ·
   refine FW.condT k127 c128 ?_
   refine FW.seq (FW.region ?_)
   refine FL.v (E.assign (v := Value.bool true) rfl) ?_
   refine FL.nil ?_
   refine FW.ret ?_
   obtain rfl := Option.some.inj hp
   exact ⟨nofun, rfl, ⟨.inr rfl, res1 rfl rfl ⟨rfl, S108.back⟩⟩⟩
  ·
   refine FW.condF k127 c128 ?_
   refine FW.skip (FW.region ?_)
   refine FL.v (E.move k126) ?_
   refine FL.v (E.add rfl rfl) ?_
   refine FL.v (E.assign (v := Value.int .i64 (wr (((i22 : Nat) : Int) + 1))) rfl) ?_
   refine FL.nil ?_
   obtain rfl := Option.some.inj hp
   exact ⟨rfl, ⟨_, S108, (i78.tr i109), (nat_succ rfl (lt_of_get hx22) (p0.mono (i78.tr i109)).le), k124, k125⟩⟩
 ·
  clear hp hq
  rintro s22 f139 w138 ⟨H135, S136, i137, k140, k141, k142⟩
  refine FW.seq (FW.seq (FW.region ?_))
  refine FL.v (E.move k140) ?_
  refine FL.v (E.move k141) ?_
  refine FL.v (E.lenP te34 rfl p0) ?_
  refine FL.v (E.lss rfl rfl) ?_
  refine FL.nil ?_
  refine FW.condF rfl dlt_len ?_
  refine FW.exit ?_
  exact ⟨nofun, rfl, ⟨_, S136, i137⟩⟩
 ·
  clear hq
  intro e f134 w133 hD
  rcases q22 with s22 | x22
  ·
   obtain ⟨rfl, hD⟩ := hD
   obtain ⟨H130, S131, i132⟩ := hD
   replace hp := el_go hp
   refine FW.seq (FW.region ?_)
   refine FL.v (E.assign (v := Value.bool false) rfl) ?_
   refine FL.nil ?_
   refine FW.ret ?_
   obtain rfl := Option.some.inj hp
   exact ⟨.inr rfl, res1 rfl rfl ⟨rfl, S131.back⟩⟩
  ·
   obtain ⟨he, hL⟩ := hD
   replace hp := el_rt hp
   obtain rfl := Option.some.inj hp
   subst he
   exact hL

theorem w_spec_IsAutarky {Ha : GH} {wa : World} (hs : Sl Ha wa) (a0 : Cnf) (v0_1 : Value) (p0_1 : RSl Ha (eL eI 1) 1 v0_1 a0.clauses) (v1 : Value) (a1 : List Int) (p1 : RSl Ha eI 1 v1 a1) {r : (Bool × Bool)} (hp : (PF.spec_IsAutarky a0 a1) = some r) :
  Calls Tryz.prog 26 #[Value.agg #[Value.int .i64 a0.vars, v0_1], v1] wa (Sc Ha wa (Value.tuple #[Value.bool r.1, Value.bool r.2])) := by
 unfold PF.spec_IsAutarky at hp
 have S0 := St.init hs
 refine calls_go (N := 35) (args := [Value.agg #[Value.int .i64 a0.vars, v0_1], v1]) Tryz.func26 rfl rfl rfl ?_
 refine FW.seq (FW.region ?_)
 obtain ⟨b21, w22, run23, S24⟩ := S0.box (P := Tryz.prog) 26 [Value.int .i64 a0.vars, v0_1] (v := Value.agg #[Value.int .i64 a0.vars, v0_1]) rfl (ones_cons rfl (ones_cons p0_1.one ones_nil))
 refine FL.v (E.box rfl run23) ?_
 obtain ⟨H25, S26, i27, at28⟩ := S24.sealBox (i := 0) (l' := []) rfl rfl
 refine FL.v (E.assign (v := Value.bool false) rfl) ?_
 refine FL.v (E.assign (v := Value.bool false) rfl) ?_
 refine FL.nil (FW.seq (FW.seq (FW.region ?_)))
 refine FL.v (E.load rfl (run_loadA Tryz.isAgg26 Tryz.sizeOf26 (at28.now S26.sl) rfl)) ?_
 refine FL.v (E.move (v := v1) rfl) ?_
 obtain ⟨r29, hr30, hp⟩ := bnd hp
 refine FL.call rfl rfl rfl (E.call Tryz.call92 (A2 rfl rfl)) (w_spec_l3Asked S26.sl a0 v0_1 (p0_1.mono i27) v1 a1 (p1.mono i27) hr30) ?_
 rintro e w31 ⟨rfl, r32⟩
 refine ⟨_, rfl, ?_⟩
 have S33 := S26.call r32
 refine FL.v (E.not rfl) ?_
 refine FL.nil ?_
 rcases ifB hp with ⟨c34, hp⟩ | ⟨c34, hp⟩
 ·
  refine FW.condT rfl c34 ?_
  refine FW.seq (FW.region ?_)
  refine FL.v (E.assign (v := Value.bool false) rfl) ?_
  refine FL.v (E.assign (v := Value.bool false) rfl) ?_
  refine FL.nil ?_
  refine FW.ret ?_
  obtain rfl := Option.some.inj hp
  exact ⟨.inr rfl, res2 rfl rfl rfl ⟨rfl, S33.back⟩⟩
 ·
  refine FW.condF rfl c34 ?_
  refine FW.skip (FW.seq (FW.seq (FW.region ?_)))
  refine FL.v (E.assign (v := Value.int .i64 0) rfl) ?_
  refine FL.nil ?_
  obtain ⟨q35, hq, hp⟩ := bndR hp
  refine FW.block ?_
  refine FW.mono (FW.iter (S := Int) (X := (Bool × Bool)) (fun (s35 : Int) f w => ∃ H : GH, St Ha wa H w [] ∧ Inc H25 H ∧ f 1 = v1 ∧ f 2 = Value.pointer (some ⟨b21, 0, none⟩) ∧ f 6 = Value.int .i64 s35) (fun q e f w => match q with | .go s35 => e = Exit.exit 0 ∧ (∃ H : GH, St Ha wa H w [] ∧ Inc H25 H) | .rt x => ((e = Exit.ret) ∧ (fun e f w => (e = Exit.normal ∨ e = Exit.ret) ∧ ∀ a, Fr (δ := []) 35 a f → ∃ v, (results Tryz.f26 a.tmps).run Tryz.prog w = .ok v w ∧ (Sc Ha wa (Value.tuple #[Value.bool x.1, Value.bool x.2])) (.returned v) w) e f w)) hq ⟨_, S33, (Inc.rfl _), rfl, rfl, rfl⟩ ?_) ?_
  ·
   clear hp hq
   rintro s35 f106 w105 ⟨H102, S103, i104, k107, k108, k109⟩ o168 hp
   refine FW.seq (FW.seq (FW.region ?_))
   refine FL.v (E.move k109) ?_
   refine FL.v (E.fieldAddr tf26_1 k108) ?_
   refine FL.v (E.load rfl (run_load1 Tryz.isAgg24 ((at28.mono i104).now S103.sl) rfl)) ?_
   refine FL.v (E.lenP te24 rfl p0_1) ?_
   refine FL.v (E.lss rfl rfl) ?_
   refine FL.nil ?_
   rcases ifB hp with ⟨c110, hp⟩ | ⟨c110, hp⟩
   ·
    refine FW.condT rfl c110 ?_
    refine FW.skip (FW.seq (FW.block (FW.seq (FW.region ?_))))
    refine FL.v (E.fieldAddr tf26_1 k108) ?_
    refine FL.v (E.load rfl (run_load1 Tryz.isAgg24 ((at28.mono i104).now S103.sl) rfl)) ?_
    refine FL.v (E.move k109) ?_
    obtain ⟨x117, hx118, hp⟩ := bnd hp
    obtain ⟨p111, cs112, pt113, l114, at115, rel116⟩ := p0_1.at hx118
    obtain ⟨v119, rfl, h120⟩ := eL_open rel116
    refine FL.v (E.indexAddr te24 rfl rfl pt113) ?_
    refine FL.v (E.load rfl (run_load0 Tryz.isAgg34 ((at115.mono (i27.tr i104)).now S103.sl) rfl)) ?_
    refine FL.v (E.move k107) ?_
    obtain ⟨r121, hr122, hp⟩ := bnd hp
    refine FL.call rfl rfl rfl (E.call Tryz.call104 (A2 rfl rfl)) (w_spec_l2Meet S103.sl v119 x117 (h120.mono (i27.tr i104)) v1 a1 (p1.mono (i27.tr i104)) hr122) ?_
    rintro e w123 ⟨rfl, r124⟩
    refine ⟨_, rfl, ?_⟩
    have S125 := S103.call r124
    refine FL.v (E.move (v := Value.bool r121) rfl) ?_
    obtain ⟨t141, hqt141, hp⟩ := bnd hp
    refine FL.cut 9 (fun f w => ∃ H : GH, St Ha wa H w [] ∧ Inc H102 H ∧ f 1 = v1 ∧ f 2 = Value.pointer (some ⟨b21, 0, none⟩) ∧ f 6 = Value.int .i64 s35 ∧ f 34 = Value.bool t141) ?_ ?_
    ·
     clear hp; have hp := hqt141; clear hqt141
     rcases ifB hp with ⟨c147, hp⟩ | ⟨c147, hp⟩
     ·
      refine FL.val (wF_yes rfl rfl rfl c147) rfl rfl (E.fieldAddr tf26_1 k108) ?_
      refine FL.val (wF_yes rfl rfl rfl c147) rfl rfl (E.load rfl (run_load1 Tryz.isAgg24 ((at28.mono i104).now S125.sl) rfl)) ?_
      refine FL.val (wF_yes rfl rfl rfl c147) rfl rfl (E.move k109) ?_
      obtain ⟨x154, hx155, hp⟩ := bnd hp
      obtain ⟨p148, cs149, pt150, l151, at152, rel153⟩ := p0_1.at hx155
      obtain ⟨v156, rfl, h157⟩ := eL_open rel153
      refine FL.val (wF_yes rfl rfl rfl c147) rfl rfl (E.indexAddr te24 rfl rfl pt150) ?_
      refine FL.val (wF_yes rfl rfl rfl c147) rfl rfl (E.load rfl (run_load0 Tryz.isAgg34 ((at152.mono (i27.tr i104)).now S125.sl) rfl)) ?_
      refine FL.val (wF_yes rfl rfl rfl c147) rfl rfl (E.move k107) ?_
      obtain ⟨r158, hr159, hp⟩ := bnd hp
      refine FL.call (wF_yes rfl rfl rfl c147) rfl rfl (E.call Tryz.call105 (A2 rfl rfl)) (w_spec_l3Value S125.sl v156 x154 (h157.mono (i27.tr i104)) v1 a1 (p1.mono (i27.tr i104)) hr159) ?_
      rintro e w160 ⟨rfl, r161⟩
      refine ⟨_, rfl, ?_⟩
      have S162 := S125.call r161
      refine FL.val (wF_yes rfl rfl rfl c147) rfl rfl (E.lss rfl rfl) ?_
      obtain rfl := Option.some.inj hp
      refine FL.v (E.pickT rfl c147 rfl) ?_
      exact FL.nil ⟨rfl, _, S162, (Inc.rfl _), k107, k108, k109, rfl⟩
     ·
      refine FL.skip (wF_no rfl rfl rfl c147) rfl ?_
      refine FL.skip (wF_no rfl rfl rfl c147) rfl ?_
      refine FL.skip (wF_no rfl rfl rfl c147) rfl ?_
      refine FL.skip (wF_no rfl rfl rfl c147) rfl ?_
      refine FL.skip (wF_no rfl rfl rfl c147) rfl ?_
      refine FL.skip (wF_no rfl rfl rfl c147) rfl ?_
      refine FL.skip (wF_no rfl rfl rfl c147) rfl ?_
      refine FL.skip (wF_no rfl rfl rfl c147) rfl ?_
      obtain rfl := Option.some.inj hp
      refine FL.v (E.pickF rfl c147 rfl) ?_
      exact FL.nil ⟨rfl, _, S125, (Inc.rfl _), k107, k108, k109, rfl⟩
    rintro f146 w145 ⟨H142, S143, i144, k163, k164, k165, k166⟩
    refine FL.nil ?_
    rcases ifB hp with ⟨c167, hp⟩ | ⟨c167, hp⟩
    ·
     refine FW.condT k166 c167 ?_
     refine FW.seq (FW.region ?_)
     refine FL.v (E.assign (v := Value.bool false) rfl) ?_
     refine FL.v (E.assign (v := Value.bool true) rfl) ?_
     refine FL.nil ?_
     refine FW.ret ?_
     obtain rfl := Option.some.inj hp
     exact ⟨nofun, rfl, ⟨.inr rfl, res2 rfl rfl rfl ⟨rfl, S143.back⟩⟩⟩
    ·
     refine FW.condF k166 c167 ?_
     refine FW.skip (FW.region ?_)
     refine FL.v (E.move k165) ?_
     refine FL.v (E.add rfl rfl) ?_
     refine FL.v (E.assign (v := Value.int .i64 (wr (s35 + 1))) rfl) ?_
     refine FL.nil ?_
     obtain rfl := Option.some.inj hp
     exact ⟨rfl, ⟨_, S143, (i104.tr i144), k163, k164, rfl⟩⟩
   ·
    refine FW.condF rfl c110 ?_
    refine FW.exit ?_
    obtain rfl := Option.some.inj hp
    exact ⟨nofun, rfl, ⟨_, S103, i104⟩⟩
  ·
   clear hq
   intro e f173 w172 hD
   rcases q35 with s35 | x35
   ·
    obtain ⟨rfl, hD⟩ := hD
    obtain ⟨H169, S170, i171⟩ := hD
    replace hp := el_go hp
    refine FW.seq (FW.region ?_)
    refine FL.v (E.assign (v := Value.bool true) rfl) ?_
    refine FL.v (E.assign (v := Value.bool true) rfl) ?_
    refine FL.nil ?_
    refine FW.ret ?_
    obtain rfl := Option.some.inj hp
    exact ⟨.inr rfl, res2 rfl rfl rfl ⟨rfl, S170.back⟩⟩
   ·
    obtain ⟨he, hL⟩ := hD
    replace hp := el_rt hp
    obtain rfl := Option.some.inj hp
    subst he
    exact hL

@[reducible] def p_impl_restrict (Ha : GH) (wa : World) (r : (List (List Int))) : Ending → World → Prop :=
  fun e w' => ∃ H' : GH, ∃ v0 : Value, ∃ n0 : Nat, ∃ c0 : List Value, e = .returned (v0) ∧ St Ha wa H' w' [.row 34 1 v0 n0 c0] ∧ Els (up wa.heap.size H') (eL eI 1) 1 c0 r ∧ (bl c0).Nodup
theorem w_impl_restrict {Ha : GH} {wa : World} (hs : Sl Ha wa) (v0 : Value) (a0 : List (List Int)) (p0 : RSl Ha (eL eI 1) 1 v0 a0) (v1 : Value) (a1 : List Int) (p1 : RSl Ha eI 1 v1 a1) {r : (List (List Int))} (hp : (PF.impl_restrict a0 a1) = some r) :
    Calls Tryz.prog 106 #[v0, v1] wa (p_impl_restrict Ha wa r) := by
  unfold PF.impl_restrict at hp
  have S0 := St.init hs
  refine calls_go (N := 26) (args := [v0, v1]) Tryz.func106 rfl rfl rfl ?_
  refine FW.seq (FW.region ?_)
  refine FL.v (E.assign (v := Value.slice none 0 0) rfl) ?_
  refine FL.nil (FW.seq (FW.region ?_))
  refine FL.v (E.assign (v := Value.slice none 0 0) rfl) ?_
  refine FL.nil (FW.seq (FW.seq (FW.region ?_)))
  refine FL.v (E.move (v := v0) rfl) ?_
  refine FL.v (E.lenP te24 rfl p0) ?_
  refine FL.v (E.move (v := Value.int .i64 0) rfl) ?_
  refine FL.nil ?_
  obtain ⟨q22, hq, hp⟩ := bndR hp
  refine FW.block ?_
  refine FW.mono (FW.forL (S := (List (List Int))) (X := Empty) (fun (i22 : Nat) (s22 : (List (List Int))) f w => ∃ H : GH, ∃ v23 : Value, ∃ n24 : Nat, ∃ cs25 : List Value, St Ha wa H w [.row 34 1 v23 n24 cs25] ∧ Inc Ha H ∧ Els (up wa.heap.size H) (eL eI 1) 1 cs25 s22 ∧ (bl cs25).Nodup ∧ f 10 = Value.int .i64 ((i22 : Nat) : Int) ∧ f 1 = v1 ∧ f 5 = v23 ∧ f 8 = v0 ∧ f 9 = Value.int .i64 (len a0)) (fun (q : Rs (List (List Int)) Empty) e f w => match q with | .go s22 => e = Exit.exit 0 ∧ (∃ H : GH, ∃ v23 : Value, ∃ n24 : Nat, ∃ cs25 : List Value, St Ha wa H w [.row 34 1 v23 n24 cs25] ∧ Inc Ha H ∧ Els (up wa.heap.size H) (eL eI 1) 1 cs25 s22 ∧ (bl cs25).Nodup ∧ f 5 = v23) | .rt x => x.elim) hq ⟨_, _, _, _, (S0.nil 34 1), (Inc.rfl _), Els.nil, List.nodup_nil, rfl, rfl, rfl, rfl, rfl⟩ ?_ ?_) ?_
  ·
    clear hp hq
    rintro i22 y21 s22 f89 w88 ⟨H85, v23, n24, cs25, S86, i87, els26, nd27, k90, k91, k92, k93, k94⟩ hx22 o142 hp
    refine FW.seq (FW.region ?_)
    refine FL.v (E.lssT k90 k94 (lss_len hx22)) ?_
    refine FL.nil (FW.seq ?_)
    refine FW.condT rfl rfl ?_
    refine FW.skip (FW.seq (FW.block (FW.seq (FW.region ?_))))
    obtain ⟨p95, cs96, pt97, l98, at99, rel100⟩ := p0.at (ix_nat hx22)
    obtain ⟨v101, rfl, h102⟩ := eL_open rel100
    refine FL.v (E.indexAddr te24 k93 k90 pt97) ?_
    refine FL.v (E.load rfl (run_load0 Tryz.isAgg34 ((at99.mono i87).now S86.sl) rfl)) ?_
    refine FL.v (E.assign (v := v101) rfl) ?_
    refine FL.nil (FW.seq (FW.region ?_))
    refine FL.v (E.move (v := v101) rfl) ?_
    refine FL.v (E.move k91) ?_
    obtain ⟨r103, hr104, hp⟩ := bnd hp
    refine FL.call rfl rfl rfl (E.call Tryz.call103 (A2 rfl rfl)) (w_impl_clauseValue S86.sl v101 y21 (h102.mono i87) v1 a1 (p1.mono i87) hr104) ?_
    rintro e w105 ⟨rfl, r106⟩
    refine ⟨_, rfl, ?_⟩
    have S107 := S86.call r106
    refine FL.v (E.lss rfl rfl) ?_
    refine FL.nil ?_
    rcases ifB hp with ⟨c108, hp⟩ | ⟨c108, hp⟩
    ·
      refine FW.condT rfl c108 ?_
      refine FW.region ?_
      refine FL.v (E.move k92) ?_
      refine FL.v (E.move (v := v101) rfl) ?_
      refine FL.v (E.move k91) ?_
      obtain ⟨r109, hr110, hp⟩ := bnd hp
      refine FL.call rfl rfl rfl (E.call Tryz.call203 (A2 rfl rfl)) (w_impl_openPart S107.sl v101 y21 (h102.mono i87) v1 a1 (p1.mono i87) hr110) ?_
      rintro e w112 ⟨H111, v115, n116, cs117, rfl, r114, els118⟩
      refine ⟨_, rfl, ?_⟩
      have els118 := els118.mono (up_le S107.size)
      have S113 := S107.join (l' := [.row 3 1 v115 n116 cs117, .row 34 1 v23 n24 cs25]) r114 rfl
      obtain ⟨H119, S120, i121, h122, nv123⟩ := S113.sealRowU (i := 0) (l' := [.row 34 1 v23 n24 cs25]) rfl els118 (by decide) rfl
      obtain ⟨v124, w125, run126, S127⟩ := S120.buildSlice (P := Tryz.prog) te24 [v115] (parts := #[(0, v115)]) (cells := [v115]) rfl (szs_cons (cells_size h122.cells) szs_nil) (fc_cons h122.cells fc_nil) (ones_cons h122.one ones_nil) (Nat.le_of_ble_eq_true rfl)
      have els128 : Els (up wa.heap.size H119) (eL eI 1) 1 [v115] [r109] := (Els.snoc (H := (up wa.heap.size H119)) (E := (eL eI 1)) (k := 1) (c := [v115]) (x := r109) Els.nil rfl ⟨_, rfl, h122⟩)
      have nd129 : (bl [v115]).Nodup := by exact nd_one v115
      refine FL.v (E.buildSlice (B1 rfl) run126) ?_
      obtain ⟨xs130, hz131, hp⟩ := bnd hp
      obtain ⟨v132, w135, n133, cs134, run136, S137, els138, ce139⟩ := S127.appendO (P := Tryz.prog) te24 (i := 1) (j := 0) rfl (els26.mono (up_mono (r114.run.inc.tr i121))) rfl els128 hz131
      have S137 : St Ha wa H119 w135 [.row 34 1 v124 1 [v115], .row 34 1 v132 n133 cs134] := S137
      have nd140 : (bl cs134).Nodup := by rw [ce139]; exact nd_app nd27 nd129 (Els.dom (els26.mono (upI.tr r114.run.inc))) (by exact nv123)
      have S141 : St Ha wa H119 w135 [.row 34 1 v132 n133 cs134] := S137.drop 0
      refine FL.v (E.append rfl rfl run136) ?_
      refine FL.v (E.assign (v := v132) rfl) ?_
      refine FL.nil (FW.region ?_)
      refine FL.v (E.add k90 rfl) ?_
      refine FL.v (E.move (v := Value.int .i64 (wr (((i22 : Nat) : Int) + 1))) rfl) ?_
      refine FL.nil ?_
      obtain rfl := Option.some.inj hp
      exact ⟨rfl, ⟨_, _, _, _, S141, ((i87.tr r114.run.inc).tr i121), els138, nd140, (nat_succ rfl (lt_of_get hx22) (p0.mono ((i87.tr r114.run.inc).tr i121)).le), k91, rfl, k93, k94⟩⟩
    ·
      refine FW.condF rfl c108 ?_
      refine FW.skip (FW.region ?_)
      refine FL.v (E.add k90 rfl) ?_
      refine FL.v (E.move (v := Value.int .i64 (wr (((i22 : Nat) : Int) + 1))) rfl) ?_
      refine FL.nil ?_
      obtain rfl := Option.some.inj hp
      exact ⟨rfl, ⟨_, _, _, _, S107, i87, els26, nd27, (nat_succ rfl (lt_of_get hx22) (p0.mono i87).le), k91, k92, k93, k94⟩⟩
  ·
    clear hp hq
    rintro s22 f153 w152 ⟨H149, v23, n24, cs25, S150, i151, els26, nd27, k154, k155, k156, k157, k158⟩
    refine FW.seq (FW.region ?_)
    refine FL.v (E.lss k154 k158) ?_
    refine FL.nil (FW.seq ?_)
    refine FW.condF rfl dlt_len ?_
    refine FW.exit ?_
    exact ⟨nofun, rfl, ⟨_, _, _, _, S150, i151, els26, nd27, k156⟩⟩
  ·
    clear hq
    intro e f147 w146 hD
    rcases q22 with s22 | x22
    ·
      obtain ⟨rfl, hD⟩ := hD
      obtain ⟨H143, v23, n24, cs25, S144, i145, els26, nd27, k148⟩ := hD
      replace hp := el_go hp
      refine FW.seq (FW.region ?_)
      refine FL.v (E.move k148) ?_
      refine FL.v (E.assign (v := v23) rfl) ?_
      refine FL.nil ?_
      refine FW.ret ?_
      obtain rfl := Option.some.inj hp
      exact ⟨.inr rfl, res1 rfl rfl ⟨_, _, _, _, rfl, S144, els26, nd27⟩⟩
    · exact x22.elim

@[reducible] def p_impl_RestrictCnf (Ha : GH) (wa : World) (r : (Cnf × Bool)) : Ending → World → Prop :=
 fun e w' => ∃ H' : GH, ∃ v0_1 : Value, e = .returned (Value.tuple #[Value.agg #[Value.int .i64 r.1.vars, v0_1], Value.bool r.2]) ∧ Run wa.heap.size Ha wa H' w' ∧ (∃ c, Nest (up wa.heap.size H') (eL eI 1) 1 v0_1 r.1.clauses c)
theorem w_impl_RestrictCnf {Ha : GH} {wa : World} (hs : Sl Ha wa) (a0 : Cnf) (v0_1 : Value) (p0_1 : RSl Ha (eL eI 1) 1 v0_1 a0.clauses) (v1 : Value) (a1 : List Int) (p1 : RSl Ha eI 1 v1 a1) {r : (Cnf × Bool)} (hp : (PF.impl_RestrictCnf a0 a1) = some r) :
  Calls Tryz.prog 27 #[Value.agg #[Value.int .i64 a0.vars, v0_1], v1] wa (p_impl_RestrictCnf Ha wa r) := by
 unfold PF.impl_RestrictCnf at hp
 have S0 := St.init hs
 refine calls_go (N := 24) (args := [Value.agg #[Value.int .i64 a0.vars, v0_1], v1]) Tryz.func27 rfl rfl rfl ?_
 refine FW.seq (FW.region ?_)
 obtain ⟨b21, w22, run23, S24⟩ := S0.box (P := Tryz.prog) 26 [Value.int .i64 a0.vars, v0_1] (v := Value.agg #[Value.int .i64 a0.vars, v0_1]) rfl (ones_cons rfl (ones_cons p0_1.one ones_nil))
 refine FL.v (E.box rfl run23) ?_
 obtain ⟨H25, S26, i27, at28⟩ := S24.sealBox (i := 0) (l' := []) rfl rfl
 obtain ⟨b29, w30, run31, S32⟩ := S26.alloc (P := Tryz.prog) 26 [Value.int .i64 0, Value.slice none 0 0] Tryz.zeroValue26 rfl (ones_cons rfl (ones_cons rfl ones_nil))
 refine FL.v (E.alloc run31) ?_
 refine FL.v (E.assign (v := Value.bool false) rfl) ?_
 refine FL.nil (FW.seq (FW.seq (FW.region ?_)))
 refine FL.v (E.load rfl (run_loadA Tryz.isAgg26 Tryz.sizeOf26 (at28.now S32.sl) rfl)) ?_
 obtain ⟨r33, hr34, hp⟩ := bnd hp
 refine FL.call rfl rfl rfl (E.call Tryz.call72 (A1 rfl)) (w_impl_IsCnf S32.sl a0 v0_1 (p0_1.mono i27) hr34) ?_
 rintro e w35 ⟨rfl, r36⟩
 refine ⟨_, rfl, ?_⟩
 have S37 := S32.call r36
 refine FL.v (E.not rfl) ?_
 refine FL.v (E.move (v := Value.bool (!r33)) rfl) ?_
 obtain ⟨t43, hqt43, hp⟩ := bnd hp
 refine FL.cut 6 (fun f w => ∃ H : GH, St Ha wa H w [.box b29 26 [Value.int .i64 0, Value.slice none 0 0]] ∧ Inc H25 H ∧ f 1 = v1 ∧ f 2 = Value.pointer (some ⟨b21, 0, none⟩) ∧ f 4 = Value.pointer (some (⟨b29, 0, none⟩ : Addr)) ∧ f 15 = Value.bool t43) ?_ ?_
 ·
  clear hp; have hp := hqt43; clear hqt43
  rcases ifB hp with ⟨c49, hp⟩ | ⟨c49, hp⟩
  ·
   refine FL.skip (wF_no rfl rfl rfl c49) rfl ?_
   refine FL.skip (wF_no rfl rfl rfl c49) rfl ?_
   refine FL.skip (wF_no rfl rfl rfl c49) rfl ?_
   refine FL.skip (wF_no rfl rfl rfl c49) rfl ?_
   refine FL.skip (wF_no rfl rfl rfl c49) rfl ?_
   obtain rfl := Option.some.inj hp
   refine FL.v (E.pickT rfl c49 rfl) ?_
   exact FL.nil ⟨rfl, _, S37, (Inc.rfl _), rfl, rfl, rfl, rfl⟩
  ·
   refine FL.val (wF_yes rfl rfl rfl c49) rfl rfl (E.fieldAddr tf26_0 rfl) ?_
   refine FL.val (wF_yes rfl rfl rfl c49) rfl rfl (E.load rfl (run_load1 Tryz.isAgg3 (at28.now S37.sl) rfl)) ?_
   refine FL.val (wF_yes rfl rfl rfl c49) rfl rfl (E.move (v := v1) rfl) ?_
   obtain ⟨r50, hr51, hp⟩ := bnd hp
   refine FL.call (wF_yes rfl rfl rfl c49) rfl rfl (E.call Tryz.call90 (A2 rfl rfl)) (w_impl_IsAssignment S37.sl a0.vars v1 a1 (p1.mono i27) hr51) ?_
   rintro e w52 ⟨rfl, r53⟩
   refine ⟨_, rfl, ?_⟩
   have S54 := S37.call r53
   refine FL.val (wF_yes rfl rfl rfl c49) rfl rfl (E.not rfl) ?_
   obtain rfl := Option.some.inj hp
   refine FL.v (E.pickF rfl c49 rfl) ?_
   exact FL.nil ⟨rfl, _, S54, (Inc.rfl _), rfl, rfl, rfl, rfl⟩
 rintro f48 w47 ⟨H44, S45, i46, k55, k56, k57, k58⟩
 refine FL.nil ?_
 rcases ifB hp with ⟨c59, hp⟩ | ⟨c59, hp⟩
 ·
  refine FW.condT k58 c59 ?_
  refine FW.seq (FW.region ?_)
  refine FL.v (E.build (B0) (run_build _ 26 #[] #[Value.int .i64 0, Value.slice none 0 0] (by rfl))) ?_
  obtain ⟨w60, run61, S62⟩ := S45.store0 (P := Tryz.prog) (t := 26) (i := 0) (cs' := [Value.int .i64 0, Value.slice none 0 0]) (l' := [.box b29 26 [Value.int .i64 0, Value.slice none 0 0]]) (v := Value.agg #[Value.int .i64 0, Value.slice none 0 0]) (c := [Value.int .i64 0, Value.slice none 0 0]) rfl Tryz.sizeOf26 rfl rfl (ones_cons rfl (ones_cons rfl ones_nil)) (Nat.le_of_ble_eq_true rfl) rfl rfl
  refine FL.act rfl rfl (E.store k57 rfl run61) ?_
  refine FL.v (E.assign (v := Value.bool false) rfl) ?_
  refine FL.nil ?_
  refine FW.ret ?_
  obtain rfl := Option.some.inj hp
  exact ⟨.inr rfl, resC2 rfl k57 (loadVar_A Tryz.isAgg26 Tryz.sizeOf26 (S62.box_now (i := 0) rfl) rfl) rfl ⟨_, _, rfl, S62.run, ⟨_, Nest.nil⟩⟩⟩
 ·
  refine FW.condF k58 c59 ?_
  refine FW.skip (FW.seq ?_)
  obtain ⟨r38, hr39, hp⟩ := bnd hp
  refine FW.drawB (Sl H44) (fun f w => ∃ H : GH, ∃ v82 : Value, ∃ c83 : List Value, St Ha wa H w [.box b29 26 [Value.int .i64 a0.vars, v82]] ∧ Inc H44 H ∧ Nest (up wa.heap.size H) (eL eI 1) 1 v82 r38 c83 ∧ New H44 [v82] ∧ New H44 c83 ∧ f 4 = Value.pointer (some (⟨b29, 0, none⟩ : Addr)) ∧ f 5 = Value.bool true) (by kernel_rfl) S45.sl ?_ ?_
  ·
   intro w63 r64
   have S65 := S45.call r64
   refine FB.t (i := 0) (bs 9 1) rfl (SP.nil S65.sl) rfl (fun w' hw' => (E.fieldAddr tf26_0 k56)) ?_
   refine FB.t (i := 1) (bs 9 3) rfl (SP.nil S65.sl) rfl (fun w' hw' => (E.load rfl (run_load1 Tryz.isAgg3 ((at28.mono i46).now hw') rfl))) ?_
   refine FB.t (i := 2) (bs 9 7) rfl (SP.nil S65.sl) rfl (fun w' hw' => (E.fieldAddr tf26_1 k56)) ?_
   refine FB.t (i := 3) (bs 9 15) rfl (SP.nil S65.sl) rfl (fun w' hw' => (E.load rfl (run_load1 Tryz.isAgg24 ((at28.mono i46).now hw') rfl))) ?_
   refine FB.t (i := 4) (bs 9 31) rfl (SP.nil S65.sl) rfl (fun w' hw' => (E.move k55)) ?_
   refine FB.all1 (i := 5) (by kernel_rfl) ?_
   ·
    refine FC.call (l' := (bs 9 63)) rfl (by kernel_rfl) rfl rfl rfl (E.call Tryz.call106 (A2 rfl rfl)) (w_impl_restrict S65.sl v0_1 a0.clauses (p0_1.mono (i27.tr i46)) v1 a1 (p1.mono (i27.tr i46)) hr39) ?_
    rintro e w41 ⟨H40, v67, n68, cs69, rfl, r66, els70, nd71⟩
    refine ⟨_, rfl, ?_⟩
    have nv72 : New H44 cs69 := New.of_up S65.sl els70.dom
    have els70 := els70.mono (up_le S65.size)
    have S42 := S65.join (l' := [.row 34 1 v67 n68 cs69, .box b29 26 [Value.int .i64 0, Value.slice none 0 0]]) r66 rfl
    refine ⟨(SP.nil (Sl.of_inc r66.run.inc S42.sl)), ?_⟩
    obtain ⟨H73, S74, i75, ns78, nv77⟩ := S42.sealRowN (i := 0) (l' := [.box b29 26 [Value.int .i64 0, Value.slice none 0 0]]) rfl els70 nd71 (by decide) rfl
    have h76 := ns78.rsl
    refine FB.t (i := 6) (bs 9 127) rfl (SP.nil (Sl.of_inc r66.run.inc S42.sl)) rfl (fun w' hw' => (E.build (B2 rfl rfl) (run_build _ 26 #[(0, Value.int .i64 a0.vars), (1, v67)] #[Value.int .i64 a0.vars, v67] (by obtain ⟨_, _, rfl⟩ := RSl.ln (h76.mono upI); rfl)))) ?_
    refine FB.all1 (i := 7) (by kernel_rfl) ?_
    ·
     obtain ⟨w79, run80, S81⟩ := S74.store0 (P := Tryz.prog) (t := 26) (i := 0) (cs' := [Value.int .i64 a0.vars, v67]) (l' := [.box b29 26 [Value.int .i64 a0.vars, v67]]) (v := Value.agg #[Value.int .i64 a0.vars, v67]) (c := [Value.int .i64 a0.vars, v67]) rfl Tryz.sizeOf26 rfl rfl (ones_cons rfl (ones_cons h76.one ones_nil)) (Nat.le_of_ble_eq_true rfl) rfl rfl
     refine FC.act (l' := (bs 9 255)) rfl (by kernel_rfl) rfl rfl (E.store k57 rfl run80) ?_
     refine ⟨(SP.nil (Sl.of_inc (r66.run.inc.tr i75) S81.sl)), ?_⟩
     refine FB.t (i := 8) (bs 9 511) rfl (SP.nil (Sl.of_inc (r66.run.inc.tr i75) S81.sl)) rfl (fun w' hw' => (E.assign (v := Value.bool true) rfl)) ?_
     exact FB.done (by kernel_rfl) ⟨_, _, _, S81, (r66.run.inc.tr i75), ns78, (nv77.anti r66.run.inc), (nv72.anti (Inc.rfl _)), k57, rfl⟩
  ·
   rintro f91 w90 ⟨H87, v82, c83, S88, i89, ns84, nv85, nv86, k92, k93⟩
   refine FW.ret ?_
   obtain rfl := Option.some.inj hp
   exact ⟨.inr rfl, resC2 rfl k92 (loadVar_A Tryz.isAgg26 Tryz.sizeOf26 (S88.box_now (i := 0) rfl) rfl) k93 ⟨_, _, rfl, S88.run, ⟨_, ns84⟩⟩⟩

theorem w_impl_satisfiable {Ha : GH} {wa : World} (hs : Sl Ha wa) (a0 : Int) (v1 : Value) (a1 : List (List Int)) (p1 : RSl Ha (eL eI 1) 1 v1 a1) {r : Bool} (hp : (PF.impl_satisfiable a0 a1) = some r) :
  Calls Tryz.prog 107 #[Value.int .i64 a0, v1] wa (Sc Ha wa (Value.bool r)) := by
 unfold PF.impl_satisfiable at hp
 have S0 := St.init hs
 refine calls_go (N := 12) (args := [Value.int .i64 a0, v1]) Tryz.func107 rfl rfl rfl ?_
 refine FW.seq (FW.region ?_)
 refine FL.v (E.assign (v := Value.bool false) rfl) ?_
 refine FL.nil (FW.seq (FW.region ?_))
 obtain ⟨b21, w22, run23, S24⟩ := S0.alloc (P := Tryz.prog) 4 [Value.bool false] Tryz.zeroValue4 rfl (ones_cons rfl ones_nil)
 refine FL.v (E.alloc run23) ?_
 obtain ⟨w25, run26, S27⟩ := S24.store0 (P := Tryz.prog) (t := 4) (i := 0) (cs' := [Value.bool false]) (l' := [.box b21 4 [Value.bool false]]) (v := Value.bool false) (c := [Value.bool false]) rfl Tryz.sizeOf4 rfl rfl (ones_cons rfl ones_nil) (Nat.le_of_ble_eq_true rfl) rfl rfl
 refine FL.act rfl rfl (E.store rfl rfl run26) ?_
 refine FL.nil (FW.seq (FW.region ?_))
 refine FL.v (E.move (v := Value.int .i64 a0) rfl) ?_
 refine FL.v (E.move (v := v1) rfl) ?_
 refine FL.v (E.build (B2 rfl rfl) (run_build _ 26 #[(0, Value.int .i64 a0), (1, v1)] #[Value.int .i64 a0, v1] (by obtain ⟨_, _, rfl⟩ := RSl.ln p1; rfl))) ?_
 refine FL.v (E.makeFunc A0 (A1 rfl)) ?_
 obtain ⟨s144, hq144, hp⟩ := bnd hp
 obtain ⟨R144, hR144⟩ : ∃ R144 : Bool → Ending → World → Prop, R144 = (fun s144 e w => ∃ H : GH, e = Ending.returned (Value.tuple #[]) ∧ St Ha wa H w [.box b21 4 [Value.bool s144]] ∧ Inc Ha H) := ⟨_, rfl⟩
 have hc144 : Calls Tryz.prog 94 #[Value.agg #[Value.int .i64 a0, v1], Value.func (.func 204) #[] #[Value.pointer (some (⟨b21, 0, none⟩ : Addr))]] w25 (R144 s144) := by
  clear hp; have hp := hq144; clear hq144
  refine calls_go (N := 22) (args := [Value.agg #[Value.int .i64 a0, v1], Value.func (.func 204) #[] #[Value.pointer (some (⟨b21, 0, none⟩ : Addr))]]) Tryz.func94 rfl rfl rfl ?_
  refine FW.seq (FW.region ?_)
  obtain ⟨b145, w146, run147, S148⟩ := S27.box (P := Tryz.prog) 26 [Value.int .i64 a0, v1] (v := Value.agg #[Value.int .i64 a0, v1]) rfl (ones_cons rfl (ones_cons p1.one ones_nil))
  refine FL.v (E.box rfl run147) ?_
  obtain ⟨H149, S150, i151, at152⟩ := S148.sealBox (i := 0) (l' := [.box b21 4 [Value.bool false]]) rfl rfl
  refine FL.nil (FW.seq (FW.region ?_))
  refine FL.v (E.fieldAddr tf26_0 rfl) ?_
  refine FL.v (E.load rfl (run_load1 Tryz.isAgg3 (at152.now S150.sl) rfl)) ?_
  obtain ⟨u154, z153, hp⟩ := bnd hp
  refine FL.v (E.shl rfl rfl (nn_ge z153)) ?_
  refine FL.v (E.move (v := Value.int .i64 0) rfl) ?_
  refine FL.nil ?_
  obtain ⟨m155, hchk156, hp⟩ := bnd hp
  obtain ⟨q156, hq, hp⟩ := bndR hp
  refine FW.block ?_
  refine FW.mono (FW.forR (S := Bool) (X := Bool) (fun (i156 : Nat) (s156 : Bool) f w => ∃ H : GH, St Ha wa H w [.box b21 4 [Value.bool s156]] ∧ Inc H149 H ∧ f 8 = Value.int .i64 ((i156 : Nat) : Int) ∧ f 1 = Value.func (.func 204) #[] #[Value.pointer (some (⟨b21, 0, none⟩ : Addr))] ∧ f 2 = Value.pointer (some ⟨b145, 0, none⟩) ∧ f 7 = Value.int .i64 (shlK true 64 1 a0)) (fun q e f w => match q with | .go s156 => e = Exit.exit 0 ∧ (∃ H : GH, St Ha wa H w [.box b21 4 [Value.bool s156]] ∧ Inc H149 H) | .rt x => ((e = Exit.ret) ∧ (fun e f w => (e = Exit.normal ∨ e = Exit.ret) ∧ ∀ a, Fr (δ := []) 22 a f → ∃ v, (results Tryz.f94 a.tmps).run Tryz.prog w = .ok v w ∧ R144 x (.returned v) w) e f w)) hq ⟨_, S150, (Inc.rfl _), rfl, rfl, rfl, rfl⟩ ?_ ?_) ?_
  ·
   clear hp hq
   rintro i156 s156 f251 w250 ⟨H247, S248, i249, k252, k253, k254, k255⟩ hi156 hj156 o298 hp
   refine FW.seq (FW.region ?_)
   refine FL.v (E.lssT k252 k255 (lss_chk hj156 hchk156)) ?_
   refine FL.nil (FW.seq ?_)
   refine FW.condT rfl rfl ?_
   refine FW.skip (FW.seq (FW.block (FW.seq (FW.region ?_))))
   refine FL.v (E.move k252) ?_
   refine FL.v (E.assign (v := Value.int .i64 ((i156 : Nat) : Int)) rfl) ?_
   refine FL.nil (FW.seq (FW.region ?_))
   refine FL.v (E.fieldAddr tf26_1 k254) ?_
   refine FL.v (E.load rfl (run_load1 Tryz.isAgg24 ((at152.mono i249).now S248.sl) rfl)) ?_
   refine FL.v (E.move (v := Value.int .i64 ((i156 : Nat) : Int)) rfl) ?_
   obtain ⟨r256, hr257, hp⟩ := bnd hp
   refine FL.call rfl rfl rfl (E.call Tryz.call88 (A2 rfl rfl)) (w_impl_isModel S248.sl v1 a1 (p1.mono (i151.tr i249)) ((i156 : Nat) : Int) hr257) ?_
   rintro e w258 ⟨rfl, r259⟩
   refine ⟨_, rfl, ?_⟩
   have S260 := S248.call r259
   refine FL.v (E.move (v := Value.bool r256) rfl) ?_
   obtain ⟨t273, hqt273, hp⟩ := bnd hp
   refine FL.cut 5 (fun f w => ∃ H : GH, St Ha wa H w [.box b21 4 [Value.bool t273.1]] ∧ Inc H247 H ∧ f 1 = Value.func (.func 204) #[] #[Value.pointer (some (⟨b21, 0, none⟩ : Addr))] ∧ f 2 = Value.pointer (some ⟨b145, 0, none⟩) ∧ f 7 = Value.int .i64 (shlK true 64 1 a0) ∧ f 8 = Value.int .i64 ((i156 : Nat) : Int) ∧ f 20 = Value.bool t273.2) ?_ ?_
   ·
    clear hp; have hp := hqt273; clear hqt273
    rcases ifB hp with ⟨c274, hp⟩ | ⟨c274, hp⟩
    ·
     refine FL.val (wF_yes rfl rfl rfl c274) rfl rfl (E.move k253) ?_
     refine FL.val (wF_yes rfl rfl rfl c274) rfl rfl (E.move (v := Value.int .i64 ((i156 : Nat) : Int)) rfl) ?_
     obtain ⟨s278, hq278, hp⟩ := bnd hp
     obtain ⟨R278, hR278⟩ : ∃ R278 : (Bool × Bool) → Ending → World → Prop, R278 = (fun s278 e w => ∃ H : GH, e = Ending.returned (Value.bool s278.2) ∧ St Ha wa H w [.box b21 4 [Value.bool s278.1]] ∧ Inc H247 H) := ⟨_, rfl⟩
     have hc278 : Calls Tryz.prog 204 #[Value.int .i64 ((i156 : Nat) : Int), Value.pointer (some (⟨b21, 0, none⟩ : Addr))] w258 (R278 s278) := by
      clear hp; have hp := hq278; clear hq278
      refine calls_go (N := 4) (args := [Value.int .i64 ((i156 : Nat) : Int), Value.pointer (some (⟨b21, 0, none⟩ : Addr))]) Tryz.func204 rfl rfl rfl ?_
      refine FW.seq (FW.region ?_)
      refine FL.v (E.assign (v := Value.bool false) rfl) ?_
      refine FL.nil (FW.seq (FW.region ?_))
      obtain ⟨w279, run280, S281⟩ := S260.store0 (P := Tryz.prog) (t := 4) (i := 0) (cs' := [Value.bool true]) (l' := [.box b21 4 [Value.bool true]]) (v := Value.bool true) (c := [Value.bool true]) rfl Tryz.sizeOf4 rfl rfl (ones_cons rfl ones_nil) (Nat.le_of_ble_eq_true rfl) rfl rfl
      refine FL.act rfl rfl (E.store rfl rfl run280) ?_
      refine FL.nil (FW.seq (FW.region ?_))
      refine FL.v (E.assign (v := Value.bool false) rfl) ?_
      refine FL.nil ?_
      refine FW.ret ?_
      obtain rfl := Option.some.inj hp
      exact ⟨.inr rfl, res1 rfl rfl (by rw [hR278]; exact ⟨_, rfl, S281, (Inc.rfl _)⟩)⟩
     clear hq278
     refine FL.call (wF_yes rfl rfl rfl c274) rfl rfl (E.callV Tryz.call204 rfl (appA (A1 rfl) #[Value.pointer (some (⟨b21, 0, none⟩ : Addr))])) hc278 ?_
     intro e w285 hQ278
     rw [hR278] at hQ278
     obtain ⟨H282, rfl, S283, i284⟩ := hQ278
     refine ⟨_, rfl, ?_⟩
     refine FL.val (wF_yes rfl rfl rfl c274) rfl rfl (E.not rfl) ?_
     refine FL.v (E.pickT rfl c274 rfl) ?_
     obtain rfl := Option.some.inj hp
     exact FL.nil ⟨rfl, ⟨_, S283, i284, k253, k254, k255, k252, rfl⟩⟩
    ·
     refine FL.skip (wF_no rfl rfl rfl c274) rfl ?_
     refine FL.skip (wF_no rfl rfl rfl c274) rfl ?_
     refine FL.skip (wF_no rfl rfl rfl c274) rfl ?_
     refine FL.skip (wF_no rfl rfl rfl c274) rfl ?_
     refine FL.v (E.pickF rfl c274 rfl) ?_
     obtain rfl := Option.some.inj hp
     exact FL.nil ⟨rfl, ⟨_, S260, (Inc.rfl _), k253, k254, k255, k252, rfl⟩⟩
   clear hqt273
   rintro f291 w290 ⟨H287, S288, i289, k292, k293, k294, k295, k296⟩
   refine FL.nil ?_
   rcases ifB hp with ⟨c297, hp⟩ | ⟨c297, hp⟩
   ·
    refine FW.condT k296 c297 ?_
    refine FW.ret ?_
    obtain rfl := Option.some.inj hp
    exact ⟨nofun, rfl, ⟨.inr rfl, res0 rfl (by rw [hR144]; exact ⟨_, rfl, S288, ((i151.tr i249).tr i289)⟩)⟩⟩
   ·
    refine FW.condF k296 c297 ?_
    refine FW.skip (FW.region ?_)
    refine FL.v (E.add k295 rfl) ?_
    refine FL.v (E.move (v := Value.int .i64 (wr (((i156 : Nat) : Int) + 1))) rfl) ?_
    refine FL.nil ?_
    obtain rfl := Option.some.inj hp
    exact ⟨rfl, ⟨_, S288, (i249.tr i289), (nat_succ rfl hj156 (chk_le hchk156)), k292, k293, k294⟩⟩
  ·
   clear hp hq
   rintro s156 f308 w307 ⟨H304, S305, i306, k309, k310, k311, k312⟩
   refine FW.seq (FW.region ?_)
   refine FL.v (E.lss k309 k312) ?_
   refine FL.nil (FW.seq ?_)
   refine FW.condF rfl (dlt_maxchk hchk156) ?_
   refine FW.exit ?_
   exact ⟨nofun, rfl, ⟨_, S305, i306⟩⟩
  ·
   clear hq
   intro e f303 w302 hD
   rcases q156 with s156 | x156
   ·
    obtain ⟨rfl, hD⟩ := hD
    obtain ⟨H299, S300, i301⟩ := hD
    replace hp := el_go hp
    obtain rfl := Option.some.inj hp
    exact ⟨.inl rfl, res0 rfl (by rw [hR144]; exact ⟨_, rfl, S300, (i151.tr i301)⟩)⟩
   ·
    obtain ⟨he, hL⟩ := hD
    replace hp := el_rt hp
    obtain rfl := Option.some.inj hp
    subst he
    exact hL
 clear hq144
 refine FL.call rfl rfl rfl (E.call Tryz.call94 (A2 rfl rfl)) hc144 ?_
 intro e w316 hQ144
 rw [hR144] at hQ144
 obtain ⟨H313, rfl, S314, i315⟩ := hQ144
 refine ⟨_, rfl, ?_⟩
 refine FL.nil (FW.seq (FW.region ?_))
 refine FL.v (E.load rfl (run_load0 Tryz.isAgg4 (S314.box_now (i := 0) rfl) rfl)) ?_
 refine FL.v (E.assign (v := Value.bool s144) rfl) ?_
 refine FL.nil ?_
 refine FW.ret ?_
 obtain rfl := Option.some.inj hp
 exact ⟨.inr rfl, res1 rfl rfl ⟨rfl, S314.back⟩⟩

theorem w_impl_IsSatisfiable {Ha : GH} {wa : World} (hs : Sl Ha wa) (a0 : Cnf) (v0_1 : Value) (p0_1 : RSl Ha (eL eI 1) 1 v0_1 a0.clauses) {r : (Bool × Bool)} (hp : (PF.impl_IsSatisfiable a0) = some r) :
  Calls Tryz.prog 28 #[Value.agg #[Value.int .i64 a0.vars, v0_1]] wa (Sc Ha wa (Value.tuple #[Value.bool r.1, Value.bool r.2])) := by
 unfold PF.impl_IsSatisfiable at hp
 have S0 := St.init hs
 refine calls_go (N := 12) (args := [Value.agg #[Value.int .i64 a0.vars, v0_1]]) Tryz.func28 rfl rfl rfl ?_
 refine FW.seq (FW.region ?_)
 obtain ⟨b21, w22, run23, S24⟩ := S0.box (P := Tryz.prog) 26 [Value.int .i64 a0.vars, v0_1] (v := Value.agg #[Value.int .i64 a0.vars, v0_1]) rfl (ones_cons rfl (ones_cons p0_1.one ones_nil))
 refine FL.v (E.box rfl run23) ?_
 obtain ⟨H25, S26, i27, at28⟩ := S24.sealBox (i := 0) (l' := []) rfl rfl
 refine FL.v (E.assign (v := Value.bool false) rfl) ?_
 refine FL.v (E.assign (v := Value.bool false) rfl) ?_
 refine FL.nil (FW.seq (FW.seq (FW.region ?_)))
 refine FL.v (E.load rfl (run_loadA Tryz.isAgg26 Tryz.sizeOf26 (at28.now S26.sl) rfl)) ?_
 obtain ⟨r29, hr30, hp⟩ := bnd hp
 refine FL.call rfl rfl rfl (E.call Tryz.call72 (A1 rfl)) (w_impl_IsCnf S26.sl a0 v0_1 (p0_1.mono i27) hr30) ?_
 rintro e w31 ⟨rfl, r32⟩
 refine ⟨_, rfl, ?_⟩
 have S33 := S26.call r32
 refine FL.v (E.not rfl) ?_
 refine FL.nil ?_
 rcases ifB hp with ⟨c34, hp⟩ | ⟨c34, hp⟩
 ·
  refine FW.condT rfl c34 ?_
  refine FW.seq (FW.region ?_)
  refine FL.v (E.assign (v := Value.bool false) rfl) ?_
  refine FL.v (E.assign (v := Value.bool false) rfl) ?_
  refine FL.nil ?_
  refine FW.ret ?_
  obtain rfl := Option.some.inj hp
  exact ⟨.inr rfl, res2 rfl rfl rfl ⟨rfl, S33.back⟩⟩
 ·
  refine FW.condF rfl c34 ?_
  refine FW.skip (FW.seq (FW.region ?_))
  refine FL.v (E.fieldAddr tf26_0 rfl) ?_
  refine FL.v (E.load rfl (run_load1 Tryz.isAgg3 (at28.now S33.sl) rfl)) ?_
  refine FL.v (E.fieldAddr tf26_1 rfl) ?_
  refine FL.v (E.load rfl (run_load1 Tryz.isAgg24 (at28.now S33.sl) rfl)) ?_
  obtain ⟨r35, hr36, hp⟩ := bnd hp
  refine FL.call rfl rfl rfl (E.call Tryz.call107 (A2 rfl rfl)) (w_impl_satisfiable S33.sl a0.vars v0_1 a0.clauses (p0_1.mono i27) hr36) ?_
  rintro e w37 ⟨rfl, r38⟩
  refine ⟨_, rfl, ?_⟩
  have S39 := S33.call r38
  refine FL.v (E.assign (v := Value.bool r35) rfl) ?_
  refine FL.v (E.assign (v := Value.bool true) rfl) ?_
  refine FL.nil ?_
  refine FW.ret ?_
  obtain rfl := Option.some.inj hp
  exact ⟨.inr rfl, res2 rfl rfl rfl ⟨rfl, S39.back⟩⟩

set_option maxHeartbeats 4000000 in
theorem w_laws_FnPropagation {Ha : GH} {wa : World} (hs : Sl Ha wa) (v0 : Value) (a0 : List Int) (p0 : RSl Ha (eN .u8) 1 v0 a0) {r : Bool} (hp : (PF.laws_FnPropagation a0) = some r) :
  Calls Tryz.prog 4 #[v0] wa (Sc Ha wa (Value.bool r)) := by
 unfold PF.laws_FnPropagation at hp
 have S0 := St.init hs
 refine calls_go (N := 228) (args := [v0]) Tryz.func4 rfl rfl rfl ?_
 refine FW.seq (FW.region ?_)
 refine FL.v (E.assign (v := Value.bool false) rfl) ?_
 refine FL.nil (FW.seq (FW.seq (FW.region ?_)))
 refine FL.v (E.move (v := v0) rfl) ?_
 refine FL.call rfl rfl rfl (E.call Tryz.call14 (A1 rfl)) (w_laws_vBig S0.sl v0 a0 p0) ?_
 rintro e w21 ⟨rfl, r22⟩
 refine ⟨_, rfl, ?_⟩
 have S23 := S0.call r22
 refine FL.nil ?_
 rcases ifB hp with ⟨c24, hp⟩ | ⟨c24, hp⟩
 ·
  refine FW.condT rfl c24 ?_
  refine FW.seq (FW.region ?_)
  refine FL.v (E.assign (v := Value.bool true) rfl) ?_
  refine FL.nil ?_
  refine FW.ret ?_
  obtain rfl := Option.some.inj hp
  exact ⟨.inr rfl, res1 rfl rfl ⟨rfl, S23.back⟩⟩
 ·
  refine FW.condF rfl c24 ?_
  refine FW.skip (FW.seq (FW.region ?_))
  refine FL.v (E.move (v := v0) rfl) ?_
  obtain ⟨r25, hr26, hp⟩ := bnd hp
  refine FL.call rfl rfl rfl (E.call Tryz.call15 (A1 rfl)) (w_spec_DrawPropagate S23.sl v0 a0 p0 hr26) ?_
  rintro e w28 ⟨H27, v31, v34, n35, cs36, rfl, r30, h32, els37⟩
  refine ⟨_, rfl, ?_⟩
  have nv33 : New Ha [v31] := New.of_up S23.sl h32.dom
  have h32 := h32.mono (up_le S23.size)
  have els37 := els37.mono (up_le S23.size)
  have S29 := S23.join (l' := [.row 3 1 v34 n35 cs36]) r30 rfl
  refine FL.v (E.move (v := Value.tuple #[Value.agg #[Value.int .i64 r25.1.vars, v31], v34]) rfl) ?_
  refine FL.v (E.extract (i := 0) rfl rfl) ?_
  refine FL.v (E.extract (i := 1) rfl rfl) ?_
  obtain ⟨b38, w39, run40, S41⟩ := S29.alloc (P := Tryz.prog) 26 [Value.int .i64 0, Value.slice none 0 0] Tryz.zeroValue26 rfl (ones_cons rfl (ones_cons rfl ones_nil))
  refine FL.v (E.alloc run40) ?_
  obtain ⟨w42, run43, S44⟩ := S41.store0 (P := Tryz.prog) (t := 26) (i := 0) (cs' := [Value.int .i64 r25.1.vars, v31]) (l' := [.box b38 26 [Value.int .i64 r25.1.vars, v31], .row 3 1 v34 n35 cs36]) (v := Value.agg #[Value.int .i64 r25.1.vars, v31]) (c := [Value.int .i64 r25.1.vars, v31]) rfl Tryz.sizeOf26 rfl rfl (ones_cons rfl (ones_cons h32.one ones_nil)) (Nat.le_of_ble_eq_true rfl) rfl rfl
  refine FL.act rfl rfl (E.store rfl rfl run43) ?_
  obtain ⟨H45, S46, i47, at48⟩ := S44.sealBox (i := 0) (l' := [.row 3 1 v34 n35 cs36]) rfl rfl
  refine FL.v (E.assign (v := v34) rfl) ?_
  refine FL.nil (FW.seq (FW.region ?_))
  refine FL.v (E.load rfl (run_loadA Tryz.isAgg26 Tryz.sizeOf26 (at48.now S46.sl) rfl)) ?_
  refine FL.v (E.move (v := v34) rfl) ?_
  obtain ⟨H49, S50, i51, h52, nv53⟩ := S46.sealRowU (i := 0) (l' := []) rfl (els37.mono (up_mono i47)) (by decide) rfl
  obtain ⟨r54, hr55, hp⟩ := bnd hp
  refine FL.call rfl rfl rfl (E.call Tryz.call16 (A2 rfl rfl)) (w_impl_Propagate S50.sl r25.1 v31 (h32.mono (upI.tr (i47.tr i51))) v34 r25.2 (h52.mono upI) hr55) ?_
  rintro e w57 ⟨H56, v62, rfl, r59, h63⟩
  refine ⟨_, rfl, ?_⟩
  obtain ⟨H60, r59, hU61⟩ := Run.lendX i51 S46.sl r59
  have nv64 : New H45 [v62] := New.of_up S46.sl h63.dom
  have h63 := h63.mono (hU61.tr (up_le S46.size))
  have S58 := S46.call r59
  refine FL.v (E.move (v := Value.tuple #[v62, Value.bool r54.2.1, Value.bool r54.2.2]) rfl) ?_
  refine FL.v (E.extract (i := 0) rfl rfl) ?_
  refine FL.v (E.extract (i := 1) rfl rfl) ?_
  refine FL.v (E.extract (i := 2) rfl rfl) ?_
  refine FL.v (E.assign (v := v62) rfl) ?_
  refine FL.v (E.assign (v := Value.bool r54.2.1) rfl) ?_
  refine FL.v (E.assign (v := Value.bool r54.2.2) rfl) ?_
  refine FL.nil (FW.seq (FW.seq (FW.region ?_)))
  refine FL.v (E.load rfl (run_loadA Tryz.isAgg26 Tryz.sizeOf26 ((at48.mono r59.inc).now S58.sl) rfl)) ?_
  refine FL.v (E.move (v := v34) rfl) ?_
  obtain ⟨H65, S66, i67, h68, nv69⟩ := S58.sealRowU (i := 0) (l' := []) rfl (els37.mono (up_mono (i47.tr r59.inc))) (by decide) rfl
  obtain ⟨r70, hr71, hp⟩ := bnd hp
  refine FL.call rfl rfl rfl (E.call Tryz.call17 (A2 rfl rfl)) (w_spec_Propagate S66.sl r25.1 v31 (h32.mono (upI.tr ((i47.tr r59.inc).tr i67))) v34 r25.2 (h68.mono upI) hr71) ?_
  rintro e w73 ⟨H72, v78, n79, cs80, rfl, r75, els81⟩
  refine ⟨_, rfl, ?_⟩
  obtain ⟨H76, r75, hU77⟩ := St.lendX i67 S58.sl r75
  have els81 := els81.mono (hU77.tr (up_le S58.size))
  have S74 := S58.join (l' := [.row 3 1 v78 n79 cs80, .row 3 1 v34 n35 cs36]) r75 rfl
  refine FL.v (E.move (v := Value.tuple #[v78, Value.bool r70.2.1, Value.bool r70.2.2]) rfl) ?_
  refine FL.v (E.extract (i := 0) rfl rfl) ?_
  refine FL.v (E.extract (i := 1) rfl rfl) ?_
  refine FL.v (E.extract (i := 2) rfl rfl) ?_
  refine FL.v (E.assign (v := v78) rfl) ?_
  refine FL.v (E.assign (v := Value.bool r70.2.1) rfl) ?_
  refine FL.v (E.assign (v := Value.bool r70.2.2) rfl) ?_
  refine FL.nil (FW.seq (FW.region ?_))
  refine FL.v (E.move (v := Value.bool r54.2.2) rfl) ?_
  refine FL.v (E.move (v := Value.bool r70.2.2) rfl) ?_
  refine FL.v (E.neqB Tryz.runUnderlying4 rfl rfl) ?_
  refine FL.v (E.move (v := Value.bool (!(r54.2.2 == r70.2.2))) rfl) ?_
  refine FL.cut 4 (fun f w => ∃ H : GH, St Ha wa H w [.row 3 1 v78 n79 cs80, .row 3 1 v34 n35 cs36] ∧ Inc H76 H ∧ f 0 = v0 ∧ f 3 = Value.pointer (some ⟨b38, 0, none⟩) ∧ f 4 = v34 ∧ f 5 = v62 ∧ f 6 = Value.bool r54.2.1 ∧ f 7 = Value.bool r54.2.2 ∧ f 8 = v78 ∧ f 65 = Value.bool (bif (!(r54.2.2 == r70.2.2)) then true else (!(r54.2.1 == r70.2.1)))) ?_ ?_
  ·
   rcases bcase (!(r54.2.2 == r70.2.2)) with c88 | c88
   ·
    refine FL.skip (wF_no rfl rfl rfl c88) rfl ?_
    refine FL.skip (wF_no rfl rfl rfl c88) rfl ?_
    refine FL.skip (wF_no rfl rfl rfl c88) rfl ?_
    refine FL.v (E.pickT rfl c88 rfl) ?_
    exact FL.nil ⟨rfl, _, S74, (Inc.rfl _), rfl, rfl, rfl, rfl, rfl, rfl, rfl, (congrArg Value.bool (bifT c88).symm)⟩
   ·
    refine FL.val (wF_yes rfl rfl rfl c88) rfl rfl (E.move (v := Value.bool r54.2.1) rfl) ?_
    refine FL.val (wF_yes rfl rfl rfl c88) rfl rfl (E.move (v := Value.bool r70.2.1) rfl) ?_
    refine FL.val (wF_yes rfl rfl rfl c88) rfl rfl (E.neqB Tryz.runUnderlying4 rfl rfl) ?_
    refine FL.v (E.pickF rfl c88 rfl) ?_
    exact FL.nil ⟨rfl, _, S74, (Inc.rfl _), rfl, rfl, rfl, rfl, rfl, rfl, rfl, (congrArg Value.bool (bifF c88).symm)⟩
  rintro f87 w86 ⟨H83, S84, i85, k89, k90, k91, k92, k93, k94, k95, k96⟩
  refine FL.v (E.move k96) ?_
  obtain ⟨t107, hqt107, hp⟩ := bnd hp
  refine FL.cut 5 (fun f w => ∃ H : GH, St Ha wa H w [.row 3 1 v78 n79 cs80, .row 3 1 v34 n35 cs36] ∧ Inc H83 H ∧ f 0 = v0 ∧ f 3 = Value.pointer (some ⟨b38, 0, none⟩) ∧ f 4 = v34 ∧ f 5 = v62 ∧ f 6 = Value.bool r54.2.1 ∧ f 7 = Value.bool r54.2.2 ∧ f 71 = Value.bool t107) ?_ ?_
  ·
   clear hp; have hp := hqt107; clear hqt107
   rcases ifB hp with ⟨c113, hp⟩ | ⟨c113, hp⟩
   ·
    refine FL.skip (wF_no rfl rfl rfl c113) rfl ?_
    refine FL.skip (wF_no rfl rfl rfl c113) rfl ?_
    refine FL.skip (wF_no rfl rfl rfl c113) rfl ?_
    refine FL.skip (wF_no rfl rfl rfl c113) rfl ?_
    obtain rfl := Option.some.inj hp
    refine FL.v (E.pickT rfl c113 rfl) ?_
    exact FL.nil ⟨rfl, _, S84, (Inc.rfl _), k89, k90, k91, k92, k93, k94, rfl⟩
   ·
    refine FL.val (wF_yes rfl rfl rfl c113) rfl rfl (E.move k92) ?_
    refine FL.val (wF_yes rfl rfl rfl c113) rfl rfl (E.move k95) ?_
    obtain ⟨H114, S115, i116, h117, nv118⟩ := S84.sealRowU (i := 0) (l' := [.row 3 1 v34 n35 cs36]) rfl (els81.mono (up_mono i85)) (by decide) rfl
    obtain ⟨r119, hr120, hp⟩ := bnd hp
    refine FL.call (wF_yes rfl rfl rfl c113) rfl rfl (E.call Tryz.call18 (A2 rfl rfl)) (w_laws_vInts S115.sl v62 r54.1 (h63.mono (upI.tr ((r75.run.inc.tr i85).tr i116))) v78 r70.1 (h117.mono upI) hr120) ?_
    rintro e w121 ⟨rfl, r122⟩
    refine ⟨_, rfl, ?_⟩
    have r122 := Run.lend i116 S84.sl r122
    have S123 := S84.call r122
    refine FL.val (wF_yes rfl rfl rfl c113) rfl rfl (E.not rfl) ?_
    obtain rfl := Option.some.inj hp
    refine FL.v (E.pickF rfl c113 rfl) ?_
    exact FL.nil ⟨rfl, _, S123, (Inc.rfl _), k89, k90, k91, k92, k93, k94, rfl⟩
  rintro f112 w111 ⟨H108, S109, i110, k124, k125, k126, k127, k128, k129, k130⟩
  refine FL.nil ?_
  rcases ifB hp with ⟨c131, hp⟩ | ⟨c131, hp⟩
  ·
   refine FW.condT k130 c131 ?_
   refine FW.seq (FW.region ?_)
   refine FL.v (E.assign (v := Value.bool false) rfl) ?_
   refine FL.nil ?_
   refine FW.ret ?_
   obtain rfl := Option.some.inj hp
   exact ⟨.inr rfl, res1 rfl rfl ⟨rfl, S109.back⟩⟩
  ·
   refine FW.condF k130 c131 ?_
   refine FW.skip (FW.seq (FW.seq (FW.region ?_)))
   refine FL.v (E.move k129) ?_
   refine FL.nil ?_
   obtain ⟨q97, hq, hp⟩ := bndR hp
   refine FW.joinE (S := Unit) (X := Bool) (q := q97) (fun s82 f w => ∃ H : GH, St Ha wa H w [.row 3 1 v34 n35 cs36] ∧ Inc H108 H ∧ f 0 = v0 ∧ f 3 = Value.pointer (some ⟨b38, 0, none⟩) ∧ f 4 = v34) (fun x e f w => (e = Exit.ret) ∧ (fun e f w => (e = Exit.normal ∨ e = Exit.ret) ∧ ∀ a, Fr (δ := []) 228 a f → ∃ v, (results Tryz.f4 a.tmps).run Tryz.prog w = .ok v w ∧ (Sc Ha wa (Value.bool x)) (.returned v) w) e f w) ?_ ?_ ?_
   ·
    clear hp; have hp := hq; clear hq
    rcases ifB hp with ⟨c99, hp⟩ | ⟨c99, hp⟩
    ·
     refine FW.condT rfl c99 ?_
     refine FW.seq (FW.region ?_)
     refine FL.v (E.load k125 (run_loadA Tryz.isAgg26 Tryz.sizeOf26 ((at48.mono (((r59.inc.tr r75.run.inc).tr i85).tr i110)).now S109.sl) rfl)) ?_
     obtain ⟨r100, hr101, hp⟩ := bnd hp
     refine FL.call rfl rfl rfl (E.call Tryz.call19 (A1 rfl)) (w_impl_AllModels S109.sl r25.1 v31 (h32.mono (upI.tr ((((i47.tr r59.inc).tr r75.run.inc).tr i85).tr i110))) hr101) ?_
     rintro e w103 ⟨H102, v106, n132, cs133, rfl, r105, els134⟩
     refine ⟨_, rfl, ?_⟩
     have els134 := els134.mono (up_le S109.size)
     have S104 := S109.join (l' := [.row 3 1 v106 n132 cs133, .row 3 1 v78 n79 cs80, .row 3 1 v34 n35 cs36]) r105 rfl
     refine FL.v (E.move (v := Value.tuple #[v106, Value.bool r100.2]) rfl) ?_
     refine FL.v (E.extract (i := 0) rfl rfl) ?_
     refine FL.v (E.extract (i := 1) rfl rfl) ?_
     refine FL.v (E.assign (v := v106) rfl) ?_
     refine FL.v (E.assign (v := Value.bool r100.2) rfl) ?_
     refine FL.nil (FW.seq (FW.region ?_))
     refine FL.v (E.assign (v := Value.int .i64 0) rfl) ?_
     refine FL.nil ?_
     obtain ⟨q135, hq, hp⟩ := bndR hp
     refine FW.block ?_
     refine FW.mono (FW.iter (S := Int) (X := (Rs Unit Bool)) (fun (s135 : Int) f w => ∃ H : GH, St Ha wa H w [.row 3 1 v106 n132 cs133, .row 3 1 v34 n35 cs36] ∧ Inc H102 H ∧ f 0 = v0 ∧ f 3 = Value.pointer (some ⟨b38, 0, none⟩) ∧ f 4 = v34 ∧ f 5 = v62 ∧ f 6 = Value.bool r54.2.1 ∧ f 11 = v106 ∧ f 12 = Value.bool r100.2 ∧ f 13 = Value.int .i64 s135) (fun q e f w => match q with | .go s135 => e = Exit.exit 0 ∧ (∃ H : GH, St Ha wa H w [.row 3 1 v106 n132 cs133, .row 3 1 v34 n35 cs36] ∧ Inc H102 H ∧ f 0 = v0 ∧ f 3 = Value.pointer (some ⟨b38, 0, none⟩) ∧ f 4 = v34) | .rt x => ((e = Exit.ret) ∧ (Jn (fun s82 f w => ∃ H : GH, St Ha wa H w [.row 3 1 v34 n35 cs36] ∧ Inc H108 H ∧ f 0 = v0 ∧ f 3 = Value.pointer (some ⟨b38, 0, none⟩) ∧ f 4 = v34) (fun x e f w => (e = Exit.ret) ∧ (fun e f w => (e = Exit.normal ∨ e = Exit.ret) ∧ ∀ a, Fr (δ := []) 228 a f → ∃ v, (results Tryz.f4 a.tmps).run Tryz.prog w = .ok v w ∧ (Sc Ha wa (Value.bool x)) (.returned v) w) e f w) x) e f w)) hq ⟨_, (S104.sel [0, 2] (by decide) rfl), (Inc.rfl _), k124, k125, k126, k127, k128, rfl, rfl, rfl⟩ ?_) ?_
     ·
      clear hp hq
      rintro s135 f140 w139 ⟨H136, S137, i138, k141, k142, k143, k144, k145, k146, k147, k148⟩ o315 hp
      refine FW.seq (FW.seq (FW.region ?_))
      refine FL.v (E.move k148) ?_
      refine FL.v (E.move k146) ?_
      refine FL.v (E.lenO te34 rfl S137 (i := 0) rfl els134 (by decide)) ?_
      refine FL.v (E.lss rfl rfl) ?_
      refine FL.v (E.move (v := Value.bool (decide (s135 < (len r100.1)))) rfl) ?_
      refine FL.cut 2 (fun f w => ∃ H : GH, St Ha wa H w [.row 3 1 v106 n132 cs133, .row 3 1 v34 n35 cs36] ∧ Inc H136 H ∧ f 0 = v0 ∧ f 3 = Value.pointer (some ⟨b38, 0, none⟩) ∧ f 4 = v34 ∧ f 5 = v62 ∧ f 6 = Value.bool r54.2.1 ∧ f 11 = v106 ∧ f 12 = Value.bool r100.2 ∧ f 13 = Value.int .i64 s135 ∧ f 84 = Value.bool (bif (decide (s135 < (len r100.1))) then r100.2 else false)) ?_ ?_
      ·
       rcases bcase (decide (s135 < (len r100.1))) with c154 | c154
       ·
        refine FL.val (wF_yes rfl rfl rfl c154) rfl rfl (E.move k147) ?_
        refine FL.v (E.pickT rfl c154 rfl) ?_
        exact FL.nil ⟨rfl, _, S137, (Inc.rfl _), k141, k142, k143, k144, k145, k146, k147, k148, (congrArg Value.bool (bifT c154).symm)⟩
       ·
        refine FL.skip (wF_no rfl rfl rfl c154) rfl ?_
        refine FL.v (E.pickF rfl c154 rfl) ?_
        exact FL.nil ⟨rfl, _, S137, (Inc.rfl _), k141, k142, k143, k144, k145, k146, k147, k148, (congrArg Value.bool (bifF c154).symm)⟩
      rintro f153 w152 ⟨H149, S150, i151, k155, k156, k157, k158, k159, k160, k161, k162, k163⟩
      refine FL.nil ?_
      rcases ifB hp with ⟨c164, hp⟩ | ⟨c164, hp⟩
      ·
       refine FW.condT k163 c164 ?_
       refine FW.skip (FW.seq (FW.block (FW.seq ?_)))
       obtain ⟨x174, hx175, hp⟩ := bnd hp
       obtain ⟨r177, hr178, hp⟩ := bnd hp
       refine FW.drawB (SX Ha wa H149 [.row 3 1 v106 n132 cs133]) (fun f w => ∃ H : GH, ∃ v187 : Value, ∃ n188 : Nat, ∃ cs189 : List Value, St Ha wa H w [.row 3 1 v106 n132 cs133, .row 3 1 v34 n35 cs36, .row 3 1 v187 n188 cs189] ∧ Inc H149 H ∧ Els (up wa.heap.size H) eI 1 cs189 r177.1 ∧ f 0 = v0 ∧ f 3 = Value.pointer (some ⟨b38, 0, none⟩) ∧ f 4 = v34 ∧ f 5 = v62 ∧ f 6 = Value.bool r54.2.1 ∧ f 11 = v106 ∧ f 12 = Value.bool r100.2 ∧ f 13 = Value.int .i64 s135 ∧ f 14 = v187 ∧ f 15 = Value.bool r177.2) (by kernel_rfl) S150.sl ?_ ?_
       ·
        intro w165 r166
        have S167 := S150.call r166
        refine FB.t (i := 0) (bs 12 1) rfl (SP.nil ⟨_, (S167.sel [0] (by decide) rfl), (Inc.rfl _)⟩) rfl (fun w' hw' => (E.fieldAddr tf26_0 k156)) ?_
        refine FB.t (i := 1) (bs 12 3) rfl (SP.nil ⟨_, (S167.sel [0] (by decide) rfl), (Inc.rfl _)⟩) rfl (fun w' hw' => (E.load rfl (run_load1 Tryz.isAgg3 ((at48.mono ((((((r59.inc.tr r75.run.inc).tr i85).tr i110).tr r105.run.inc).tr i138).tr i151)).now hw'.sl) rfl))) ?_
        refine FB.t (i := 2) (bs 12 7) rfl (SP.nil ⟨_, (S167.sel [0] (by decide) rfl), (Inc.rfl _)⟩) rfl (fun w' hw' => (E.move k160)) ?_
        refine FB.t (i := 3) (bs 12 15) rfl (SP.nil ⟨_, (S167.sel [0] (by decide) rfl), (Inc.rfl _)⟩) rfl (fun w' hw' => (E.move k162)) ?_
        obtain ⟨p168, cs169, pt170, l171, at172, rel173, hall176⟩ := S167.row_atA (i := 0) rfl els134 (by decide) hx175
        obtain rfl := eI_open rel173
        refine FB.t (i := 4) (bs 12 31) rfl (SP.nil ⟨_, (S167.sel [0] (by decide) rfl), (Inc.rfl _)⟩) rfl (fun w' hw' => (E.indexAddr te34 rfl rfl pt170)) ?_
        refine FB.t (i := 5) (bs 12 63) rfl (SP.nil ⟨_, (S167.sel [0] (by decide) rfl), (Inc.rfl _)⟩) rfl (fun w' hw' => (E.load rfl (run_load0 Tryz.isAgg3 (hw'.use fun _ st => hall176 _ _ _ 0 st rfl) rfl))) ?_
        refine FB.all1 (i := 6) (by kernel_rfl) ?_
        ·
         refine FC.call (l' := (bs 12 127)) rfl (by kernel_rfl) rfl rfl rfl (E.call Tryz.call20 (A2 rfl rfl)) (w_impl_TotalOf S167.sl r25.1.vars x174 hr178) ?_
         rintro e w180 ⟨H179, v183, n184, cs185, rfl, r182, els186⟩
         refine ⟨_, rfl, ?_⟩
         have els186 := els186.mono (up_le S167.size)
         have S181 := S167.join (l' := [.row 3 1 v183 n184 cs185, .row 3 1 v106 n132 cs133, .row 3 1 v34 n35 cs36]) r182 rfl
         refine ⟨(SP.nil ⟨_, (S181.sel [1] (by decide) rfl), r182.run.inc⟩), ?_⟩
         refine FB.t (i := 7) (bs 12 255) rfl (SP.nil ⟨_, (S181.sel [1] (by decide) rfl), r182.run.inc⟩) rfl (fun w' hw' => (E.move (v := Value.tuple #[v183, Value.bool r177.2]) rfl)) ?_
         refine FB.t (i := 8) (bs 12 511) rfl (SP.nil ⟨_, (S181.sel [1] (by decide) rfl), r182.run.inc⟩) rfl (fun w' hw' => (E.extract (i := 0) rfl rfl)) ?_
         refine FB.t (i := 9) (bs 12 1023) rfl (SP.nil ⟨_, (S181.sel [1] (by decide) rfl), r182.run.inc⟩) rfl (fun w' hw' => (E.extract (i := 1) rfl rfl)) ?_
         refine FB.t (i := 10) (bs 12 2047) rfl (SP.nil ⟨_, (S181.sel [1] (by decide) rfl), r182.run.inc⟩) rfl (fun w' hw' => (E.assign (v := v183) rfl)) ?_
         refine FB.t (i := 11) (bs 12 4095) rfl (SP.nil ⟨_, (S181.sel [1] (by decide) rfl), r182.run.inc⟩) rfl (fun w' hw' => (E.assign (v := Value.bool r177.2) rfl)) ?_
         exact FB.done (by kernel_rfl) ⟨_, _, _, _, (S181.sel [1, 2, 0] (by decide) rfl), r182.run.inc, els186, k155, k156, k157, k158, k159, k160, k161, k162, rfl, rfl⟩
       ·
        rintro f195 w194 ⟨H191, v187, n188, cs189, S192, i193, els190, k196, k197, k198, k199, k200, k201, k202, k203, k204, k205⟩
        refine FW.seq (FW.region ?_)
        refine FL.v (E.fieldAddr tf26_0 k197) ?_
        refine FL.v (E.load rfl (run_load1 Tryz.isAgg3 ((at48.mono (((((((r59.inc.tr r75.run.inc).tr i85).tr i110).tr r105.run.inc).tr i138).tr i151).tr i193)).now S192.sl) rfl)) ?_
        refine FL.v (E.move k198) ?_
        refine FL.v (E.move k204) ?_
        obtain ⟨H206, S207, i208, h209, nv210⟩ := S192.sealRowU (i := 1) (l' := [.row 3 1 v106 n132 cs133, .row 3 1 v187 n188 cs189]) rfl (els37.mono (up_mono ((((((((i47.tr r59.inc).tr r75.run.inc).tr i85).tr i110).tr r105.run.inc).tr i138).tr i151).tr i193))) (by decide) rfl
        obtain ⟨H211, S212, i213, h214, nv215⟩ := S207.sealRowU (i := 1) (l' := [.row 3 1 v106 n132 cs133]) rfl (els190.mono (up_mono i208)) (by decide) rfl
        obtain ⟨r216, hr217, hp⟩ := bnd hp
        refine FL.call rfl rfl rfl (E.call Tryz.call21 (A3 rfl rfl rfl)) (w_impl_DoesExtend S212.sl r25.1.vars v34 r25.2 (h209.mono (upI.tr i213)) v187 r177.1 (h214.mono upI) hr217) ?_
        rintro e w218 ⟨rfl, r219⟩
        refine ⟨_, rfl, ?_⟩
        have r219 := Run.lend (i208.tr i213) S192.sl r219
        have S220 := S192.call r219
        refine FL.v (E.move (v := Value.tuple #[Value.bool r216.1, Value.bool r216.2]) rfl) ?_
        refine FL.v (E.extract (i := 0) rfl rfl) ?_
        refine FL.v (E.extract (i := 1) rfl rfl) ?_
        refine FL.v (E.assign (v := Value.bool r216.1) rfl) ?_
        refine FL.v (E.assign (v := Value.bool r216.2) rfl) ?_
        refine FL.nil (FW.seq (FW.region ?_))
        refine FL.v (E.fieldAddr tf26_0 k197) ?_
        refine FL.v (E.load rfl (run_load1 Tryz.isAgg3 ((at48.mono (((((((r59.inc.tr r75.run.inc).tr i85).tr i110).tr r105.run.inc).tr i138).tr i151).tr i193)).now S220.sl) rfl)) ?_
        refine FL.v (E.move k199) ?_
        refine FL.v (E.move k204) ?_
        obtain ⟨H221, S222, i223, h224, nv225⟩ := S220.sealRowU (i := 2) (l' := [.row 3 1 v106 n132 cs133, .row 3 1 v34 n35 cs36]) rfl els190 (by decide) rfl
        obtain ⟨r226, hr227, hp⟩ := bnd hp
        refine FL.call rfl rfl rfl (E.call Tryz.call21 (A3 rfl rfl rfl)) (w_impl_DoesExtend S222.sl r25.1.vars v62 r54.1 (h63.mono (upI.tr (((((((r75.run.inc.tr i85).tr i110).tr r105.run.inc).tr i138).tr i151).tr i193).tr i223))) v187 r177.1 (h224.mono upI) hr227) ?_
        rintro e w228 ⟨rfl, r229⟩
        refine ⟨_, rfl, ?_⟩
        have r229 := Run.lend i223 S220.sl r229
        have S230 := S220.call r229
        refine FL.v (E.move (v := Value.tuple #[Value.bool r226.1, Value.bool r226.2]) rfl) ?_
        refine FL.v (E.extract (i := 0) rfl rfl) ?_
        refine FL.v (E.extract (i := 1) rfl rfl) ?_
        refine FL.v (E.assign (v := Value.bool r226.1) rfl) ?_
        refine FL.v (E.assign (v := Value.bool r226.2) rfl) ?_
        refine FL.nil (FW.seq (FW.region ?_))
        refine FL.v (E.move k205) ?_
        refine FL.v (E.not rfl) ?_
        refine FL.v (E.move (v := Value.bool (!r177.2)) rfl) ?_
        refine FL.cut 3 (fun f w => ∃ H : GH, St Ha wa H w [.row 3 1 v106 n132 cs133, .row 3 1 v34 n35 cs36, .row 3 1 v187 n188 cs189] ∧ Inc H191 H ∧ f 0 = v0 ∧ f 3 = Value.pointer (some ⟨b38, 0, none⟩) ∧ f 4 = v34 ∧ f 5 = v62 ∧ f 6 = Value.bool r54.2.1 ∧ f 11 = v106 ∧ f 12 = Value.bool r100.2 ∧ f 13 = Value.int .i64 s135 ∧ f 16 = Value.bool r216.1 ∧ f 18 = Value.bool r226.1 ∧ f 19 = Value.bool r226.2 ∧ f 118 = Value.bool (bif (!r177.2) then true else (!r216.2))) ?_ ?_
        ·
         rcases bcase (!r177.2) with c236 | c236
         ·
          refine FL.skip (wF_no rfl rfl rfl c236) rfl ?_
          refine FL.skip (wF_no rfl rfl rfl c236) rfl ?_
          refine FL.v (E.pickT rfl c236 rfl) ?_
          exact FL.nil ⟨rfl, _, S230, (Inc.rfl _), k196, k197, k198, k199, k200, k201, k202, k203, rfl, rfl, rfl, (congrArg Value.bool (bifT c236).symm)⟩
         ·
          refine FL.val (wF_yes rfl rfl rfl c236) rfl rfl (E.move (v := Value.bool r216.2) rfl) ?_
          refine FL.val (wF_yes rfl rfl rfl c236) rfl rfl (E.not rfl) ?_
          refine FL.v (E.pickF rfl c236 rfl) ?_
          exact FL.nil ⟨rfl, _, S230, (Inc.rfl _), k196, k197, k198, k199, k200, k201, k202, k203, rfl, rfl, rfl, (congrArg Value.bool (bifF c236).symm)⟩
        rintro f235 w234 ⟨H231, S232, i233, k237, k238, k239, k240, k241, k242, k243, k244, k245, k246, k247, k248⟩
        refine FL.v (E.move k248) ?_
        refine FL.cut 3 (fun f w => ∃ H : GH, St Ha wa H w [.row 3 1 v106 n132 cs133, .row 3 1 v34 n35 cs36, .row 3 1 v187 n188 cs189] ∧ Inc H231 H ∧ f 0 = v0 ∧ f 3 = Value.pointer (some ⟨b38, 0, none⟩) ∧ f 4 = v34 ∧ f 5 = v62 ∧ f 6 = Value.bool r54.2.1 ∧ f 11 = v106 ∧ f 12 = Value.bool r100.2 ∧ f 13 = Value.int .i64 s135 ∧ f 16 = Value.bool r216.1 ∧ f 18 = Value.bool r226.1 ∧ f 122 = Value.bool (bif (bif (!r177.2) then true else (!r216.2)) then true else (!r226.2))) ?_ ?_
        ·
         rcases bcase (bif (!r177.2) then true else (!r216.2)) with c254 | c254
         ·
          refine FL.skip (wF_no rfl rfl rfl c254) rfl ?_
          refine FL.skip (wF_no rfl rfl rfl c254) rfl ?_
          refine FL.v (E.pickT rfl c254 rfl) ?_
          exact FL.nil ⟨rfl, _, S232, (Inc.rfl _), k237, k238, k239, k240, k241, k242, k243, k244, k245, k246, (congrArg Value.bool (bifT c254).symm)⟩
         ·
          refine FL.val (wF_yes rfl rfl rfl c254) rfl rfl (E.move k247) ?_
          refine FL.val (wF_yes rfl rfl rfl c254) rfl rfl (E.not rfl) ?_
          refine FL.v (E.pickF rfl c254 rfl) ?_
          exact FL.nil ⟨rfl, _, S232, (Inc.rfl _), k237, k238, k239, k240, k241, k242, k243, k244, k245, k246, (congrArg Value.bool (bifF c254).symm)⟩
        rintro f253 w252 ⟨H249, S250, i251, k255, k256, k257, k258, k259, k260, k261, k262, k263, k264, k265⟩
        refine FL.v (E.move k265) ?_
        refine FL.cut 9 (fun f w => ∃ H : GH, St Ha wa H w [.row 3 1 v106 n132 cs133, .row 3 1 v34 n35 cs36, .row 3 1 v187 n188 cs189] ∧ Inc H249 H ∧ f 0 = v0 ∧ f 3 = Value.pointer (some ⟨b38, 0, none⟩) ∧ f 4 = v34 ∧ f 5 = v62 ∧ f 6 = Value.bool r54.2.1 ∧ f 11 = v106 ∧ f 12 = Value.bool r100.2 ∧ f 13 = Value.int .i64 s135 ∧ f 132 = Value.bool (bif (bif (bif (!r177.2) then true else (!r216.2)) then true else (!r226.2)) then true else (bif r216.1 then (bif r54.2.1 then true else (!r226.1)) else false))) ?_ ?_
        ·
         rcases bcase (bif (bif (!r177.2) then true else (!r216.2)) then true else (!r226.2)) with c271 | c271
         ·
          refine FL.skip (wF_no rfl rfl rfl c271) rfl ?_
          refine FL.skip (wF_no rfl rfl rfl c271) rfl ?_
          refine FL.skip (wF_undef rfl rfl rfl) rfl ?_
          refine FL.skip (wF_undef rfl rfl rfl) rfl ?_
          refine FL.skip (wF_undef rfl rfl rfl) rfl ?_
          refine FL.skip (wF_undef rfl rfl rfl) rfl ?_
          refine FL.skip (wF_undef rfl rfl rfl) rfl ?_
          refine FL.skip (wF_no rfl rfl rfl c271) rfl ?_
          refine FL.v (E.pickT rfl c271 rfl) ?_
          exact FL.nil ⟨rfl, _, S250, (Inc.rfl _), k255, k256, k257, k258, k259, k260, k261, k262, (congrArg Value.bool (bifT c271).symm)⟩
         ·
          refine FL.val (wF_yes rfl rfl rfl c271) rfl rfl (E.move k263) ?_
          refine FL.val (wF_yes rfl rfl rfl c271) rfl rfl (E.move (v := Value.bool r216.1) rfl) ?_
          refine FL.cut 6 (fun f w => ∃ H : GH, St Ha wa H w [.row 3 1 v106 n132 cs133, .row 3 1 v34 n35 cs36, .row 3 1 v187 n188 cs189] ∧ Inc H249 H ∧ f 0 = v0 ∧ f 3 = Value.pointer (some ⟨b38, 0, none⟩) ∧ f 4 = v34 ∧ f 5 = v62 ∧ f 6 = Value.bool r54.2.1 ∧ f 11 = v106 ∧ f 12 = Value.bool r100.2 ∧ f 13 = Value.int .i64 s135 ∧ f 123 = Value.bool (bif (bif (!r177.2) then true else (!r216.2)) then true else (!r226.2)) ∧ f 131 = Value.bool (bif r216.1 then (bif r54.2.1 then true else (!r226.1)) else false)) ?_ ?_
          ·
           rcases bcase r216.1 with c277 | c277
           ·
            refine FL.val (wF_yes rfl rfl rfl c277) rfl rfl (E.move k259) ?_
            refine FL.val (wF_yes rfl rfl rfl c277) rfl rfl (E.move (v := Value.bool r54.2.1) rfl) ?_
            refine FL.cut 3 (fun f w => ∃ H : GH, St Ha wa H w [.row 3 1 v106 n132 cs133, .row 3 1 v34 n35 cs36, .row 3 1 v187 n188 cs189] ∧ Inc H249 H ∧ f 0 = v0 ∧ f 3 = Value.pointer (some ⟨b38, 0, none⟩) ∧ f 4 = v34 ∧ f 5 = v62 ∧ f 6 = Value.bool r54.2.1 ∧ f 11 = v106 ∧ f 12 = Value.bool r100.2 ∧ f 13 = Value.int .i64 s135 ∧ f 123 = Value.bool (bif (bif (!r177.2) then true else (!r216.2)) then true else (!r226.2)) ∧ f 125 = Value.bool r216.1 ∧ f 130 = Value.bool (bif r54.2.1 then true else (!r226.1))) ?_ ?_
            ·
             rcases bcase r54.2.1 with c283 | c283
             ·
              refine FL.skip (wF_no rfl rfl rfl c283) rfl ?_
              refine FL.skip (wF_no rfl rfl rfl c283) rfl ?_
              refine FL.val (wF_yes rfl rfl rfl c277) rfl rfl (E.pickT rfl c283 rfl) ?_
              exact FL.nil ⟨rfl, _, S250, (Inc.rfl _), k255, k256, k257, k258, k259, k260, k261, k262, rfl, rfl, (congrArg Value.bool (bifT c283).symm)⟩
             ·
              refine FL.val (wF_yes rfl rfl rfl c283) rfl rfl (E.move k264) ?_
              refine FL.val (wF_yes rfl rfl rfl c283) rfl rfl (E.not rfl) ?_
              refine FL.val (wF_yes rfl rfl rfl c277) rfl rfl (E.pickF rfl c283 rfl) ?_
              exact FL.nil ⟨rfl, _, S250, (Inc.rfl _), k255, k256, k257, k258, k259, k260, k261, k262, rfl, rfl, (congrArg Value.bool (bifF c283).symm)⟩
            rintro f282 w281 ⟨H278, S279, i280, k284, k285, k286, k287, k288, k289, k290, k291, k292, k293, k294⟩
            refine FL.val (wF_yes rfl rfl k292 c271) rfl rfl (E.pickT k293 c277 k294) ?_
            exact FL.nil ⟨rfl, _, S279, i280, k284, k285, k286, k287, k288, k289, k290, k291, k292, (congrArg Value.bool (bifT c277).symm)⟩
           ·
            refine FL.skip (wF_no rfl rfl rfl c277) rfl ?_
            refine FL.skip (wF_no rfl rfl rfl c277) rfl ?_
            refine FL.skip (wF_undef rfl rfl rfl) rfl ?_
            refine FL.skip (wF_undef rfl rfl rfl) rfl ?_
            refine FL.skip (wF_no rfl rfl rfl c277) rfl ?_
            refine FL.val (wF_yes rfl rfl rfl c271) rfl rfl (E.pickF rfl c277 rfl) ?_
            exact FL.nil ⟨rfl, _, S250, (Inc.rfl _), k255, k256, k257, k258, k259, k260, k261, k262, rfl, (congrArg Value.bool (bifF c277).symm)⟩
          rintro f276 w275 ⟨H272, S273, i274, k295, k296, k297, k298, k299, k300, k301, k302, k303, k304⟩
          refine FL.v (E.pickF k303 c271 k304) ?_
          exact FL.nil ⟨rfl, _, S273, i274, k295, k296, k297, k298, k299, k300, k301, k302, (congrArg Value.bool (bifF c271).symm)⟩
        rintro f270 w269 ⟨H266, S267, i268, k305, k306, k307, k308, k309, k310, k311, k312, k313⟩
        refine FL.nil ?_
        rcases ifB hp with ⟨c314, hp⟩ | ⟨c314, hp⟩
        ·
         refine FW.condT k313 c314 ?_
         refine FW.seq (FW.region ?_)
         refine FL.v (E.assign (v := Value.bool false) rfl) ?_
         refine FL.nil ?_
         refine FW.ret ?_
         obtain rfl := Option.some.inj hp
         exact ⟨nofun, rfl, ⟨nofun, rfl, ⟨.inr rfl, res1 rfl rfl ⟨rfl, S267.back⟩⟩⟩⟩
        ·
         refine FW.condF k313 c314 ?_
         refine FW.skip (FW.region ?_)
         refine FL.v (E.move k312) ?_
         refine FL.v (E.add rfl rfl) ?_
         refine FL.v (E.assign (v := Value.int .i64 (wr (s135 + 1))) rfl) ?_
         refine FL.nil ?_
         obtain rfl := Option.some.inj hp
         exact ⟨rfl, ⟨_, (S267.sel [0, 1] (by decide) rfl), (((((i138.tr i151).tr i193).tr i233).tr i251).tr i268), k305, k306, k307, k308, k309, k310, k311, rfl⟩⟩
      ·
       refine FW.condF k163 c164 ?_
       refine FW.exit ?_
       obtain rfl := Option.some.inj hp
       exact ⟨nofun, rfl, ⟨_, S150, (i138.tr i151), k155, k156, k157⟩⟩
     ·
      clear hq
      intro e f320 w319 hD
      rcases q135 with s135 | x135
      ·
       obtain ⟨rfl, hD⟩ := hD
       obtain ⟨H316, S317, i318, k321, k322, k323⟩ := hD
       replace hp := el_go hp
       obtain rfl := Option.some.inj hp
       exact ⟨rfl, ⟨_, (S317.sel [1] (by decide) rfl), (r105.run.inc.tr i318), k321, k322, k323⟩⟩
      ·
       obtain ⟨he, hL⟩ := hD
       replace hp := el_rt hp
       obtain rfl := Option.some.inj hp
       subst he
       exact hL
    ·
     refine FW.condF rfl c99 ?_
     refine FW.skip ?_
     obtain rfl := Option.some.inj hp
     exact ⟨rfl, ⟨_, (S109.sel [1] (by decide) rfl), (Inc.rfl _), k124, k125, k126⟩⟩
   ·
    rintro s82 rfl f328 w327 ⟨H324, S325, i326, k329, k330, k331⟩
    replace hp := el_go hp
    refine FW.seq (FW.region ?_)
    refine FL.v (E.load k330 (run_loadA Tryz.isAgg26 Tryz.sizeOf26 ((at48.mono ((((r59.inc.tr r75.run.inc).tr i85).tr i110).tr i326)).now S325.sl) rfl)) ?_
    refine FL.v (E.move k331) ?_
    obtain ⟨H332, S333, i334, h335, nv336⟩ := S325.sealRowU (i := 0) (l' := []) rfl (els37.mono (up_mono (((((i47.tr r59.inc).tr r75.run.inc).tr i85).tr i110).tr i326))) (by decide) rfl
    obtain ⟨r337, hr338, hp⟩ := bnd hp
    refine FL.call rfl rfl rfl (E.call Tryz.call22 (A2 rfl rfl)) (w_impl_PropagationSteps S333.sl r25.1 v31 (h32.mono (upI.tr ((((((i47.tr r59.inc).tr r75.run.inc).tr i85).tr i110).tr i326).tr i334))) v34 r25.2 (h335.mono upI) hr338) ?_
    rintro e w340 ⟨H339, v345, n346, cs347, rfl, r342, els348⟩
    refine ⟨_, rfl, ?_⟩
    obtain ⟨H343, r342, hU344⟩ := St.lendX i334 S325.sl r342
    have els348 := els348.mono (hU344.tr (up_le S325.size))
    have S341 := S325.join (l' := [.row 47 2 v345 n346 cs347, .row 3 1 v34 n35 cs36]) r342 rfl
    refine FL.v (E.move (v := Value.tuple #[v345, Value.bool r337.2]) rfl) ?_
    refine FL.v (E.extract (i := 0) rfl rfl) ?_
    refine FL.v (E.extract (i := 1) rfl rfl) ?_
    refine FL.v (E.assign (v := v345) rfl) ?_
    refine FL.v (E.assign (v := Value.bool r337.2) rfl) ?_
    refine FL.nil (FW.seq (FW.seq (FW.region ?_)))
    refine FL.v (E.load k330 (run_loadA Tryz.isAgg26 Tryz.sizeOf26 ((at48.mono (((((r59.inc.tr r75.run.inc).tr i85).tr i110).tr i326).tr r342.run.inc)).now S341.sl) rfl)) ?_
    refine FL.v (E.move k331) ?_
    obtain ⟨H349, S350, i351, h352, nv353⟩ := S341.sealRowU (i := 1) (l' := [.row 47 2 v345 n346 cs347]) rfl (els37.mono (up_mono ((((((i47.tr r59.inc).tr r75.run.inc).tr i85).tr i110).tr i326).tr r342.run.inc))) (by decide) rfl
    obtain ⟨r354, hr355, hp⟩ := bnd hp
    refine FL.call rfl rfl rfl (E.call Tryz.call23 (A2 rfl rfl)) (w_spec_PropagationSteps S350.sl r25.1 v31 (h32.mono (upI.tr (((((((i47.tr r59.inc).tr r75.run.inc).tr i85).tr i110).tr i326).tr r342.run.inc).tr i351))) v34 r25.2 (h352.mono upI) hr355) ?_
    rintro e w357 ⟨H356, v362, n363, cs364, rfl, r359, els365⟩
    refine ⟨_, rfl, ?_⟩
    obtain ⟨H360, r359, hU361⟩ := St.lendX i351 S341.sl r359
    have els365 := els365.mono (hU361.tr (up_le S341.size))
    have S358 := S341.join (l' := [.row 47 2 v362 n363 cs364, .row 47 2 v345 n346 cs347, .row 3 1 v34 n35 cs36]) r359 rfl
    refine FL.v (E.move (v := Value.tuple #[v362, Value.bool r354.2]) rfl) ?_
    refine FL.v (E.extract (i := 0) rfl rfl) ?_
    refine FL.v (E.extract (i := 1) rfl rfl) ?_
    refine FL.v (E.assign (v := v362) rfl) ?_
    refine FL.v (E.assign (v := Value.bool r354.2) rfl) ?_
    refine FL.nil (FW.seq (FW.region ?_))
    refine FL.v (E.move (v := Value.bool r337.2) rfl) ?_
    refine FL.v (E.move (v := Value.bool r354.2) rfl) ?_
    refine FL.v (E.neqB Tryz.runUnderlying4 rfl rfl) ?_
    refine FL.v (E.move (v := Value.bool (!(r337.2 == r354.2))) rfl) ?_
    refine FL.cut 6 (fun f w => ∃ H : GH, St Ha wa H w [.row 47 2 v362 n363 cs364, .row 47 2 v345 n346 cs347, .row 3 1 v34 n35 cs36] ∧ Inc H360 H ∧ f 0 = v0 ∧ f 20 = v345 ∧ f 22 = v362 ∧ f 154 = Value.bool (bif (!(r337.2 == r354.2)) then true else (!((len r337.1) == (len r354.1))))) ?_ ?_
    ·
     rcases bcase (!(r337.2 == r354.2)) with c371 | c371
     ·
      refine FL.skip (wF_no rfl rfl rfl c371) rfl ?_
      refine FL.skip (wF_no rfl rfl rfl c371) rfl ?_
      refine FL.skip (wF_no rfl rfl rfl c371) rfl ?_
      refine FL.skip (wF_no rfl rfl rfl c371) rfl ?_
      refine FL.skip (wF_no rfl rfl rfl c371) rfl ?_
      refine FL.v (E.pickT rfl c371 rfl) ?_
      exact FL.nil ⟨rfl, _, S358, (Inc.rfl _), k329, rfl, rfl, (congrArg Value.bool (bifT c371).symm)⟩
     ·
      refine FL.val (wF_yes rfl rfl rfl c371) rfl rfl (E.move (v := v345) rfl) ?_
      refine FL.val (wF_yes rfl rfl rfl c371) rfl rfl (E.lenO te44 rfl S358 (i := 1) rfl els348 (by decide)) ?_
      refine FL.val (wF_yes rfl rfl rfl c371) rfl rfl (E.move (v := v362) rfl) ?_
      refine FL.val (wF_yes rfl rfl rfl c371) rfl rfl (E.lenO te44 rfl S358 (i := 0) rfl els365 (by decide)) ?_
      refine FL.val (wF_yes rfl rfl rfl c371) rfl rfl (E.neq rfl rfl) ?_
      refine FL.v (E.pickF rfl c371 rfl) ?_
      exact FL.nil ⟨rfl, _, S358, (Inc.rfl _), k329, rfl, rfl, (congrArg Value.bool (bifF c371).symm)⟩
    rintro f370 w369 ⟨H366, S367, i368, k372, k373, k374, k375⟩
    refine FL.nil ?_
    rcases ifB hp with ⟨c376, hp⟩ | ⟨c376, hp⟩
    ·
     refine FW.condT k375 c376 ?_
     refine FW.seq (FW.region ?_)
     refine FL.v (E.assign (v := Value.bool false) rfl) ?_
     refine FL.nil ?_
     refine FW.ret ?_
     obtain rfl := Option.some.inj hp
     exact ⟨.inr rfl, res1 rfl rfl ⟨rfl, S367.back⟩⟩
    ·
     refine FW.condF k375 c376 ?_
     refine FW.seq (FW.region ?_)
     refine FL.v (E.assign (v := Value.int .i64 0) rfl) ?_
     refine FL.nil ?_
     obtain ⟨q377, hq, hp⟩ := bndR hp
     refine FW.block ?_
     refine FW.mono (FW.iter (S := Int) (X := Bool) (fun (s377 : Int) f w => ∃ H : GH, St Ha wa H w [.row 47 2 v362 n363 cs364, .row 47 2 v345 n346 cs347] ∧ Inc H366 H ∧ f 0 = v0 ∧ f 20 = v345 ∧ f 22 = v362 ∧ f 24 = Value.int .i64 s377) (fun q e f w => match q with | .go s377 => e = Exit.exit 2 ∧ (∃ H : GH, St Ha wa H w [.row 47 2 v362 n363 cs364, .row 47 2 v345 n346 cs347] ∧ Inc H366 H ∧ f 0 = v0) | .rt x => ((e = Exit.ret) ∧ (fun e f w => (e = Exit.normal ∨ e = Exit.ret) ∧ ∀ a, Fr (δ := []) 228 a f → ∃ v, (results Tryz.f4 a.tmps).run Tryz.prog w = .ok v w ∧ (Sc Ha wa (Value.bool x)) (.returned v) w) e f w)) hq ⟨_, (S367.sel [0, 1] (by decide) rfl), (Inc.rfl _), k372, k373, k374, rfl⟩ ?_) ?_
     ·
      clear hp hq
      rintro s377 f382 w381 ⟨H378, S379, i380, k383, k384, k385, k386⟩ o408 hp
      refine FW.seq (FW.seq (FW.region ?_))
      refine FL.v (E.move k386) ?_
      refine FL.v (E.move k384) ?_
      refine FL.v (E.lenO te44 rfl S379 (i := 1) rfl els348 (by decide)) ?_
      refine FL.v (E.lss rfl rfl) ?_
      refine FL.nil ?_
      rcases ifB hp with ⟨c387, hp⟩ | ⟨c387, hp⟩
      ·
       refine FW.condT rfl c387 ?_
       refine FW.skip (FW.seq (FW.block (FW.seq ?_)))
       refine FW.draw (fun w' => Run w381.heap.size H378 w381 H378 w') (by kernel_rfl) (by kernel_rfl) (run_drew S379.sl) ?_
       refine FD.val rfl rfl rfl (fun w' hw' => (E.move k384)) ?_
       refine FD.val rfl rfl rfl (fun w' hw' => (E.move k386)) ?_
       obtain ⟨x394, hx395, hp⟩ := bnd hp
       obtain ⟨p388, cs389, pt390, l391, at392, rel393⟩ := S379.row_at (i := 1) rfl els348 (by decide) hx395
       obtain rfl := eI2_open rel393
       refine FD.val rfl rfl rfl (fun w' hw' => (E.indexAddr te44 rfl rfl pt390)) ?_
       refine FD.val rfl rfl rfl (fun w' hw' => (E.load rfl (run_loadA Tryz.isAgg47 Tryz.sizeOf47 (at392.cls hw') rfl))) ?_
       refine FD.val rfl rfl rfl (fun w' hw' => (E.move k385)) ?_
       refine FD.val rfl rfl rfl (fun w' hw' => (E.move k386)) ?_
       obtain ⟨x402, hx403, hp⟩ := bnd hp
       obtain ⟨p396, cs397, pt398, l399, at400, rel401⟩ := S379.row_at (i := 0) rfl els365 (by decide) hx403
       obtain rfl := eI2_open rel401
       refine FD.val rfl rfl rfl (fun w' hw' => (E.indexAddr te44 rfl rfl pt398)) ?_
       refine FD.val rfl rfl rfl (fun w' hw' => (E.load rfl (run_loadA Tryz.isAgg47 Tryz.sizeOf47 (at400.cls hw') rfl))) ?_
       refine FD.val rfl rfl rfl (fun w' hw' => (E.neqA sg47 (sq47 x394.1 x394.2 x402.1 x402.2) rfl rfl)) ?_
       refine FD.nil ?_
       intro w404 r406
       have S405 := S379.call r406
       rcases ifB hp with ⟨c407, hp⟩ | ⟨c407, hp⟩
       ·
        refine FW.condT rfl c407 ?_
        refine FW.seq (FW.region ?_)
        refine FL.v (E.assign (v := Value.bool false) rfl) ?_
        refine FL.nil ?_
        refine FW.ret ?_
        obtain rfl := Option.some.inj hp
        exact ⟨nofun, rfl, ⟨.inr rfl, res1 rfl rfl ⟨rfl, S405.back⟩⟩⟩
       ·
        refine FW.condF rfl c407 ?_
        refine FW.skip (FW.region ?_)
        refine FL.v (E.move k386) ?_
        refine FL.v (E.add rfl rfl) ?_
        refine FL.v (E.assign (v := Value.int .i64 (wr (s377 + 1))) rfl) ?_
        refine FL.nil ?_
        obtain rfl := Option.some.inj hp
        exact ⟨rfl, ⟨_, S405, i380, k383, k384, k385, rfl⟩⟩
      ·
       refine FW.condF rfl c387 ?_
       refine FW.exit ?_
       obtain rfl := Option.some.inj hp
       exact ⟨nofun, rfl, ⟨_, S379, i380, k383⟩⟩
     ·
      clear hq
      intro e f413 w412 hD
      rcases q377 with s377 | x377
      ·
       obtain ⟨rfl, hD⟩ := hD
       obtain ⟨H409, S410, i411, k414⟩ := hD
       replace hp := el_go hp
       refine FW.seq (FW.region ?_)
       refine FL.v (E.move k414) ?_
       obtain ⟨r415, hr416, hp⟩ := bnd hp
       refine FL.call rfl rfl rfl (E.call Tryz.call24 (A1 rfl)) (w_spec_DrawIsAutarky S410.sl v0 a0 (p0.mono ((((((((((r30.run.inc.tr i47).tr r59.inc).tr r75.run.inc).tr i85).tr i110).tr i326).tr r342.run.inc).tr r359.run.inc).tr i368).tr i411)) hr416) ?_
       rintro e w418 ⟨H417, v421, v424, n425, cs426, rfl, r420, h422, els427⟩
       refine ⟨_, rfl, ?_⟩
       have nv423 : New H409 [v421] := New.of_up S410.sl h422.dom
       have h422 := h422.mono (up_le S410.size)
       have els427 := els427.mono (up_le S410.size)
       have S419 := S410.join (l' := [.row 3 1 v424 n425 cs426, .row 47 2 v362 n363 cs364, .row 47 2 v345 n346 cs347]) r420 rfl
       refine FL.v (E.move (v := Value.tuple #[Value.agg #[Value.int .i64 r415.1.vars, v421], v424]) rfl) ?_
       refine FL.v (E.extract (i := 0) rfl rfl) ?_
       refine FL.v (E.extract (i := 1) rfl rfl) ?_
       obtain ⟨b428, w429, run430, S431⟩ := S419.alloc (P := Tryz.prog) 26 [Value.int .i64 0, Value.slice none 0 0] Tryz.zeroValue26 rfl (ones_cons rfl (ones_cons rfl ones_nil))
       refine FL.v (E.alloc run430) ?_
       obtain ⟨w432, run433, S434⟩ := S431.store0 (P := Tryz.prog) (t := 26) (i := 0) (cs' := [Value.int .i64 r415.1.vars, v421]) (l' := [.box b428 26 [Value.int .i64 r415.1.vars, v421], .row 3 1 v424 n425 cs426, .row 47 2 v362 n363 cs364, .row 47 2 v345 n346 cs347]) (v := Value.agg #[Value.int .i64 r415.1.vars, v421]) (c := [Value.int .i64 r415.1.vars, v421]) rfl Tryz.sizeOf26 rfl rfl (ones_cons rfl (ones_cons h422.one ones_nil)) (Nat.le_of_ble_eq_true rfl) rfl rfl
       refine FL.act rfl rfl (E.store rfl rfl run433) ?_
       obtain ⟨H435, S436, i437, at438⟩ := S434.sealBox (i := 0) (l' := [.row 3 1 v424 n425 cs426, .row 47 2 v362 n363 cs364, .row 47 2 v345 n346 cs347]) rfl rfl
       refine FL.v (E.assign (v := v424) rfl) ?_
       refine FL.nil (FW.seq (FW.region ?_))
       refine FL.v (E.load rfl (run_loadA Tryz.isAgg26 Tryz.sizeOf26 (at438.now S436.sl) rfl)) ?_
       refine FL.v (E.move (v := v424) rfl) ?_
       obtain ⟨H439, S440, i441, h442, nv443⟩ := S436.sealRowU (i := 0) (l' := [.row 47 2 v362 n363 cs364, .row 47 2 v345 n346 cs347]) rfl (els427.mono (up_mono i437)) (by decide) rfl
       obtain ⟨r444, hr445, hp⟩ := bnd hp
       refine FL.call rfl rfl rfl (E.call Tryz.call25 (A2 rfl rfl)) (w_impl_IsAutarky S440.sl r415.1 v421 (h422.mono (upI.tr (i437.tr i441))) v424 r415.2 (h442.mono upI) hr445) ?_
       rintro e w446 ⟨rfl, r447⟩
       refine ⟨_, rfl, ?_⟩
       have r447 := Run.lend i441 S436.sl r447
       have S448 := S436.call r447
       refine FL.v (E.move (v := Value.tuple #[Value.bool r444.1, Value.bool r444.2]) rfl) ?_
       refine FL.v (E.extract (i := 0) rfl rfl) ?_
       refine FL.v (E.extract (i := 1) rfl rfl) ?_
       refine FL.v (E.assign (v := Value.bool r444.1) rfl) ?_
       refine FL.v (E.assign (v := Value.bool r444.2) rfl) ?_
       refine FL.nil (FW.seq (FW.seq (FW.region ?_)))
       refine FL.v (E.load rfl (run_loadA Tryz.isAgg26 Tryz.sizeOf26 (at438.now S448.sl) rfl)) ?_
       refine FL.v (E.move (v := v424) rfl) ?_
       obtain ⟨H449, S450, i451, h452, nv453⟩ := S448.sealRowU (i := 0) (l' := [.row 47 2 v362 n363 cs364, .row 47 2 v345 n346 cs347]) rfl (els427.mono (up_mono i437)) (by decide) rfl
       obtain ⟨r454, hr455, hp⟩ := bnd hp
       refine FL.call rfl rfl rfl (E.call Tryz.call26 (A2 rfl rfl)) (w_spec_IsAutarky S450.sl r415.1 v421 (h422.mono (upI.tr (i437.tr i451))) v424 r415.2 (h452.mono upI) hr455) ?_
       rintro e w456 ⟨rfl, r457⟩
       refine ⟨_, rfl, ?_⟩
       have r457 := Run.lend i451 S448.sl r457
       have S458 := S448.call r457
       refine FL.v (E.move (v := Value.tuple #[Value.bool r454.1, Value.bool r454.2]) rfl) ?_
       refine FL.v (E.extract (i := 0) rfl rfl) ?_
       refine FL.v (E.extract (i := 1) rfl rfl) ?_
       refine FL.v (E.assign (v := Value.bool r454.1) rfl) ?_
       refine FL.v (E.assign (v := Value.bool r454.2) rfl) ?_
       refine FL.nil (FW.seq (FW.region ?_))
       refine FL.v (E.move (v := Value.bool r444.1) rfl) ?_
       refine FL.v (E.move (v := Value.bool r454.1) rfl) ?_
       refine FL.v (E.neqB Tryz.runUnderlying4 rfl rfl) ?_
       refine FL.v (E.move (v := Value.bool (!(r444.1 == r454.1))) rfl) ?_
       refine FL.cut 4 (fun f w => ∃ H : GH, St Ha wa H w [.row 3 1 v424 n425 cs426, .row 47 2 v362 n363 cs364, .row 47 2 v345 n346 cs347] ∧ Inc H435 H ∧ f 25 = Value.pointer (some ⟨b428, 0, none⟩) ∧ f 26 = v424 ∧ f 27 = Value.bool r444.1 ∧ f 28 = Value.bool r444.2 ∧ f 194 = Value.bool (bif (!(r444.1 == r454.1)) then true else (!(r444.2 == r454.2)))) ?_ ?_
       ·
        rcases bcase (!(r444.1 == r454.1)) with c464 | c464
        ·
         refine FL.skip (wF_no rfl rfl rfl c464) rfl ?_
         refine FL.skip (wF_no rfl rfl rfl c464) rfl ?_
         refine FL.skip (wF_no rfl rfl rfl c464) rfl ?_
         refine FL.v (E.pickT rfl c464 rfl) ?_
         exact FL.nil ⟨rfl, _, S458, (Inc.rfl _), rfl, rfl, rfl, rfl, (congrArg Value.bool (bifT c464).symm)⟩
        ·
         refine FL.val (wF_yes rfl rfl rfl c464) rfl rfl (E.move (v := Value.bool r444.2) rfl) ?_
         refine FL.val (wF_yes rfl rfl rfl c464) rfl rfl (E.move (v := Value.bool r454.2) rfl) ?_
         refine FL.val (wF_yes rfl rfl rfl c464) rfl rfl (E.neqB Tryz.runUnderlying4 rfl rfl) ?_
         refine FL.v (E.pickF rfl c464 rfl) ?_
         exact FL.nil ⟨rfl, _, S458, (Inc.rfl _), rfl, rfl, rfl, rfl, (congrArg Value.bool (bifF c464).symm)⟩
       rintro f463 w462 ⟨H459, S460, i461, k465, k466, k467, k468, k469⟩
       refine FL.nil ?_
       rcases ifB hp with ⟨c470, hp⟩ | ⟨c470, hp⟩
       ·
        refine FW.condT k469 c470 ?_
        refine FW.seq (FW.region ?_)
        refine FL.v (E.assign (v := Value.bool false) rfl) ?_
        refine FL.nil ?_
        refine FW.ret ?_
        obtain rfl := Option.some.inj hp
        exact ⟨.inr rfl, res1 rfl rfl ⟨rfl, S460.back⟩⟩
       ·
        refine FW.condF k469 c470 ?_
        refine FW.skip (FW.seq (FW.seq (FW.region ?_)))
        refine FL.v (E.move k468) ?_
        refine FL.v (E.move (v := Value.bool r444.2) rfl) ?_
        refine FL.cut 2 (fun f w => ∃ H : GH, St Ha wa H w [.row 3 1 v424 n425 cs426, .row 47 2 v362 n363 cs364, .row 47 2 v345 n346 cs347] ∧ Inc H459 H ∧ f 25 = Value.pointer (some ⟨b428, 0, none⟩) ∧ f 26 = v424 ∧ f 198 = Value.bool (bif r444.2 then r444.1 else false)) ?_ ?_
        ·
         rcases bcase r444.2 with c476 | c476
         ·
          refine FL.val (wF_yes rfl rfl rfl c476) rfl rfl (E.move k467) ?_
          refine FL.v (E.pickT rfl c476 rfl) ?_
          exact FL.nil ⟨rfl, _, S460, (Inc.rfl _), k465, k466, (congrArg Value.bool (bifT c476).symm)⟩
         ·
          refine FL.skip (wF_no rfl rfl rfl c476) rfl ?_
          refine FL.v (E.pickF rfl c476 rfl) ?_
          exact FL.nil ⟨rfl, _, S460, (Inc.rfl _), k465, k466, (congrArg Value.bool (bifF c476).symm)⟩
        rintro f475 w474 ⟨H471, S472, i473, k477, k478, k479⟩
        refine FL.nil ?_
        rcases ifB hp with ⟨c480, hp⟩ | ⟨c480, hp⟩
        ·
         refine FW.condT k479 c480 ?_
         refine FW.seq (FW.region ?_)
         refine FL.v (E.load k477 (run_loadA Tryz.isAgg26 Tryz.sizeOf26 ((at438.mono (i461.tr i473)).now S472.sl) rfl)) ?_
         refine FL.v (E.move k478) ?_
         obtain ⟨H481, S482, i483, h484, nv485⟩ := S472.sealRowU (i := 0) (l' := [.row 47 2 v362 n363 cs364, .row 47 2 v345 n346 cs347]) rfl (els427.mono (up_mono ((i437.tr i461).tr i473))) (by decide) rfl
         obtain ⟨r486, hr487, hp⟩ := bnd hp
         refine FL.call rfl rfl rfl (E.call Tryz.call27 (A2 rfl rfl)) (w_impl_RestrictCnf S482.sl r415.1 v421 (h422.mono (upI.tr (((i437.tr i461).tr i473).tr i483))) v424 r415.2 (h484.mono upI) hr487) ?_
         rintro e w489 ⟨H488, v494, rfl, r491, ⟨c497, ns496⟩⟩
         refine ⟨_, rfl, ?_⟩
         obtain ⟨H492, r491, hU493⟩ := Run.lendX i483 S472.sl r491
         have h495 := ns496.rsl
         have nv498 : New H471 c497 := New.of_up S472.sl (fun b hb => ns496.dom b (.inr hb))
         have nv499 : New H471 [v494] := New.of_up S472.sl h495.dom
         have h495 := h495.mono (hU493.tr (up_le S472.size))
         have ns496 := ns496.mono (hU493.tr (up_le S472.size))
         have S490 := S472.call r491
         refine FL.v (E.move (v := Value.tuple #[Value.agg #[Value.int .i64 r486.1.vars, v494], Value.bool r486.2]) rfl) ?_
         refine FL.v (E.extract (i := 0) rfl rfl) ?_
         refine FL.v (E.extract (i := 1) rfl rfl) ?_
         obtain ⟨b500, w501, run502, S503⟩ := S490.alloc (P := Tryz.prog) 26 [Value.int .i64 0, Value.slice none 0 0] Tryz.zeroValue26 rfl (ones_cons rfl (ones_cons rfl ones_nil))
         refine FL.v (E.alloc run502) ?_
         obtain ⟨w504, run505, S506⟩ := S503.store0 (P := Tryz.prog) (t := 26) (i := 0) (cs' := [Value.int .i64 r486.1.vars, v494]) (l' := [.box b500 26 [Value.int .i64 r486.1.vars, v494], .row 3 1 v424 n425 cs426, .row 47 2 v362 n363 cs364, .row 47 2 v345 n346 cs347]) (v := Value.agg #[Value.int .i64 r486.1.vars, v494]) (c := [Value.int .i64 r486.1.vars, v494]) rfl Tryz.sizeOf26 rfl rfl (ones_cons rfl (ones_cons h495.one ones_nil)) (Nat.le_of_ble_eq_true rfl) rfl rfl
         refine FL.act rfl rfl (E.store rfl rfl run505) ?_
         obtain ⟨H507, S508, i509, at510⟩ := S506.sealBox (i := 0) (l' := [.row 3 1 v424 n425 cs426, .row 47 2 v362 n363 cs364, .row 47 2 v345 n346 cs347]) rfl rfl
         refine FL.v (E.assign (v := Value.bool r486.2) rfl) ?_
         refine FL.nil (FW.seq (FW.region ?_))
         refine FL.v (E.load k477 (run_loadA Tryz.isAgg26 Tryz.sizeOf26 ((at438.mono (((i461.tr i473).tr r491.inc).tr i509)).now S508.sl) rfl)) ?_
         obtain ⟨r511, hr512, hp⟩ := bnd hp
         refine FL.call rfl rfl rfl (E.call Tryz.call28 (A1 rfl)) (w_impl_IsSatisfiable S508.sl r415.1 v421 (h422.mono (upI.tr ((((i437.tr i461).tr i473).tr r491.inc).tr i509))) hr512) ?_
         rintro e w513 ⟨rfl, r514⟩
         refine ⟨_, rfl, ?_⟩
         have S515 := S508.call r514
         refine FL.v (E.move (v := Value.tuple #[Value.bool r511.1, Value.bool r511.2]) rfl) ?_
         refine FL.v (E.extract (i := 0) rfl rfl) ?_
         refine FL.v (E.extract (i := 1) rfl rfl) ?_
         refine FL.v (E.assign (v := Value.bool r511.1) rfl) ?_
         refine FL.v (E.assign (v := Value.bool r511.2) rfl) ?_
         refine FL.nil (FW.seq (FW.region ?_))
         refine FL.v (E.load rfl (run_loadA Tryz.isAgg26 Tryz.sizeOf26 (at510.now S515.sl) rfl)) ?_
         obtain ⟨r516, hr517, hp⟩ := bnd hp
         refine FL.call rfl rfl rfl (E.call Tryz.call28 (A1 rfl)) (w_impl_IsSatisfiable S515.sl r486.1 v494 (h495.mono (upI.tr i509)) hr517) ?_
         rintro e w518 ⟨rfl, r519⟩
         refine ⟨_, rfl, ?_⟩
         have S520 := S515.call r519
         refine FL.v (E.move (v := Value.tuple #[Value.bool r516.1, Value.bool r516.2]) rfl) ?_
         refine FL.v (E.extract (i := 0) rfl rfl) ?_
         refine FL.v (E.extract (i := 1) rfl rfl) ?_
         refine FL.v (E.assign (v := Value.bool r516.1) rfl) ?_
         refine FL.v (E.assign (v := Value.bool r516.2) rfl) ?_
         refine FL.nil (FW.seq (FW.region ?_))
         refine FL.v (E.move (v := Value.bool r486.2) rfl) ?_
         refine FL.v (E.not rfl) ?_
         refine FL.v (E.move (v := Value.bool (!r486.2)) rfl) ?_
         refine FL.cut 10 (fun f w => ∃ H : GH, St Ha wa H w [.row 3 1 v424 n425 cs426, .row 47 2 v362 n363 cs364, .row 47 2 v345 n346 cs347] ∧ Inc H507 H ∧ f 227 = Value.bool (bif (!r486.2) then true else (bif (bif r511.2 then r516.2 else false) then (!(r511.1 == r516.1)) else false))) ?_ ?_
         ·
          rcases bcase (!r486.2) with c526 | c526
          ·
           refine FL.skip (wF_no rfl rfl rfl c526) rfl ?_
           refine FL.skip (wF_no rfl rfl rfl c526) rfl ?_
           refine FL.skip (wF_undef rfl rfl rfl) rfl ?_
           refine FL.skip (wF_no rfl rfl rfl c526) rfl ?_
           refine FL.skip (wF_no rfl rfl rfl c526) rfl ?_
           refine FL.skip (wF_undef rfl rfl rfl) rfl ?_
           refine FL.skip (wF_undef rfl rfl rfl) rfl ?_
           refine FL.skip (wF_undef rfl rfl rfl) rfl ?_
           refine FL.skip (wF_no rfl rfl rfl c526) rfl ?_
           refine FL.v (E.pickT rfl c526 rfl) ?_
           exact FL.nil ⟨rfl, _, S520, (Inc.rfl _), (congrArg Value.bool (bifT c526).symm)⟩
          ·
           refine FL.val (wF_yes rfl rfl rfl c526) rfl rfl (E.move (v := Value.bool r511.2) rfl) ?_
           refine FL.val (wF_yes rfl rfl rfl c526) rfl rfl (E.move (v := Value.bool r511.2) rfl) ?_
           refine FL.cut 2 (fun f w => ∃ H : GH, St Ha wa H w [.row 3 1 v424 n425 cs426, .row 47 2 v362 n363 cs364, .row 47 2 v345 n346 cs347] ∧ Inc H507 H ∧ f 33 = Value.bool r511.1 ∧ f 35 = Value.bool r516.1 ∧ f 217 = Value.bool (!r486.2) ∧ f 221 = Value.bool (bif r511.2 then r516.2 else false)) ?_ ?_
           ·
            rcases bcase r511.2 with c532 | c532
            ·
             refine FL.val (wF_yes rfl rfl rfl c532) rfl rfl (E.move (v := Value.bool r516.2) rfl) ?_
             refine FL.val (wF_yes rfl rfl rfl c526) rfl rfl (E.pickT rfl c532 rfl) ?_
             exact FL.nil ⟨rfl, _, S520, (Inc.rfl _), rfl, rfl, rfl, (congrArg Value.bool (bifT c532).symm)⟩
            ·
             refine FL.skip (wF_no rfl rfl rfl c532) rfl ?_
             refine FL.val (wF_yes rfl rfl rfl c526) rfl rfl (E.pickF rfl c532 rfl) ?_
             exact FL.nil ⟨rfl, _, S520, (Inc.rfl _), rfl, rfl, rfl, (congrArg Value.bool (bifF c532).symm)⟩
           rintro f531 w530 ⟨H527, S528, i529, k533, k534, k535, k536⟩
           refine FL.val (wF_yes rfl rfl k535 c526) rfl rfl (E.move k536) ?_
           refine FL.cut 4 (fun f w => ∃ H : GH, St Ha wa H w [.row 3 1 v424 n425 cs426, .row 47 2 v362 n363 cs364, .row 47 2 v345 n346 cs347] ∧ Inc H527 H ∧ f 217 = Value.bool (!r486.2) ∧ f 226 = Value.bool (bif (bif r511.2 then r516.2 else false) then (!(r511.1 == r516.1)) else false)) ?_ ?_
           ·
            rcases bcase (bif r511.2 then r516.2 else false) with c542 | c542
            ·
             refine FL.val (wF_yes rfl rfl rfl c542) rfl rfl (E.move k533) ?_
             refine FL.val (wF_yes rfl rfl rfl c542) rfl rfl (E.move k534) ?_
             refine FL.val (wF_yes rfl rfl rfl c542) rfl rfl (E.neqB Tryz.runUnderlying4 rfl rfl) ?_
             refine FL.val (wF_yes rfl rfl k535 c526) rfl rfl (E.pickT rfl c542 rfl) ?_
             exact FL.nil ⟨rfl, _, S528, (Inc.rfl _), k535, (congrArg Value.bool (bifT c542).symm)⟩
            ·
             refine FL.skip (wF_no rfl rfl rfl c542) rfl ?_
             refine FL.skip (wF_no rfl rfl rfl c542) rfl ?_
             refine FL.skip (wF_no rfl rfl rfl c542) rfl ?_
             refine FL.val (wF_yes rfl rfl k535 c526) rfl rfl (E.pickF rfl c542 rfl) ?_
             exact FL.nil ⟨rfl, _, S528, (Inc.rfl _), k535, (congrArg Value.bool (bifF c542).symm)⟩
           rintro f541 w540 ⟨H537, S538, i539, k543, k544⟩
           refine FL.v (E.pickF k543 c526 k544) ?_
           exact FL.nil ⟨rfl, _, S538, (i529.tr i539), (congrArg Value.bool (bifF c526).symm)⟩
         rintro f525 w524 ⟨H521, S522, i523, k545⟩
         refine FL.nil ?_
         rcases ifB hp with ⟨c546, hp⟩ | ⟨c546, hp⟩
         ·
          refine FW.condT k545 c546 ?_
          refine FW.seq (FW.region ?_)
          refine FL.v (E.assign (v := Value.bool false) rfl) ?_
          refine FL.nil ?_
          refine FW.ret ?_
          obtain rfl := Option.some.inj hp
          exact ⟨.inr rfl, res1 rfl rfl ⟨rfl, S522.back⟩⟩
         ·
          refine FW.condF k545 c546 ?_
          refine FW.skip (FW.seq (FW.region ?_))
          refine FL.v (E.assign (v := Value.bool true) rfl) ?_
          refine FL.nil ?_
          refine FW.ret ?_
          obtain rfl := Option.some.inj hp
          exact ⟨.inr rfl, res1 rfl rfl ⟨rfl, S522.back⟩⟩
        ·
         refine FW.condF k479 c480 ?_
         refine FW.skip (FW.seq (FW.region ?_))
         refine FL.v (E.assign (v := Value.bool true) rfl) ?_
         refine FL.nil ?_
         refine FW.ret ?_
         obtain rfl := Option.some.inj hp
         exact ⟨.inr rfl, res1 rfl rfl ⟨rfl, S472.back⟩⟩
      ·
       obtain ⟨he, hL⟩ := hD
       replace hp := el_rt hp
       obtain rfl := Option.some.inj hp
       subst he
       exact hL
   ·
    rintro x98 rfl e f w hne ⟨he, hL⟩
    replace hp := el_rt hp
    obtain rfl := Option.some.inj hp
    subst he
    exact hL

end Go.Proofs
