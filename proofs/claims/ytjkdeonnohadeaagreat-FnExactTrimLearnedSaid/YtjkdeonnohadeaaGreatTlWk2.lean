/- Part of the walks and plain laws behind the claim: it proves helpers, under no condition beyond their own. -/
import Derived.Test.YtjkdeonnohadeaaGreatTlWk1
set_option linter.unusedVariables false
set_option maxRecDepth 100000
namespace Go.Proofs
open Go.Mr Go.Pu Go.PF Go.RowKit

theorem w_slices_IndexFunc_LLint_Lint {Ha : GH} {wa : World} (hs : Sl Ha wa) (v0 : Value) (a0 : List (List Int)) (p0 : RSl Ha (eL eI 1) 1 v0 a0) (v1 : Value) (a1 : (List Int) → Option Bool) (p1 : Fn_List_Int_to_B Tryz.prog Ha v1 a1) {r : Int} (hp : (PF.slices_IndexFunc_LLint_Lint a0 a1) = some r) :
  Calls Tryz.prog 139 #[v0, v1] wa (Sc Ha wa (Value.int .i64 r)) := by
 unfold PF.slices_IndexFunc_LLint_Lint at hp
 have S0 := St.init hs
 refine calls_go (N := 19) (args := [v0, v1]) Tryz.func139 rfl rfl rfl ?_
 refine FW.seq (FW.region ?_)
 refine FL.v (E.assign (v := Value.int .i64 0) rfl) ?_
 refine FL.nil (FW.seq (FW.seq (FW.region ?_)))
 refine FL.v (E.move (v := v0) rfl) ?_
 refine FL.v (E.lenP te22 rfl p0) ?_
 refine FL.v (E.move (v := Value.int .i64 0) rfl) ?_
 refine FL.nil ?_
 obtain ⟨q22, hq, hp⟩ := bndR hp
 refine FW.block ?_
 refine FW.mono (FW.forL (S := Unit) (X := Int) (fun (i22 : Nat) (s22 : Unit) f w => ∃ H : GH, St Ha wa H w [] ∧ Inc Ha H ∧ f 8 = Value.int .i64 ((i22 : Nat) : Int) ∧ f 0 = v0 ∧ f 1 = v1 ∧ f 7 = Value.int .i64 (len a0)) (fun q e f w => match q with | .go s22 => e = Exit.exit 0 ∧ (∃ H : GH, St Ha wa H w [] ∧ Inc Ha H) | .rt x => ((e = Exit.ret) ∧ (fun e f w => (e = Exit.normal ∨ e = Exit.ret) ∧ ∀ a, Fr (δ := []) 19 a f → ∃ v, (results Tryz.f139 a.tmps).run Tryz.prog w = .ok v w ∧ (Sc Ha wa (Value.int .i64 x)) (.returned v) w) e f w)) hq ⟨_, S0, (Inc.rfl _), rfl, rfl, rfl, rfl⟩ ?_ ?_) ?_
 ·
  clear hp hq
  rintro i22 y21 s22 f55 w54 ⟨H51, S52, i53, k56, k57, k58, k59⟩ hx22 o79 hp
  refine FW.seq (FW.region ?_)
  refine FL.v (E.lssT k56 k59 (lss_len hx22)) ?_
  refine FL.nil (FW.seq ?_)
  refine FW.condT rfl rfl ?_
  refine FW.skip (FW.seq (FW.block (FW.seq (FW.region ?_))))
  refine FL.v (E.move k56) ?_
  refine FL.v (E.assign (v := Value.int .i64 ((i22 : Nat) : Int)) rfl) ?_
  refine FL.nil (FW.seq (FW.region ?_))
  refine FL.v (E.move k58) ?_
  refine FL.v (E.move k57) ?_
  refine FL.v (E.move (v := Value.int .i64 ((i22 : Nat) : Int)) rfl) ?_
  obtain ⟨p60, cs61, pt62, l63, at64, rel65⟩ := p0.at (ix_nat hx22)
  obtain ⟨v66, rfl, h67⟩ := eL_open rel65
  refine FL.v (E.indexAddr te22 rfl rfl pt62) ?_
  refine FL.v (E.load rfl (run_load0 Tryz.isAgg44 ((at64.mono i53).now S52.sl) rfl)) ?_
  obtain ⟨r68, hr69, hp⟩ := bnd hp
  obtain ⟨fi73, cs74, hv75, he76, hc77⟩ := (p1.mono i53) H51 w54 (Inc.rfl _) S52.sl y21 v66 (h67.mono i53) r68 hr69
  refine FL.call rfl rfl rfl (E.callV he76 (Eq.trans rfl hv75) (appA (A1 rfl) cs74)) hc77 ?_
  rintro e w70 ⟨rfl, r71⟩
  refine ⟨_, rfl, ?_⟩
  have S72 := S52.call r71
  refine FL.nil ?_
  rcases ifB hp with ⟨c78, hp⟩ | ⟨c78, hp⟩
  ·
   refine FW.condT rfl c78 ?_
   refine FW.seq (FW.region ?_)
   refine FL.v (E.move (v := Value.int .i64 ((i22 : Nat) : Int)) rfl) ?_
   refine FL.v (E.assign (v := Value.int .i64 ((i22 : Nat) : Int)) rfl) ?_
   refine FL.nil ?_
   refine FW.ret ?_
   obtain rfl := Option.some.inj hp
   exact ⟨nofun, rfl, ⟨.inr rfl, res1 rfl rfl ⟨rfl, S72.back⟩⟩⟩
  ·
   refine FW.condF rfl c78 ?_
   refine FW.skip (FW.region ?_)
   refine FL.v (E.add k56 rfl) ?_
   refine FL.v (E.move (v := Value.int .i64 (wr (((i22 : Nat) : Int) + 1))) rfl) ?_
   refine FL.nil ?_
   obtain rfl := Option.some.inj hp
   exact ⟨rfl, ⟨_, S72, i53, (nat_succ rfl (lt_of_get hx22) (p0.mono i53).le), k57, k58, k59⟩⟩
 ·
  clear hp hq
  rintro s22 f89 w88 ⟨H85, S86, i87, k90, k91, k92, k93⟩
  refine FW.seq (FW.region ?_)
  refine FL.v (E.lss k90 k93) ?_
  refine FL.nil (FW.seq ?_)
  refine FW.condF rfl dlt_len ?_
  refine FW.exit ?_
  exact ⟨nofun, rfl, ⟨_, S86, i87⟩⟩
 ·
  clear hq
  intro e f84 w83 hD
  rcases q22 with s22 | x22
  ·
   obtain ⟨rfl, hD⟩ := hD
   obtain ⟨H80, S81, i82⟩ := hD
   replace hp := el_go hp
   refine FW.seq (FW.region ?_)
   refine FL.v (E.assign (v := Value.int .i64 (-1)) rfl) ?_
   refine FL.nil ?_
   refine FW.ret ?_
   obtain rfl := Option.some.inj hp
   exact ⟨.inr rfl, res1 rfl rfl ⟨rfl, S81.back⟩⟩
  ·
   obtain ⟨he, hL⟩ := hD
   replace hp := el_rt hp
   obtain rfl := Option.some.inj hp
   subst he
   exact hL

theorem w_slices_ContainsFunc_LLint_Lint {Ha : GH} {wa : World} (hs : Sl Ha wa) (v0 : Value) (a0 : List (List Int)) (p0 : RSl Ha (eL eI 1) 1 v0 a0) (v1 : Value) (a1 : (List Int) → Option Bool) (p1 : Fn_List_Int_to_B Tryz.prog Ha v1 a1) {r : Bool} (hp : (PF.slices_ContainsFunc_LLint_Lint a0 a1) = some r) :
  Calls Tryz.prog 110 #[v0, v1] wa (Sc Ha wa (Value.bool r)) := by
 unfold PF.slices_ContainsFunc_LLint_Lint at hp
 have S0 := St.init hs
 refine calls_go (N := 9) (args := [v0, v1]) Tryz.func110 rfl rfl rfl ?_
 refine FW.seq (FW.region ?_)
 refine FL.v (E.assign (v := Value.bool false) rfl) ?_
 refine FL.nil (FW.seq (FW.region ?_))
 refine FL.v (E.move (v := v0) rfl) ?_
 refine FL.v (E.move (v := v1) rfl) ?_
 obtain ⟨r21, hr22, hp⟩ := bnd hp
 refine FL.call rfl rfl rfl (E.call Tryz.call139 (A2 rfl rfl)) (w_slices_IndexFunc_LLint_Lint S0.sl v0 a0 p0 v1 a1 p1 hr22) ?_
 rintro e w23 ⟨rfl, r24⟩
 refine ⟨_, rfl, ?_⟩
 have S25 := S0.call r24
 refine FL.v (E.geq rfl rfl) ?_
 refine FL.v (E.assign (v := Value.bool (decide (0 ≤ r21))) rfl) ?_
 refine FL.nil ?_
 refine FW.ret ?_
 obtain rfl := Option.some.inj hp
 exact ⟨.inr rfl, res1 rfl rfl ⟨rfl, S25.back⟩⟩

theorem w_impl_listOk_1 {Ha : GH} {wa : World} (hs : Sl Ha wa) (v0 : Value) (a0 : List Int) (p0 : RSl Ha eI 1 v0 a0) (q0 : Addr) (b0 : Cnf) (u0_1 : Value) (g0_1 : RSl Ha (eL eI 1) 1 u0_1 b0.clauses) (c0 : CAt Ha q0 [Value.int .i64 b0.vars, u0_1]) {r : Bool} (hp : (PF.impl_listOk_1 a0 b0) = some r) :
  Calls Tryz.prog 111 #[v0, Value.pointer (some q0)] wa (Sc Ha wa (Value.bool r)) := by
 unfold PF.impl_listOk_1 at hp
 have S0 := St.init hs
 refine calls_go (N := 9) (args := [v0, Value.pointer (some q0)]) Tryz.func111 rfl rfl rfl ?_
 refine FW.seq (FW.region ?_)
 refine FL.v (E.assign (v := Value.bool false) rfl) ?_
 refine FL.nil (FW.seq (FW.region ?_))
 refine FL.v (E.fieldAddr tf28_0 rfl) ?_
 refine FL.v (E.load rfl (run_load1 Tryz.isAgg3 (c0.now S0.sl) rfl)) ?_
 refine FL.v (E.move (v := v0) rfl) ?_
 obtain ⟨r21, hr22, hp⟩ := bnd hp
 refine FL.call rfl rfl rfl (E.call Tryz.call112 (A2 rfl rfl)) (w_impl_IsClause S0.sl b0.vars v0 a0 p0 hr22) ?_
 rintro e w23 ⟨rfl, r24⟩
 refine ⟨_, rfl, ?_⟩
 have S25 := S0.call r24
 refine FL.v (E.not rfl) ?_
 refine FL.v (E.assign (v := Value.bool (!r21)) rfl) ?_
 refine FL.nil ?_
 refine FW.ret ?_
 obtain rfl := Option.some.inj hp
 exact ⟨.inr rfl, res1 rfl rfl ⟨rfl, S25.back⟩⟩

theorem w_impl_listOk {Ha : GH} {wa : World} (hs : Sl Ha wa) (a0 : Cnf) (v0_1 : Value) (p0_1 : RSl Ha (eL eI 1) 1 v0_1 a0.clauses) (v1 : Value) (a1 : List (List Int)) (p1 : RSl Ha (eL eI 1) 1 v1 a1) {r : Bool} (hp : (PF.impl_listOk a0 a1) = some r) :
  Calls Tryz.prog 77 #[Value.agg #[Value.int .i64 a0.vars, v0_1], v1] wa (Sc Ha wa (Value.bool r)) := by
 unfold PF.impl_listOk at hp
 have S0 := St.init hs
 refine calls_go (N := 18) (args := [Value.agg #[Value.int .i64 a0.vars, v0_1], v1]) Tryz.func77 rfl rfl rfl ?_
 refine FW.seq (FW.region ?_)
 obtain ⟨b21, w22, run23, S24⟩ := S0.box (P := Tryz.prog) 28 [Value.int .i64 a0.vars, v0_1] (v := Value.agg #[Value.int .i64 a0.vars, v0_1]) rfl (ones_cons rfl (ones_cons p0_1.one ones_nil))
 refine FL.v (E.box rfl run23) ?_
 obtain ⟨H25, S26, i27, at28⟩ := S24.sealBox (i := 0) (l' := []) rfl rfl
 refine FL.v (E.assign (v := Value.bool false) rfl) ?_
 refine FL.nil (FW.seq (FW.region ?_))
 refine FL.v (E.load rfl (run_loadA Tryz.isAgg28 Tryz.sizeOf28 (at28.now S26.sl) rfl)) ?_
 obtain ⟨r29, hr30, hp⟩ := bnd hp
 refine FL.call rfl rfl rfl (E.call Tryz.call99 (A1 rfl)) (w_impl_IsCnf S26.sl a0 v0_1 (p0_1.mono i27) hr30) ?_
 rintro e w31 ⟨rfl, r32⟩
 refine ⟨_, rfl, ?_⟩
 have S33 := S26.call r32
 refine FL.v (E.move (v := Value.bool r29) rfl) ?_
 refine FL.cut 4 (fun f w => ∃ H : GH, St Ha wa H w [] ∧ Inc H25 H ∧ f 1 = v1 ∧ f 2 = Value.pointer (some ⟨b21, 0, none⟩) ∧ f 11 = Value.bool (bif r29 then (decide ((len a1) ≤ 60)) else false)) ?_ ?_
 ·
  rcases bcase r29 with c40 | c40
  ·
   refine FL.val (wF_yes rfl rfl rfl c40) rfl rfl (E.move (v := v1) rfl) ?_
   refine FL.val (wF_yes rfl rfl rfl c40) rfl rfl (E.lenP te22 rfl p1) ?_
   refine FL.val (wF_yes rfl rfl rfl c40) rfl rfl (E.leq rfl rfl) ?_
   refine FL.v (E.pickT rfl c40 rfl) ?_
   exact FL.nil ⟨rfl, _, S33, (Inc.rfl _), rfl, rfl, (congrArg Value.bool (bifT c40).symm)⟩
  ·
   refine FL.skip (wF_no rfl rfl rfl c40) rfl ?_
   refine FL.skip (wF_no rfl rfl rfl c40) rfl ?_
   refine FL.skip (wF_no rfl rfl rfl c40) rfl ?_
   refine FL.v (E.pickF rfl c40 rfl) ?_
   exact FL.nil ⟨rfl, _, S33, (Inc.rfl _), rfl, rfl, (congrArg Value.bool (bifF c40).symm)⟩
 rintro f39 w38 ⟨H35, S36, i37, k41, k42, k43⟩
 refine FL.v (E.move k43) ?_
 obtain ⟨t49, hqt49, hp⟩ := bnd hp
 refine FL.cut 5 (fun f w => ∃ H : GH, St Ha wa H w [] ∧ Inc H35 H ∧ f 17 = Value.bool t49) ?_ ?_
 ·
  clear hp; have hp := hqt49; clear hqt49
  rcases ifB hp with ⟨c55, hp⟩ | ⟨c55, hp⟩
  ·
   refine FL.val (wF_yes rfl rfl rfl c55) rfl rfl (E.move k41) ?_
   refine FL.val (wF_yes rfl rfl rfl c55) rfl rfl (E.makeFunc A0 (A1 k42)) ?_
   obtain ⟨r56, hr57, hp⟩ := bnd hp
   refine FL.call (wF_yes rfl rfl rfl c55) rfl rfl (E.call Tryz.call110 (A2 rfl rfl)) (w_slices_ContainsFunc_LLint_Lint S36.sl v1 a1 (p1.mono (i27.tr i37)) (Value.func (.func 111) #[] #[Value.pointer (some ⟨b21, 0, none⟩)]) (fun x0 => PF.impl_listOk_1 x0 a0) (fun H2 w2 hi2 hs2 x0 y0 z0 r hr => ⟨111, #[Value.pointer (some ⟨b21, 0, none⟩)], rfl, Tryz.call111, w_impl_listOk_1 hs2 y0 x0 z0 ⟨b21, 0, none⟩ a0 v0_1 ((p0_1.mono (i27.tr i37)).mono hi2) ((at28.mono i37).mono hi2) hr⟩) hr57) ?_
   rintro e w58 ⟨rfl, r59⟩
   refine ⟨_, rfl, ?_⟩
   have S60 := S36.call r59
   refine FL.val (wF_yes rfl rfl rfl c55) rfl rfl (E.not rfl) ?_
   obtain rfl := Option.some.inj hp
   refine FL.v (E.pickT rfl c55 rfl) ?_
   exact FL.nil ⟨rfl, _, S60, (Inc.rfl _), rfl⟩
  ·
   refine FL.skip (wF_no rfl rfl rfl c55) rfl ?_
   refine FL.skip (wF_no rfl rfl rfl c55) rfl ?_
   refine FL.skip (wF_no rfl rfl rfl c55) rfl ?_
   refine FL.skip (wF_no rfl rfl rfl c55) rfl ?_
   obtain rfl := Option.some.inj hp
   refine FL.v (E.pickF rfl c55 rfl) ?_
   exact FL.nil ⟨rfl, _, S36, (Inc.rfl _), rfl⟩
 rintro f54 w53 ⟨H50, S51, i52, k61⟩
 refine FL.v (E.assign k61) ?_
 refine FL.nil ?_
 refine FW.ret ?_
 obtain rfl := Option.some.inj hp
 exact ⟨.inr rfl, res1 rfl rfl ⟨rfl, S51.back⟩⟩

@[reducible] def p_slices_Grow_LLint_Lint (Ha : GH) (wa : World) (r : List (List Int)) : Ending → World → Prop :=
  fun e w' => ∃ H' : GH, ∃ v0 : Value, ∃ n0 : Nat, ∃ c0 : List Value, e = .returned (v0) ∧ St Ha wa H' w' [.row 44 1 v0 n0 c0] ∧ Els (up wa.heap.size H') (eL eI 1) 1 c0 r ∧ (bl c0).Nodup
theorem w_slices_Grow_LLint_Lint {Ha : GH} {wa : World} (hs : Sl Ha wa) (a1 : Int) {r : List (List Int)} (hp : PF.slices_Grow_LLint_Lint a1 = some r) :
    Calls Tryz.prog 170 #[.slice none 0 0, .int .i64 a1] wa (p_slices_Grow_LLint_Lint Ha wa r) := by
  unfold PF.slices_Grow_LLint_Lint at hp
  split at hp
  · rename_i h
    cases hp
    refine (growNil (En := (eL eI 1)) te22 hs h.1 h.2 (fun w => Any8.slices_Grow_room (P := Tryz.prog) Tryz.grow170 none 0 0 0 w (Nat.le_refl _) (by decide) (by decide) (by decide))
      (fun n w h0 hl => ?_)).mono ?_
    · have h := Any8.slices_Grow_grow (P := Tryz.prog) Tryz.grow170 _ _ Tryz.type44 rfl (by decide) none 0 0 n [] w (Nat.le_refl _) (by omega) ?_ (by unfold lim at hl; omega) (by simp) (fun _ => rfl) (by simp)
      · refine h.mono ?_
        rintro _ _ ⟨rfl, rfl⟩
        refine ⟨by simp; rfl, ?_⟩
        simp
        rfl
      · rw [Nat.zero_add]; refine Nat.le_trans (Nat.mul_le_mul hl (show _ ≤ 4096 by decide)) (by decide)
    · rintro e w' ⟨v, n, c, rfl, h1, h2⟩
      exact ⟨_, _, _, _, rfl, h1, (h2 _), (by have hc := Els.length (h2 (Ha)); simp at hc; rw [hc]; exact List.nodup_nil)⟩
  · cases hp

@[reducible] def p_slices_Concat_LLint_Lint (Ha : GH) (wa : World) (r : (List (List Int))) : Ending → World → Prop :=
  fun e w' => ∃ H' : GH, ∃ v0 : Value, ∃ n0 : Nat, ∃ c0 : List Value, e = .returned (v0) ∧ St Ha wa H' w' [.row 44 1 v0 n0 c0] ∧ Els H' (eL eI 1) 1 c0 r
theorem w_slices_Concat_LLint_Lint {Ha : GH} {wa : World} (hs : Sl Ha wa) (v0 : Value) (a0 : List (List (List Int))) (p0 : RSl Ha (eL (eL eI 1) 1) 1 v0 a0) {r : (List (List Int))} (hp : (PF.slices_Concat_LLint_Lint a0) = some r) :
    Calls Tryz.prog 141 #[v0] wa (p_slices_Concat_LLint_Lint Ha wa r) := by
  unfold PF.slices_Concat_LLint_Lint at hp
  have S0 := St.init hs
  refine calls_go (N := 36) (args := [v0]) Tryz.func141 rfl rfl rfl ?_
  refine FW.seq (FW.region ?_)
  refine FL.v (E.assign (v := Value.slice none 0 0) rfl) ?_
  refine FL.nil (FW.seq (FW.region ?_))
  refine FL.v (E.assign (v := Value.int .i64 0) rfl) ?_
  refine FL.nil (FW.seq (FW.seq (FW.region ?_)))
  refine FL.v (E.move (v := v0) rfl) ?_
  refine FL.v (E.lenP te170 rfl p0) ?_
  refine FL.v (E.move (v := Value.int .i64 0) rfl) ?_
  refine FL.nil ?_
  obtain ⟨q22, hq, hp⟩ := bndR hp
  refine FW.block ?_
  refine FW.mono (FW.forL (S := Int) (X := Empty) (fun (i22 : Nat) (s22 : Int) f w => ∃ H : GH, St Ha wa H w [] ∧ Inc Ha H ∧ f 11 = Value.int .i64 ((i22 : Nat) : Int) ∧ f 0 = v0 ∧ f 3 = Value.int .i64 s22 ∧ f 9 = v0 ∧ f 10 = Value.int .i64 (len a0)) (fun (q : Rs Int Empty) e f w => match q with | .go s22 => e = Exit.exit 0 ∧ (∃ H : GH, St Ha wa H w [] ∧ Inc Ha H ∧ f 0 = v0 ∧ f 3 = Value.int .i64 s22) | .rt x => x.elim) hq ⟨_, S0, (Inc.rfl _), rfl, rfl, rfl, rfl, rfl⟩ ?_ ?_) ?_
  ·
    clear hp hq
    rintro i22 y21 s22 f46 w45 ⟨H42, S43, i44, k47, k48, k49, k50, k51⟩ hx22 o61 hp
    refine FW.seq (FW.region ?_)
    refine FL.v (E.lssT k47 k51 (lss_len hx22)) ?_
    refine FL.nil (FW.seq ?_)
    refine FW.condT rfl rfl ?_
    refine FW.skip (FW.seq (FW.block (FW.seq (FW.region ?_))))
    obtain ⟨p52, cs53, pt54, l55, at56, rel57⟩ := p0.at (ix_nat hx22)
    obtain ⟨v58, rfl, h59⟩ := eL_open rel57
    refine FL.v (E.indexAddr te170 k50 k47 pt54) ?_
    refine FL.v (E.load rfl (run_load0 Tryz.isAgg22 ((at56.mono i44).now S43.sl) rfl)) ?_
    refine FL.v (E.assign (v := v58) rfl) ?_
    refine FL.nil (FW.seq (FW.region ?_))
    refine FL.v (E.move k49) ?_
    refine FL.v (E.move (v := v58) rfl) ?_
    refine FL.v (E.lenP te22 rfl h59) ?_
    refine FL.v (E.add rfl rfl) ?_
    refine FL.v (E.assign (v := Value.int .i64 (wr (s22 + (len y21)))) rfl) ?_
    refine FL.nil (FW.seq (FW.region ?_))
    refine FL.v (E.move (v := Value.int .i64 (wr (s22 + (len y21)))) rfl) ?_
    refine FL.v (E.lss rfl rfl) ?_
    refine FL.nil ?_
    rcases ifB hp with ⟨c60, hp⟩ | ⟨c60, hp⟩
    ·
      refine FW.condT rfl c60 ?_
      cases hp
    ·
      refine FW.condF rfl c60 ?_
      refine FW.skip (FW.region ?_)
      refine FL.v (E.add k47 rfl) ?_
      refine FL.v (E.move (v := Value.int .i64 (wr (((i22 : Nat) : Int) + 1))) rfl) ?_
      refine FL.nil ?_
      obtain rfl := Option.some.inj hp
      exact ⟨rfl, ⟨_, S43, i44, (nat_succ rfl (lt_of_get hx22) (p0.mono i44).le), k48, rfl, k50, k51⟩⟩
  ·
    clear hp hq
    rintro s22 f161 w160 ⟨H157, S158, i159, k162, k163, k164, k165, k166⟩
    refine FW.seq (FW.region ?_)
    refine FL.v (E.lss k162 k166) ?_
    refine FL.nil (FW.seq ?_)
    refine FW.condF rfl dlt_len ?_
    refine FW.exit ?_
    exact ⟨nofun, rfl, ⟨_, S158, i159, k163, k164⟩⟩
  ·
    clear hq
    intro e f66 w65 hD
    rcases q22 with s22 | x22
    ·
      obtain ⟨rfl, hD⟩ := hD
      obtain ⟨H62, S63, i64, k67, k68⟩ := hD
      replace hp := el_go hp
      refine FW.seq (FW.region ?_)
      refine FL.v (E.move k68) ?_
      obtain ⟨r69, hr70, hp⟩ := bnd hp
      refine FL.call rfl rfl rfl (E.call Tryz.call170 (A2 rfl rfl)) (w_slices_Grow_LLint_Lint S63.sl s22 hr70) ?_
      rintro e w72 ⟨H71, v75, n76, cs77, rfl, r74, els78, nd79⟩
      refine ⟨_, rfl, ?_⟩
      have nv80 : New H62 cs77 := New.of_up S63.sl els78.dom
      have els78 := els78.mono (up_le S63.size)
      have S73 := S63.join (l' := [.row 44 1 v75 n76 cs77]) r74 rfl
      refine FL.v (E.assign (v := v75) rfl) ?_
      refine FL.nil (FW.seq (FW.seq (FW.region ?_)))
      refine FL.v (E.move k67) ?_
      refine FL.v (E.lenP te170 rfl p0) ?_
      refine FL.v (E.move (v := Value.int .i64 0) rfl) ?_
      refine FL.nil ?_
      obtain ⟨q82, hq, hp⟩ := bndR hp
      refine FW.block ?_
      refine FW.mono (FW.forL (S := (List (List Int))) (X := Empty) (fun (i82 : Nat) (s82 : (List (List Int))) f w => ∃ H : GH, ∃ v83 : Value, ∃ n84 : Nat, ∃ cs85 : List Value, St Ha wa H w [.row 44 1 v83 n84 cs85] ∧ Inc H71 H ∧ Els H (eL eI 1) 1 cs85 s82 ∧ f 27 = Value.int .i64 ((i82 : Nat) : Int) ∧ f 6 = v83 ∧ f 25 = v0 ∧ f 26 = Value.int .i64 (len a0)) (fun (q : Rs (List (List Int)) Empty) e f w => match q with | .go s82 => e = Exit.exit 2 ∧ (∃ H : GH, ∃ v83 : Value, ∃ n84 : Nat, ∃ cs85 : List Value, St Ha wa H w [.row 44 1 v83 n84 cs85] ∧ Inc H71 H ∧ Els H (eL eI 1) 1 cs85 s82 ∧ f 6 = v83) | .rt x => x.elim) hq ⟨_, _, _, _, S73, (Inc.rfl _), (els78.mono upI), rfl, rfl, rfl, rfl⟩ ?_ ?_) ?_
      ·
        clear hp hq
        rintro i82 y81 s82 f118 w117 ⟨H114, v83, n84, cs85, S115, i116, els86, k119, k120, k121, k122⟩ hx82 o141 hp
        refine FW.seq (FW.region ?_)
        refine FL.v (E.lssT k119 k122 (lss_len hx82)) ?_
        refine FL.nil (FW.seq ?_)
        refine FW.condT rfl rfl ?_
        refine FW.skip (FW.seq (FW.block (FW.seq (FW.region ?_))))
        obtain ⟨p123, cs124, pt125, l126, at127, rel128⟩ := p0.at (ix_nat hx82)
        obtain ⟨v129, rfl, h130⟩ := eL_open rel128
        refine FL.v (E.indexAddr te170 k121 k119 pt125) ?_
        refine FL.v (E.load rfl (run_load0 Tryz.isAgg22 ((at127.mono ((i64.tr r74.run.inc).tr i116)).now S115.sl) rfl)) ?_
        refine FL.v (E.assign (v := v129) rfl) ?_
        refine FL.nil (FW.region ?_)
        refine FL.v (E.move k120) ?_
        refine FL.v (E.move (v := v129) rfl) ?_
        obtain ⟨xs131, hz132, hp⟩ := bnd hp
        obtain ⟨v133, w136, n134, cs135, run137, S138, els139⟩ := S115.appendP (P := Tryz.prog) (Inc.rfl _) te22 (i := 0) rfl els86 (h130.mono ((i64.tr r74.run.inc).tr i116)) hz132
        have S138 : St Ha wa H114 w136 [.row 44 1 v133 n134 cs135] := S138
        refine FL.v (E.append rfl rfl run137) ?_
        refine FL.v (E.assign (v := v133) rfl) ?_
        refine FL.nil (FW.region ?_)
        refine FL.v (E.add k119 rfl) ?_
        refine FL.v (E.move (v := Value.int .i64 (wr (((i82 : Nat) : Int) + 1))) rfl) ?_
        refine FL.nil ?_
        obtain rfl := Option.some.inj hp
        exact ⟨rfl, ⟨_, _, _, _, S138, i116, els139, (nat_succ rfl (lt_of_get hx82) (p0.mono ((i64.tr r74.run.inc).tr i116)).le), rfl, k121, k122⟩⟩
      ·
        clear hp hq
        rintro s82 f152 w151 ⟨H148, v83, n84, cs85, S149, i150, els86, k153, k154, k155, k156⟩
        refine FW.seq (FW.region ?_)
        refine FL.v (E.lss k153 k156) ?_
        refine FL.nil (FW.seq ?_)
        refine FW.condF rfl dlt_len ?_
        refine FW.exit ?_
        exact ⟨nofun, rfl, ⟨_, _, _, _, S149, i150, els86, k154⟩⟩
      ·
        clear hq
        intro e f146 w145 hD
        rcases q82 with s82 | x82
        ·
          obtain ⟨rfl, hD⟩ := hD
          obtain ⟨H142, v83, n84, cs85, S143, i144, els86, k147⟩ := hD
          replace hp := el_go hp
          refine FW.seq (FW.region ?_)
          refine FL.v (E.move k147) ?_
          refine FL.v (E.assign (v := v83) rfl) ?_
          refine FL.nil ?_
          refine FW.ret ?_
          obtain rfl := Option.some.inj hp
          exact ⟨.inr rfl, res1 rfl rfl ⟨_, _, _, _, rfl, S143, els86⟩⟩
        · exact x82.elim
    · exact x22.elim

@[reducible] def p_impl_before (Ha : GH) (wa : World) (r : (List (List Int))) : Ending → World → Prop :=
 fun e w' => ∃ H' : GH, ∃ v0 : Value, ∃ n0 : Nat, ∃ c0 : List Value, e = .returned (v0) ∧ St Ha wa H' w' [.row 44 1 v0 n0 c0] ∧ Els H' (eL eI 1) 1 c0 r
theorem w_impl_before {Ha : GH} {wa : World} (hs : Sl Ha wa) (a0 : Cnf) (v0_1 : Value) (p0_1 : RSl Ha (eL eI 1) 1 v0_1 a0.clauses) (v1 : Value) (a1 : List (List Int)) (p1 : RSl Ha (eL eI 1) 1 v1 a1) (a2 : Int) {r : (List (List Int))} (hp : (PF.impl_before a0 a1 a2) = some r) :
  Calls Tryz.prog 114 #[Value.agg #[Value.int .i64 a0.vars, v0_1], v1, Value.int .i64 a2] wa (p_impl_before Ha wa r) := by
 unfold PF.impl_before at hp
 have S0 := St.init hs
 refine calls_go (N := 14) (args := [Value.agg #[Value.int .i64 a0.vars, v0_1], v1, Value.int .i64 a2]) Tryz.func114 rfl rfl rfl ?_
 refine FW.seq (FW.region ?_)
 obtain ⟨b21, w22, run23, S24⟩ := S0.box (P := Tryz.prog) 28 [Value.int .i64 a0.vars, v0_1] (v := Value.agg #[Value.int .i64 a0.vars, v0_1]) rfl (ones_cons rfl (ones_cons p0_1.one ones_nil))
 refine FL.v (E.box rfl run23) ?_
 obtain ⟨H25, S26, i27, at28⟩ := S24.sealBox (i := 0) (l' := []) rfl rfl
 refine FL.v (E.assign (v := Value.slice none 0 0) rfl) ?_
 refine FL.nil (FW.seq ?_)
 obtain ⟨xs32, hc33, hp⟩ := bnd hp
 obtain ⟨r46, hr47, hp⟩ := bnd hp
 refine FW.drawB (Sl H25) (fun f w => ∃ H : GH, ∃ v56 : Value, ∃ n57 : Nat, ∃ cs58 : List Value, St Ha wa H w [.row 44 1 v56 n57 cs58] ∧ Inc H25 H ∧ Els H (eL eI 1) 1 cs58 r46 ∧ f 6 = v56) (by kernel_rfl) S26.sl ?_ ?_
 ·
  intro w29 r30
  have S31 := S26.call r30
  refine FB.t (i := 0) (bs 8 1) rfl (SP.nil S31.sl) rfl (fun w' hw' => (E.fieldAddr tf28_1 rfl)) ?_
  refine FB.t (i := 1) (bs 8 3) rfl (SP.nil S31.sl) rfl (fun w' hw' => (E.load rfl (run_load1 Tryz.isAgg22 (at28.now hw') rfl))) ?_
  refine FB.t (i := 2) (bs 8 7) rfl (SP.nil S31.sl) rfl (fun w' hw' => (E.move (v := v1) rfl)) ?_
  refine FB.t (i := 3) (bs 8 15) rfl (SP.nil S31.sl) rfl (fun w' hw' => (E.move (v := Value.int .i64 a2) rfl)) ?_
  obtain ⟨v34, run35, h36⟩ := p1.cut te22 hc33 (lo := none) (hi := some (Value.int .i64 a2)) (.inl ⟨rfl, rfl⟩) (.inr ⟨_, rfl⟩)
  refine FB.t (i := 4) (bs 8 31) rfl (SP.nil S31.sl) rfl (fun w' hw' => (E.slice te22 rfl rfl (congrArg some rfl) rfl (run35 _))) ?_
  refine FB.all1 (i := 5) (by kernel_rfl) ?_
  ·
   obtain ⟨v37, w38, run39, S40⟩ := S31.buildSlice (P := Tryz.prog) te170 [v0_1, v34] (parts := #[(0, v0_1), (1, v34)]) (cells := [v0_1, v34]) rfl (szs_cons (cells_size p0_1.cells) (szs_cons (cells_size h36.cells) szs_nil)) (fc_cons p0_1.cells (fc_cons h36.cells fc_nil)) (ones_cons p0_1.one (ones_cons h36.one ones_nil)) (Nat.le_of_ble_eq_true rfl)
   have els41 : Els H25 (eL (eL eI 1) 1) 1 [v0_1, v34] [a0.clauses, xs32] := (Els.snoc (H := H25) (E := (eL (eL eI 1) 1)) (k := 1) (c := [v34]) (x := xs32) (Els.snoc (H := H25) (E := (eL (eL eI 1) 1)) (k := 1) (c := [v0_1]) (x := a0.clauses) Els.nil rfl ⟨_, rfl, (p0_1.mono i27)⟩) rfl ⟨_, rfl, (h36.mono i27)⟩)
   refine FC.val (l' := (bs 8 63)) rfl (by kernel_rfl) rfl rfl rfl (E.buildSlice (B2 rfl rfl) run39) ?_
   refine ⟨(SP.nil S40.sl), ?_⟩
   refine FB.all1 (i := 6) (by kernel_rfl) ?_
   ·
    obtain ⟨H42, S43, i44, h45⟩ := S40.sealRow (i := 0) (l' := []) rfl els41 (by decide) rfl
    refine FC.call (l' := (bs 8 127)) rfl (by kernel_rfl) rfl rfl rfl (E.call Tryz.call141 (A1 rfl)) (w_slices_Concat_LLint_Lint S43.sl v37 [a0.clauses, xs32] h45 hr47) ?_
    rintro e w49 ⟨H48, v52, n53, cs54, rfl, r51, els55⟩
    refine ⟨_, rfl, ?_⟩
    have S50 := S43.join (l' := [.row 44 1 v52 n53 cs54]) r51 rfl
    refine ⟨(SP.nil (Sl.of_inc (i44.tr r51.run.inc) S50.sl)), ?_⟩
    refine FB.t (i := 7) (bs 8 255) rfl (SP.nil (Sl.of_inc (i44.tr r51.run.inc) S50.sl)) rfl (fun w' hw' => (E.assign (v := v52) rfl)) ?_
    exact FB.done (by kernel_rfl) ⟨_, _, _, _, S50, (i44.tr r51.run.inc), els55, rfl⟩
 ·
  rintro f64 w63 ⟨H60, v56, n57, cs58, S61, i62, els59, k65⟩
  refine FW.ret ?_
  obtain rfl := Option.some.inj hp
  exact ⟨.inr rfl, res1 rfl k65 ⟨_, _, _, _, rfl, S61, els59⟩⟩

@[reducible] def p_impl_negated (Ha : GH) (wa : World) (r : (List Int)) : Ending → World → Prop :=
  fun e w' => ∃ H' : GH, ∃ v0 : Value, ∃ n0 : Nat, ∃ c0 : List Value, e = .returned (v0) ∧ St Ha wa H' w' [.row 3 1 v0 n0 c0] ∧ Els (up wa.heap.size H') eI 1 c0 r
theorem w_impl_negated {Ha : GH} {wa : World} (hs : Sl Ha wa) (v0 : Value) (a0 : List Int) (p0 : RSl Ha eI 1 v0 a0) {r : (List Int)} (hp : (PF.impl_negated a0) = some r) :
    Calls Tryz.prog 122 #[v0] wa (p_impl_negated Ha wa r) := by
  unfold PF.impl_negated at hp
  have S0 := St.init hs
  refine calls_go (N := 19) (args := [v0]) Tryz.func122 rfl rfl rfl ?_
  refine FW.seq (FW.region ?_)
  refine FL.v (E.assign (v := Value.slice none 0 0) rfl) ?_
  refine FL.nil (FW.seq (FW.region ?_))
  refine FL.v (E.assign (v := Value.slice none 0 0) rfl) ?_
  refine FL.nil (FW.seq (FW.seq (FW.region ?_)))
  refine FL.v (E.move (v := v0) rfl) ?_
  refine FL.v (E.lenP te44 rfl p0) ?_
  refine FL.v (E.move (v := Value.int .i64 0) rfl) ?_
  refine FL.nil ?_
  obtain ⟨q22, hq, hp⟩ := bndR hp
  refine FW.block ?_
  refine FW.mono (FW.forL (S := (List Int)) (X := Empty) (fun (i22 : Nat) (s22 : (List Int)) f w => ∃ H : GH, ∃ v23 : Value, ∃ n24 : Nat, ∃ cs25 : List Value, St Ha wa H w [.row 3 1 v23 n24 cs25] ∧ Inc Ha H ∧ Els (up wa.heap.size H) eI 1 cs25 s22 ∧ f 8 = Value.int .i64 ((i22 : Nat) : Int) ∧ f 3 = v23 ∧ f 6 = v0 ∧ f 7 = Value.int .i64 (len a0)) (fun (q : Rs (List Int) Empty) e f w => match q with | .go s22 => e = Exit.exit 0 ∧ (∃ H : GH, ∃ v23 : Value, ∃ n24 : Nat, ∃ cs25 : List Value, St Ha wa H w [.row 3 1 v23 n24 cs25] ∧ Inc Ha H ∧ Els (up wa.heap.size H) eI 1 cs25 s22 ∧ f 3 = v23) | .rt x => x.elim) hq ⟨_, _, _, _, (S0.nil 3 1), (Inc.rfl _), Els.nil, rfl, rfl, rfl, rfl⟩ ?_ ?_) ?_
  ·
    clear hp hq
    rintro i22 y21 s22 f62 w61 ⟨H58, v23, n24, cs25, S59, i60, els26, k63, k64, k65, k66⟩ hx22 o89 hp
    refine FW.seq (FW.region ?_)
    refine FL.v (E.lssT k63 k66 (lss_len hx22)) ?_
    refine FL.nil (FW.seq ?_)
    refine FW.condT rfl rfl ?_
    refine FW.skip (FW.seq (FW.block (FW.seq (FW.region ?_))))
    obtain ⟨p67, cs68, pt69, l70, at71, rel72⟩ := p0.at (ix_nat hx22)
    obtain rfl := eI_open rel72
    refine FL.v (E.indexAddr te44 k65 k63 pt69) ?_
    refine FL.v (E.load rfl (run_load0 Tryz.isAgg3 ((at71.mono i60).now S59.sl) rfl)) ?_
    refine FL.v (E.assign (v := Value.int .i64 y21) rfl) ?_
    refine FL.nil (FW.region ?_)
    refine FL.v (E.move k64) ?_
    refine FL.v (E.move (v := Value.int .i64 y21) rfl) ?_
    refine FL.v (E.neg rfl) ?_
    obtain ⟨v73, w74, run75, S76⟩ := S59.buildSlice (P := Tryz.prog) te44 [Value.int .i64 (wr (-y21))] (parts := #[(0, Value.int .i64 (wr (-y21)))]) (cells := [Value.int .i64 (wr (-y21))]) rfl (szs_cons rfl szs_nil) (fc_cons rfl fc_nil) (ones_cons rfl ones_nil) (Nat.le_of_ble_eq_true rfl)
    have els77 : Els (up wa.heap.size H58) eI 1 [Value.int .i64 (wr (-y21))] [(wr (-y21))] := (Els.snoc (H := (up wa.heap.size H58)) (E := eI) (k := 1) (c := [Value.int .i64 (wr (-y21))]) (x := (wr (-y21))) Els.nil rfl rfl)
    refine FL.v (E.buildSlice (B1 rfl) run75) ?_
    obtain ⟨xs78, hz79, hp⟩ := bnd hp
    obtain ⟨v80, w83, n81, cs82, run84, S85, els86, ce87⟩ := S76.appendO (P := Tryz.prog) te44 (i := 1) (j := 0) rfl els26 rfl els77 hz79
    have S85 : St Ha wa H58 w83 [.row 3 1 v73 1 [Value.int .i64 (wr (-y21))], .row 3 1 v80 n81 cs82] := S85
    have S88 : St Ha wa H58 w83 [.row 3 1 v80 n81 cs82] := S85.drop 0
    refine FL.v (E.append rfl rfl run84) ?_
    refine FL.v (E.assign (v := v80) rfl) ?_
    refine FL.nil (FW.region ?_)
    refine FL.v (E.add k63 rfl) ?_
    refine FL.v (E.move (v := Value.int .i64 (wr (((i22 : Nat) : Int) + 1))) rfl) ?_
    refine FL.nil ?_
    obtain rfl := Option.some.inj hp
    exact ⟨rfl, ⟨_, _, _, _, S88, i60, els86, (nat_succ rfl (lt_of_get hx22) (p0.mono i60).le), rfl, k65, k66⟩⟩
  ·
    clear hp hq
    rintro s22 f100 w99 ⟨H96, v23, n24, cs25, S97, i98, els26, k101, k102, k103, k104⟩
    refine FW.seq (FW.region ?_)
    refine FL.v (E.lss k101 k104) ?_
    refine FL.nil (FW.seq ?_)
    refine FW.condF rfl dlt_len ?_
    refine FW.exit ?_
    exact ⟨nofun, rfl, ⟨_, _, _, _, S97, i98, els26, k102⟩⟩
  ·
    clear hq
    intro e f94 w93 hD
    rcases q22 with s22 | x22
    ·
      obtain ⟨rfl, hD⟩ := hD
      obtain ⟨H90, v23, n24, cs25, S91, i92, els26, k95⟩ := hD
      replace hp := el_go hp
      refine FW.seq (FW.region ?_)
      refine FL.v (E.move k95) ?_
      refine FL.v (E.assign (v := v23) rfl) ?_
      refine FL.nil ?_
      refine FW.ret ?_
      obtain rfl := Option.some.inj hp
      exact ⟨.inr rfl, res1 rfl rfl ⟨_, _, _, _, rfl, S91, els26⟩⟩
    · exact x22.elim

@[reducible] def p_slices_Clone_int_int (Ha : GH) (wa : World) (r : (List Int)) : Ending → World → Prop :=
 fun e w' => ∃ H' : GH, ∃ v0 : Value, ∃ n0 : Nat, ∃ c0 : List Value, e = .returned (v0) ∧ St Ha wa H' w' [.row 3 1 v0 n0 c0] ∧ Els (up wa.heap.size H') eI 1 c0 r
theorem w_slices_Clone_int_int {Ha : GH} {wa : World} (hs : Sl Ha wa) (v0 : Value) (a0 : List Int) (p0 : RSl Ha eI 1 v0 a0) {r : (List Int)} (hp : (PF.slices_Clone_int_int a0) = some r) :
  Calls Tryz.prog 56 #[v0] wa (p_slices_Clone_int_int Ha wa r) := by
 unfold PF.slices_Clone_int_int at hp
 have S0 := St.init hs
 refine calls_go (N := 8) (args := [v0]) Tryz.func56 rfl rfl rfl ?_
 refine FW.seq (FW.region ?_)
 refine FL.v (E.assign (v := Value.slice none 0 0) rfl) ?_
 refine FL.nil (FW.seq (FW.seq (FW.region ?_)))
 refine FL.v (E.move (v := v0) rfl) ?_
 obtain ⟨nb21, run22, hn23⟩ := RSl.nilTest te44 p0
 refine FL.v (run22 _ _ _ _ _ _ _ _ _ _ _ _ rfl rfl) ?_
 refine FL.nil ?_
 rcases bcase nb21 with c24 | c24
 ·
  refine FW.condT (b := nb21) rfl c24 ?_
  rw [hn23 c24, app_nil2] at hp
  refine FW.seq (FW.region ?_)
  refine FL.v (E.assign (v := Value.slice none 0 0) rfl) ?_
  refine FL.nil ?_
  refine FW.ret ?_
  obtain rfl := Option.some.inj hp
  exact ⟨.inr rfl, res1 rfl rfl ⟨_, _, _, _, rfl, (S0.nil 3 1), Els.nil⟩⟩
 ·
  refine FW.condF (b := nb21) rfl c24 ?_
  refine FW.skip (FW.seq (FW.region ?_))
  obtain ⟨v25, w26, run27, S28⟩ := S0.buildSlice (P := Tryz.prog) te44 [] (parts := #[]) (cells := []) rfl szs_nil fc_nil ones_nil (Nat.le_of_ble_eq_true rfl)
  have els29 : Els (up wa.heap.size Ha) eI 1 [] [] := Els.nil
  refine FL.v (E.buildSlice (B0) run27) ?_
  refine FL.v (E.move (v := v0) rfl) ?_
  obtain ⟨xs30, hz31, hp⟩ := bnd hp
  obtain ⟨v32, w35, n33, cs34, run36, S37, els38⟩ := S28.appendP (P := Tryz.prog) (Inc.rfl _) te44 (i := 0) rfl (els29.mono upI) p0 hz31
  have S37 : St Ha wa Ha w35 [.row 3 1 v32 n33 cs34] := S37
  have els38 : Els (up wa.heap.size Ha) eI 1 cs34 xs30 := els38.any (fun _ _ _ _ h => h)
  refine FL.v (E.append rfl rfl run36) ?_
  refine FL.v (E.assign (v := v32) rfl) ?_
  refine FL.nil ?_
  refine FW.ret ?_
  obtain rfl := Option.some.inj hp
  exact ⟨.inr rfl, res1 rfl rfl ⟨_, _, _, _, rfl, S37, els38⟩⟩

theorem w_slices_Index_int_int {Ha : GH} {wa : World} (hs : Sl Ha wa) (v0 : Value) (a0 : List Int) (p0 : RSl Ha eI 1 v0 a0) (a1 : Int) {r : Int} (hp : (PF.slices_Index_int_int a0 a1) = some r) :
  Calls Tryz.prog 96 #[v0, Value.int .i64 a1] wa (Sc Ha wa (Value.int .i64 r)) := by
 unfold PF.slices_Index_int_int at hp
 have S0 := St.init hs
 refine calls_go (N := 19) (args := [v0, Value.int .i64 a1]) Tryz.func96 rfl rfl rfl ?_
 refine FW.seq (FW.region ?_)
 refine FL.v (E.assign (v := Value.int .i64 0) rfl) ?_
 refine FL.nil (FW.seq (FW.seq (FW.region ?_)))
 refine FL.v (E.move (v := v0) rfl) ?_
 refine FL.v (E.lenP te44 rfl p0) ?_
 refine FL.v (E.move (v := Value.int .i64 0) rfl) ?_
 refine FL.nil ?_
 obtain ⟨q22, hq, hp⟩ := bndR hp
 refine FW.block ?_
 refine FW.mono (FW.forL (S := Unit) (X := Int) (fun (i22 : Nat) (s22 : Unit) f w => ∃ H : GH, St Ha wa H w [] ∧ Inc Ha H ∧ f 8 = Value.int .i64 ((i22 : Nat) : Int) ∧ f 0 = v0 ∧ f 1 = Value.int .i64 a1 ∧ f 7 = Value.int .i64 (len a0)) (fun q e f w => match q with | .go s22 => e = Exit.exit 0 ∧ (∃ H : GH, St Ha wa H w [] ∧ Inc Ha H) | .rt x => ((e = Exit.ret) ∧ (fun e f w => (e = Exit.normal ∨ e = Exit.ret) ∧ ∀ a, Fr (δ := []) 19 a f → ∃ v, (results Tryz.f96 a.tmps).run Tryz.prog w = .ok v w ∧ (Sc Ha wa (Value.int .i64 x)) (.returned v) w) e f w)) hq ⟨_, S0, (Inc.rfl _), rfl, rfl, rfl, rfl⟩ ?_ ?_) ?_
 ·
  clear hp hq
  rintro i22 y21 s22 f43 w42 ⟨H39, S40, i41, k44, k45, k46, k47⟩ hx22 o55 hp
  refine FW.seq (FW.region ?_)
  refine FL.v (E.lssT k44 k47 (lss_len hx22)) ?_
  refine FL.nil (FW.seq ?_)
  refine FW.condT rfl rfl ?_
  refine FW.skip (FW.seq (FW.block (FW.seq (FW.region ?_))))
  refine FL.v (E.move k44) ?_
  refine FL.v (E.assign (v := Value.int .i64 ((i22 : Nat) : Int)) rfl) ?_
  refine FL.nil (FW.seq (FW.region ?_))
  refine FL.v (E.move k46) ?_
  refine FL.v (E.move k45) ?_
  refine FL.v (E.move (v := Value.int .i64 ((i22 : Nat) : Int)) rfl) ?_
  obtain ⟨p48, cs49, pt50, l51, at52, rel53⟩ := p0.at (ix_nat hx22)
  obtain rfl := eI_open rel53
  refine FL.v (E.indexAddr te44 rfl rfl pt50) ?_
  refine FL.v (E.load rfl (run_load0 Tryz.isAgg3 ((at52.mono i41).now S40.sl) rfl)) ?_
  refine FL.v (E.eql rfl rfl) ?_
  refine FL.nil ?_
  rcases ifB hp with ⟨c54, hp⟩ | ⟨c54, hp⟩
  ·
   refine FW.condT rfl c54 ?_
   refine FW.seq (FW.region ?_)
   refine FL.v (E.move (v := Value.int .i64 ((i22 : Nat) : Int)) rfl) ?_
   refine FL.v (E.assign (v := Value.int .i64 ((i22 : Nat) : Int)) rfl) ?_
   refine FL.nil ?_
   refine FW.ret ?_
   obtain rfl := Option.some.inj hp
   exact ⟨nofun, rfl, ⟨.inr rfl, res1 rfl rfl ⟨rfl, S40.back⟩⟩⟩
  ·
   refine FW.condF rfl c54 ?_
   refine FW.skip (FW.region ?_)
   refine FL.v (E.add k44 rfl) ?_
   refine FL.v (E.move (v := Value.int .i64 (wr (((i22 : Nat) : Int) + 1))) rfl) ?_
   refine FL.nil ?_
   obtain rfl := Option.some.inj hp
   exact ⟨rfl, ⟨_, S40, i41, (nat_succ rfl (lt_of_get hx22) (p0.mono i41).le), k45, k46, k47⟩⟩
 ·
  clear hp hq
  rintro s22 f65 w64 ⟨H61, S62, i63, k66, k67, k68, k69⟩
  refine FW.seq (FW.region ?_)
  refine FL.v (E.lss k66 k69) ?_
  refine FL.nil (FW.seq ?_)
  refine FW.condF rfl dlt_len ?_
  refine FW.exit ?_
  exact ⟨nofun, rfl, ⟨_, S62, i63⟩⟩
 ·
  clear hq
  intro e f60 w59 hD
  rcases q22 with s22 | x22
  ·
   obtain ⟨rfl, hD⟩ := hD
   obtain ⟨H56, S57, i58⟩ := hD
   replace hp := el_go hp
   refine FW.seq (FW.region ?_)
   refine FL.v (E.assign (v := Value.int .i64 (-1)) rfl) ?_
   refine FL.nil ?_
   refine FW.ret ?_
   obtain rfl := Option.some.inj hp
   exact ⟨.inr rfl, res1 rfl rfl ⟨rfl, S57.back⟩⟩
  ·
   obtain ⟨he, hL⟩ := hD
   replace hp := el_rt hp
   obtain rfl := Option.some.inj hp
   subst he
   exact hL

theorem w_slices_Contains_int_int {Ha : GH} {wa : World} (hs : Sl Ha wa) (v0 : Value) (a0 : List Int) (p0 : RSl Ha eI 1 v0 a0) (a1 : Int) {r : Bool} (hp : (PF.slices_Contains_int_int a0 a1) = some r) :
  Calls Tryz.prog 116 #[v0, Value.int .i64 a1] wa (Sc Ha wa (Value.bool r)) := by
 unfold PF.slices_Contains_int_int at hp
 have S0 := St.init hs
 refine calls_go (N := 9) (args := [v0, Value.int .i64 a1]) Tryz.func116 rfl rfl rfl ?_
 refine FW.seq (FW.region ?_)
 refine FL.v (E.assign (v := Value.bool false) rfl) ?_
 refine FL.nil (FW.seq (FW.region ?_))
 refine FL.v (E.move (v := v0) rfl) ?_
 refine FL.v (E.move (v := Value.int .i64 a1) rfl) ?_
 obtain ⟨r21, hr22, hp⟩ := bnd hp
 refine FL.call rfl rfl rfl (E.call Tryz.call96 (A2 rfl rfl)) (w_slices_Index_int_int S0.sl v0 a0 p0 a1 hr22) ?_
 rintro e w23 ⟨rfl, r24⟩
 refine ⟨_, rfl, ?_⟩
 have S25 := S0.call r24
 refine FL.v (E.geq rfl rfl) ?_
 refine FL.v (E.assign (v := Value.bool (decide (0 ≤ r21))) rfl) ?_
 refine FL.nil ?_
 refine FW.ret ?_
 obtain rfl := Option.some.inj hp
 exact ⟨.inr rfl, res1 rfl rfl ⟨rfl, S25.back⟩⟩

theorem w_impl_clauseValue {Ha : GH} {wa : World} (hs : Sl Ha wa) (v0 : Value) (a0 : List Int) (p0 : RSl Ha eI 1 v0 a0) (v1 : Value) (a1 : List Int) (p1 : RSl Ha eI 1 v1 a1) {r : Int} (hp : (PF.impl_clauseValue a0 a1) = some r) :
  Calls Tryz.prog 160 #[v0, v1] wa (Sc Ha wa (Value.int .i64 r)) := by
 unfold PF.impl_clauseValue at hp
 have S0 := St.init hs
 refine calls_go (N := 26) (args := [v0, v1]) Tryz.func160 rfl rfl rfl ?_
 refine FW.seq (FW.region ?_)
 refine FL.v (E.assign (v := Value.int .i64 0) rfl) ?_
 refine FL.nil (FW.seq (FW.region ?_))
 refine FL.v (E.assign (v := Value.int .i64 (-1)) rfl) ?_
 refine FL.nil (FW.seq (FW.seq (FW.region ?_)))
 refine FL.v (E.move (v := v0) rfl) ?_
 refine FL.v (E.lenP te44 rfl p0) ?_
 refine FL.v (E.move (v := Value.int .i64 0) rfl) ?_
 refine FL.nil ?_
 obtain ⟨q22, hq, hp⟩ := bndR hp
 refine FW.block ?_
 refine FW.mono (FW.forL (S := Int) (X := Int) (fun (i22 : Nat) (s22 : Int) f w => ∃ H : GH, St Ha wa H w [] ∧ Inc Ha H ∧ f 10 = Value.int .i64 ((i22 : Nat) : Int) ∧ f 1 = v1 ∧ f 5 = Value.int .i64 s22 ∧ f 8 = v0 ∧ f 9 = Value.int .i64 (len a0)) (fun q e f w => match q with | .go s22 => e = Exit.exit 0 ∧ (∃ H : GH, St Ha wa H w [] ∧ Inc Ha H ∧ f 5 = Value.int .i64 s22) | .rt x => ((e = Exit.ret) ∧ (fun e f w => (e = Exit.normal ∨ e = Exit.ret) ∧ ∀ a, Fr (δ := []) 26 a f → ∃ v, (results Tryz.f160 a.tmps).run Tryz.prog w = .ok v w ∧ (Sc Ha wa (Value.int .i64 x)) (.returned v) w) e f w)) hq ⟨_, S0, (Inc.rfl _), rfl, rfl, rfl, rfl, rfl⟩ ?_ ?_) ?_
 ·
  clear hp hq
  rintro i22 y21 s22 f55 w54 ⟨H51, S52, i53, k56, k57, k58, k59, k60⟩ hx22 o79 hp
  refine FW.seq (FW.region ?_)
  refine FL.v (E.lssT k56 k60 (lss_len hx22)) ?_
  refine FL.nil (FW.seq ?_)
  refine FW.condT rfl rfl ?_
  refine FW.skip (FW.seq (FW.block (FW.seq (FW.region ?_))))
  obtain ⟨p61, cs62, pt63, l64, at65, rel66⟩ := p0.at (ix_nat hx22)
  obtain rfl := eI_open rel66
  refine FL.v (E.indexAddr te44 k59 k56 pt63) ?_
  refine FL.v (E.load rfl (run_load0 Tryz.isAgg3 ((at65.mono i53).now S52.sl) rfl)) ?_
  refine FL.v (E.assign (v := Value.int .i64 y21) rfl) ?_
  refine FL.nil (FW.block (FW.seq (FW.region ?_)))
  refine FL.v (E.move k57) ?_
  refine FL.v (E.move (v := Value.int .i64 y21) rfl) ?_
  obtain ⟨r67, hr68, hp⟩ := bnd hp
  refine FL.call rfl rfl rfl (E.call Tryz.call116 (A2 rfl rfl)) (w_slices_Contains_int_int S52.sl v1 a1 (p1.mono i53) y21 hr68) ?_
  rintro e w69 ⟨rfl, r70⟩
  refine ⟨_, rfl, ?_⟩
  have S71 := S52.call r70
  refine FL.v (E.assign (v := Value.bool r67) rfl) ?_
  refine FL.nil ?_
  rcases ifB hp with ⟨c72, hp⟩ | ⟨c72, hp⟩
  ·
   refine FW.condT rfl c72 ?_
   refine FW.seq (FW.region ?_)
   refine FL.v (E.assign (v := Value.int .i64 1) rfl) ?_
   refine FL.nil ?_
   refine FW.ret ?_
   obtain rfl := Option.some.inj hp
   exact ⟨nofun, rfl, ⟨.inr rfl, res1 rfl rfl ⟨rfl, S71.back⟩⟩⟩
  ·
   refine FW.condF rfl c72 ?_
   refine FW.seq (FW.region ?_)
   refine FL.v (E.move k57) ?_
   refine FL.v (E.move (v := Value.int .i64 y21) rfl) ?_
   refine FL.v (E.neg rfl) ?_
   obtain ⟨r73, hr74, hp⟩ := bnd hp
   refine FL.call rfl rfl rfl (E.call Tryz.call116 (A2 rfl rfl)) (w_slices_Contains_int_int S71.sl v1 a1 (p1.mono i53) (wr (-y21)) hr74) ?_
   rintro e w75 ⟨rfl, r76⟩
   refine ⟨_, rfl, ?_⟩
   have S77 := S71.call r76
   refine FL.v (E.not rfl) ?_
   refine FL.v (E.assign (v := Value.bool (!r73)) rfl) ?_
   refine FL.nil ?_
   rcases ifB hp with ⟨c78, hp⟩ | ⟨c78, hp⟩
   ·
    refine FW.condT rfl c78 ?_
    refine FW.region ?_
    refine FL.v (E.assign (v := Value.int .i64 0) rfl) ?_
    refine FL.nil (FW.region ?_)
    refine FL.v (E.add k56 rfl) ?_
    refine FL.v (E.move (v := Value.int .i64 (wr (((i22 : Nat) : Int) + 1))) rfl) ?_
    refine FL.nil ?_
    obtain rfl := Option.some.inj hp
    exact ⟨rfl, ⟨_, S77, i53, (nat_succ rfl (lt_of_get hx22) (p0.mono i53).le), k57, rfl, k59, k60⟩⟩
   ·
    refine FW.condF rfl c78 ?_
    refine FW.skip (FW.region ?_)
    refine FL.v (E.add k56 rfl) ?_
    refine FL.v (E.move (v := Value.int .i64 (wr (((i22 : Nat) : Int) + 1))) rfl) ?_
    refine FL.nil ?_
    obtain rfl := Option.some.inj hp
    exact ⟨rfl, ⟨_, S77, i53, (nat_succ rfl (lt_of_get hx22) (p0.mono i53).le), k57, k58, k59, k60⟩⟩
 ·
  clear hp hq
  rintro s22 f90 w89 ⟨H86, S87, i88, k91, k92, k93, k94, k95⟩
  refine FW.seq (FW.region ?_)
  refine FL.v (E.lss k91 k95) ?_
  refine FL.nil (FW.seq ?_)
  refine FW.condF rfl dlt_len ?_
  refine FW.exit ?_
  exact ⟨nofun, rfl, ⟨_, S87, i88, k93⟩⟩
 ·
  clear hq
  intro e f84 w83 hD
  rcases q22 with s22 | x22
  ·
   obtain ⟨rfl, hD⟩ := hD
   obtain ⟨H80, S81, i82, k85⟩ := hD
   replace hp := el_go hp
   refine FW.seq (FW.region ?_)
   refine FL.v (E.move k85) ?_
   refine FL.v (E.assign (v := Value.int .i64 s22) rfl) ?_
   refine FL.nil ?_
   refine FW.ret ?_
   obtain rfl := Option.some.inj hp
   exact ⟨.inr rfl, res1 rfl rfl ⟨rfl, S81.back⟩⟩
  ·
   obtain ⟨he, hL⟩ := hD
   replace hp := el_rt hp
   obtain rfl := Option.some.inj hp
   subst he
   exact hL

@[reducible] def p_impl_falseClauses (Ha : GH) (wa : World) (r : (List Int)) : Ending → World → Prop :=
  fun e w' => ∃ H' : GH, ∃ v0 : Value, ∃ n0 : Nat, ∃ c0 : List Value, e = .returned (v0) ∧ St Ha wa H' w' [.row 3 1 v0 n0 c0] ∧ Els (up wa.heap.size H') eI 1 c0 r
theorem w_impl_falseClauses {Ha : GH} {wa : World} (hs : Sl Ha wa) (v0 : Value) (a0 : List (List Int)) (p0 : RSl Ha (eL eI 1) 1 v0 a0) (v1 : Value) (a1 : List Int) (p1 : RSl Ha eI 1 v1 a1) {r : (List Int)} (hp : (PF.impl_falseClauses a0 a1) = some r) :
    Calls Tryz.prog 123 #[v0, v1] wa (p_impl_falseClauses Ha wa r) := by
  unfold PF.impl_falseClauses at hp
  have S0 := St.init hs
  refine calls_go (N := 25) (args := [v0, v1]) Tryz.func123 rfl rfl rfl ?_
  refine FW.seq (FW.region ?_)
  refine FL.v (E.assign (v := Value.slice none 0 0) rfl) ?_
  refine FL.nil (FW.seq (FW.region ?_))
  refine FL.v (E.assign (v := Value.slice none 0 0) rfl) ?_
  refine FL.nil (FW.seq (FW.seq (FW.region ?_)))
  refine FL.v (E.move (v := v0) rfl) ?_
  refine FL.v (E.lenP te22 rfl p0) ?_
  refine FL.v (E.move (v := Value.int .i64 0) rfl) ?_
  refine FL.nil ?_
  obtain ⟨q22, hq, hp⟩ := bndR hp
  refine FW.block ?_
  refine FW.mono (FW.forL (S := (List Int)) (X := Empty) (fun (i22 : Nat) (s22 : (List Int)) f w => ∃ H : GH, ∃ v23 : Value, ∃ n24 : Nat, ∃ cs25 : List Value, St Ha wa H w [.row 3 1 v23 n24 cs25] ∧ Inc Ha H ∧ Els (up wa.heap.size H) eI 1 cs25 s22 ∧ f 10 = Value.int .i64 ((i22 : Nat) : Int) ∧ f 1 = v1 ∧ f 5 = v23 ∧ f 8 = v0 ∧ f 9 = Value.int .i64 (len a0)) (fun (q : Rs (List Int) Empty) e f w => match q with | .go s22 => e = Exit.exit 0 ∧ (∃ H : GH, ∃ v23 : Value, ∃ n24 : Nat, ∃ cs25 : List Value, St Ha wa H w [.row 3 1 v23 n24 cs25] ∧ Inc Ha H ∧ Els (up wa.heap.size H) eI 1 cs25 s22 ∧ f 5 = v23) | .rt x => x.elim) hq ⟨_, _, _, _, (S0.nil 3 1), (Inc.rfl _), Els.nil, rfl, rfl, rfl, rfl, rfl⟩ ?_ ?_) ?_
  ·
    clear hp hq
    rintro i22 y21 s22 f71 w70 ⟨H67, v23, n24, cs25, S68, i69, els26, k72, k73, k74, k75, k76⟩ hx22 o107 hp
    refine FW.seq (FW.region ?_)
    refine FL.v (E.lssT k72 k76 (lss_len hx22)) ?_
    refine FL.nil (FW.seq ?_)
    refine FW.condT rfl rfl ?_
    refine FW.skip (FW.seq (FW.block (FW.seq (FW.region ?_))))
    refine FL.v (E.move k72) ?_
    obtain ⟨p77, cs78, pt79, l80, at81, rel82⟩ := p0.at (ix_nat hx22)
    obtain ⟨v83, rfl, h84⟩ := eL_open rel82
    refine FL.v (E.indexAddr te22 k75 k72 pt79) ?_
    refine FL.v (E.load rfl (run_load0 Tryz.isAgg44 ((at81.mono i69).now S68.sl) rfl)) ?_
    refine FL.v (E.assign (v := Value.int .i64 ((i22 : Nat) : Int)) rfl) ?_
    refine FL.v (E.assign (v := v83) rfl) ?_
    refine FL.nil (FW.seq (FW.region ?_))
    refine FL.v (E.move (v := v83) rfl) ?_
    refine FL.v (E.move k73) ?_
    obtain ⟨r85, hr86, hp⟩ := bnd hp
    refine FL.call rfl rfl rfl (E.call Tryz.call160 (A2 rfl rfl)) (w_impl_clauseValue S68.sl v83 y21 (h84.mono i69) v1 a1 (p1.mono i69) hr86) ?_
    rintro e w87 ⟨rfl, r88⟩
    refine ⟨_, rfl, ?_⟩
    have S89 := S68.call r88
    refine FL.v (E.lss rfl rfl) ?_
    refine FL.nil ?_
    rcases ifB hp with ⟨c90, hp⟩ | ⟨c90, hp⟩
    ·
      refine FW.condT rfl c90 ?_
      refine FW.region ?_
      refine FL.v (E.move k74) ?_
      refine FL.v (E.move (v := Value.int .i64 ((i22 : Nat) : Int)) rfl) ?_
      obtain ⟨v91, w92, run93, S94⟩ := S89.buildSlice (P := Tryz.prog) te44 [Value.int .i64 ((i22 : Nat) : Int)] (parts := #[(0, Value.int .i64 ((i22 : Nat) : Int))]) (cells := [Value.int .i64 ((i22 : Nat) : Int)]) rfl (szs_cons rfl szs_nil) (fc_cons rfl fc_nil) (ones_cons rfl ones_nil) (Nat.le_of_ble_eq_true rfl)
      have els95 : Els (up wa.heap.size H67) eI 1 [Value.int .i64 ((i22 : Nat) : Int)] [((i22 : Nat) : Int)] := (Els.snoc (H := (up wa.heap.size H67)) (E := eI) (k := 1) (c := [Value.int .i64 ((i22 : Nat) : Int)]) (x := ((i22 : Nat) : Int)) Els.nil rfl rfl)
      refine FL.v (E.buildSlice (B1 rfl) run93) ?_
      obtain ⟨xs96, hz97, hp⟩ := bnd hp
      obtain ⟨v98, w101, n99, cs100, run102, S103, els104, ce105⟩ := S94.appendO (P := Tryz.prog) te44 (i := 1) (j := 0) rfl els26 rfl els95 hz97
      have S103 : St Ha wa H67 w101 [.row 3 1 v91 1 [Value.int .i64 ((i22 : Nat) : Int)], .row 3 1 v98 n99 cs100] := S103
      have S106 : St Ha wa H67 w101 [.row 3 1 v98 n99 cs100] := S103.drop 0
      refine FL.v (E.append rfl rfl run102) ?_
      refine FL.v (E.assign (v := v98) rfl) ?_
      refine FL.nil (FW.region ?_)
      refine FL.v (E.add k72 rfl) ?_
      refine FL.v (E.move (v := Value.int .i64 (wr (((i22 : Nat) : Int) + 1))) rfl) ?_
      refine FL.nil ?_
      obtain rfl := Option.some.inj hp
      exact ⟨rfl, ⟨_, _, _, _, S106, i69, els104, (nat_succ rfl (lt_of_get hx22) (p0.mono i69).le), k73, rfl, k75, k76⟩⟩
    ·
      refine FW.condF rfl c90 ?_
      refine FW.skip (FW.region ?_)
      refine FL.v (E.add k72 rfl) ?_
      refine FL.v (E.move (v := Value.int .i64 (wr (((i22 : Nat) : Int) + 1))) rfl) ?_
      refine FL.nil ?_
      obtain rfl := Option.some.inj hp
      exact ⟨rfl, ⟨_, _, _, _, S89, i69, els26, (nat_succ rfl (lt_of_get hx22) (p0.mono i69).le), k73, k74, k75, k76⟩⟩
  ·
    clear hp hq
    rintro s22 f118 w117 ⟨H114, v23, n24, cs25, S115, i116, els26, k119, k120, k121, k122, k123⟩
    refine FW.seq (FW.region ?_)
    refine FL.v (E.lss k119 k123) ?_
    refine FL.nil (FW.seq ?_)
    refine FW.condF rfl dlt_len ?_
    refine FW.exit ?_
    exact ⟨nofun, rfl, ⟨_, _, _, _, S115, i116, els26, k121⟩⟩
  ·
    clear hq
    intro e f112 w111 hD
    rcases q22 with s22 | x22
    ·
      obtain ⟨rfl, hD⟩ := hD
      obtain ⟨H108, v23, n24, cs25, S109, i110, els26, k113⟩ := hD
      replace hp := el_go hp
      refine FW.seq (FW.region ?_)
      refine FL.v (E.move k113) ?_
      refine FL.v (E.assign (v := v23) rfl) ?_
      refine FL.nil ?_
      refine FW.ret ?_
      obtain rfl := Option.some.inj hp
      exact ⟨.inr rfl, res1 rfl rfl ⟨_, _, _, _, rfl, S109, els26⟩⟩
    · exact x22.elim

theorem w_slices_IndexFunc_int_int {Ha : GH} {wa : World} (hs : Sl Ha wa) (v0 : Value) (a0 : List Int) (p0 : RSl Ha eI 1 v0 a0) (v1 : Value) (a1 : Int → Option Bool) (p1 : Fn_I_to_B Tryz.prog Ha v1 a1) {r : Int} (hp : (PF.slices_IndexFunc_int_int a0 a1) = some r) :
  Calls Tryz.prog 189 #[v0, v1] wa (Sc Ha wa (Value.int .i64 r)) := by
 unfold PF.slices_IndexFunc_int_int at hp
 have S0 := St.init hs
 refine calls_go (N := 19) (args := [v0, v1]) Tryz.func189 rfl rfl rfl ?_
 refine FW.seq (FW.region ?_)
 refine FL.v (E.assign (v := Value.int .i64 0) rfl) ?_
 refine FL.nil (FW.seq (FW.seq (FW.region ?_)))
 refine FL.v (E.move (v := v0) rfl) ?_
 refine FL.v (E.lenP te44 rfl p0) ?_
 refine FL.v (E.move (v := Value.int .i64 0) rfl) ?_
 refine FL.nil ?_
 obtain ⟨q22, hq, hp⟩ := bndR hp
 refine FW.block ?_
 refine FW.mono (FW.forL (S := Unit) (X := Int) (fun (i22 : Nat) (s22 : Unit) f w => ∃ H : GH, St Ha wa H w [] ∧ Inc Ha H ∧ f 8 = Value.int .i64 ((i22 : Nat) : Int) ∧ f 0 = v0 ∧ f 1 = v1 ∧ f 7 = Value.int .i64 (len a0)) (fun q e f w => match q with | .go s22 => e = Exit.exit 0 ∧ (∃ H : GH, St Ha wa H w [] ∧ Inc Ha H) | .rt x => ((e = Exit.ret) ∧ (fun e f w => (e = Exit.normal ∨ e = Exit.ret) ∧ ∀ a, Fr (δ := []) 19 a f → ∃ v, (results Tryz.f189 a.tmps).run Tryz.prog w = .ok v w ∧ (Sc Ha wa (Value.int .i64 x)) (.returned v) w) e f w)) hq ⟨_, S0, (Inc.rfl _), rfl, rfl, rfl, rfl⟩ ?_ ?_) ?_
 ·
  clear hp hq
  rintro i22 y21 s22 f53 w52 ⟨H49, S50, i51, k54, k55, k56, k57⟩ hx22 o75 hp
  refine FW.seq (FW.region ?_)
  refine FL.v (E.lssT k54 k57 (lss_len hx22)) ?_
  refine FL.nil (FW.seq ?_)
  refine FW.condT rfl rfl ?_
  refine FW.skip (FW.seq (FW.block (FW.seq (FW.region ?_))))
  refine FL.v (E.move k54) ?_
  refine FL.v (E.assign (v := Value.int .i64 ((i22 : Nat) : Int)) rfl) ?_
  refine FL.nil (FW.seq (FW.region ?_))
  refine FL.v (E.move k56) ?_
  refine FL.v (E.move k55) ?_
  refine FL.v (E.move (v := Value.int .i64 ((i22 : Nat) : Int)) rfl) ?_
  obtain ⟨p58, cs59, pt60, l61, at62, rel63⟩ := p0.at (ix_nat hx22)
  obtain rfl := eI_open rel63
  refine FL.v (E.indexAddr te44 rfl rfl pt60) ?_
  refine FL.v (E.load rfl (run_load0 Tryz.isAgg3 ((at62.mono i51).now S50.sl) rfl)) ?_
  obtain ⟨r64, hr65, hp⟩ := bnd hp
  obtain ⟨fi69, cs70, hv71, he72, hc73⟩ := (p1.mono i51) H49 w52 (Inc.rfl _) S50.sl y21 r64 hr65
  refine FL.call rfl rfl rfl (E.callV he72 (Eq.trans rfl hv71) (appA (A1 rfl) cs70)) hc73 ?_
  rintro e w66 ⟨rfl, r67⟩
  refine ⟨_, rfl, ?_⟩
  have S68 := S50.call r67
  refine FL.nil ?_
  rcases ifB hp with ⟨c74, hp⟩ | ⟨c74, hp⟩
  ·
   refine FW.condT rfl c74 ?_
   refine FW.seq (FW.region ?_)
   refine FL.v (E.move (v := Value.int .i64 ((i22 : Nat) : Int)) rfl) ?_
   refine FL.v (E.assign (v := Value.int .i64 ((i22 : Nat) : Int)) rfl) ?_
   refine FL.nil ?_
   refine FW.ret ?_
   obtain rfl := Option.some.inj hp
   exact ⟨nofun, rfl, ⟨.inr rfl, res1 rfl rfl ⟨rfl, S68.back⟩⟩⟩
  ·
   refine FW.condF rfl c74 ?_
   refine FW.skip (FW.region ?_)
   refine FL.v (E.add k54 rfl) ?_
   refine FL.v (E.move (v := Value.int .i64 (wr (((i22 : Nat) : Int) + 1))) rfl) ?_
   refine FL.nil ?_
   obtain rfl := Option.some.inj hp
   exact ⟨rfl, ⟨_, S68, i51, (nat_succ rfl (lt_of_get hx22) (p0.mono i51).le), k55, k56, k57⟩⟩
 ·
  clear hp hq
  rintro s22 f85 w84 ⟨H81, S82, i83, k86, k87, k88, k89⟩
  refine FW.seq (FW.region ?_)
  refine FL.v (E.lss k86 k89) ?_
  refine FL.nil (FW.seq ?_)
  refine FW.condF rfl dlt_len ?_
  refine FW.exit ?_
  exact ⟨nofun, rfl, ⟨_, S82, i83⟩⟩
 ·
  clear hq
  intro e f80 w79 hD
  rcases q22 with s22 | x22
  ·
   obtain ⟨rfl, hD⟩ := hD
   obtain ⟨H76, S77, i78⟩ := hD
   replace hp := el_go hp
   refine FW.seq (FW.region ?_)
   refine FL.v (E.assign (v := Value.int .i64 (-1)) rfl) ?_
   refine FL.nil ?_
   refine FW.ret ?_
   obtain rfl := Option.some.inj hp
   exact ⟨.inr rfl, res1 rfl rfl ⟨rfl, S77.back⟩⟩
  ·
   obtain ⟨he, hL⟩ := hD
   replace hp := el_rt hp
   obtain rfl := Option.some.inj hp
   subst he
   exact hL

@[reducible] def p_slices_DeleteFunc_int_int (H0 : GH) (w0 : World) (Ha : GH) (L : List MO) (r : (List Int)) : Ending → World → Prop :=
  fun e w' => ∃ H' : GH, ∃ v0r : Value, ∃ n0r : Nat, ∃ c0r : List Value, e = .returned (v0r) ∧ (St H0 w0 H' w' (.row 3 1 v0r n0r c0r :: L) ∧ Inc Ha H') ∧ Els (up w0.heap.size H') eI 1 c0r r
theorem w_slices_DeleteFunc_int_int {H0 Ha : GH} {w0 wa : World} {L : List MO} {v0 : Value} {n0 : Nat} {k0 : List Value} (S0 : St H0 w0 Ha wa (.row 3 1 v0 n0 k0 :: L)) (a0 : List Int) (p0 : Els (up w0.heap.size Ha) eI 1 k0 a0) (v1 : Value) (a1 : Int → Option Bool) (p1 : Fn_I_to_B Tryz.prog Ha v1 a1) {r : (List Int)} (hp : (PF.slices_DeleteFunc_int_int a0 a1) = some r) :
    Calls Tryz.prog 174 #[v0, v1] wa (p_slices_DeleteFunc_int_int H0 w0 Ha L r) := by
  unfold PF.slices_DeleteFunc_int_int at hp
  refine calls_go (N := 42) (args := [v0, v1]) Tryz.func174 rfl rfl rfl ?_
  refine FW.seq (FW.region ?_)
  refine FL.v (E.assign (v := Value.slice none 0 0) rfl) ?_
  refine FL.nil (FW.seq (FW.region ?_))
  refine FL.v (E.move (v := v0) rfl) ?_
  refine FL.v (E.move (v := v1) rfl) ?_
  obtain ⟨H21, S22, i23, h24, nv25⟩ := S0.sealRowU (i := 0) (l' := L) rfl p0 (by decide) rfl
  obtain ⟨r26, hr27, hp⟩ := bnd hp
  refine FL.call rfl rfl rfl (E.call Tryz.call189 (A2 rfl rfl)) (w_slices_IndexFunc_int_int S22.sl v0 a0 (h24.mono upI) v1 a1 (p1.mono i23) hr27) ?_
  rintro e w28 ⟨rfl, r29⟩
  refine ⟨_, rfl, ?_⟩
  have r29 := Run.lend i23 S0.sl r29
  have S30 := S0.call r29
  refine FL.v (E.assign (v := Value.int .i64 r26) rfl) ?_
  refine FL.nil (FW.seq (FW.seq (FW.region ?_)))
  refine FL.v (E.move (v := Value.int .i64 r26) rfl) ?_
  refine FL.v (E.eql rfl rfl) ?_
  refine FL.nil ?_
  rcases ifB hp with ⟨c31, hp⟩ | ⟨c31, hp⟩
  ·
    refine FW.condT rfl c31 ?_
    refine FW.seq (FW.region ?_)
    refine FL.v (E.move (v := v0) rfl) ?_
    refine FL.v (E.assign (v := v0) rfl) ?_
    refine FL.nil ?_
    refine FW.ret ?_
    obtain rfl := Option.some.inj hp
    exact ⟨.inr rfl, res1 rfl rfl ⟨_, _, _, _, rfl, ⟨S30, (Inc.rfl _)⟩, p0⟩⟩
  ·
    refine FW.condF rfl c31 ?_
    refine FW.skip (FW.seq (FW.seq (FW.region ?_)))
    refine FL.v (E.move (v := Value.int .i64 r26) rfl) ?_
    refine FL.v (E.add rfl rfl) ?_
    refine FL.v (E.assign (v := Value.int .i64 (wr (r26 + 1))) rfl) ?_
    refine FL.nil ?_
    obtain ⟨q32, hq, hp⟩ := bndR hp
    refine FW.block ?_
    refine FW.mono (FW.iter (S := ((List Int) × Int × Int)) (X := Empty) (fun (s32 : ((List Int) × Int × Int)) f w => ∃ H : GH, ∃ cs78 : List Value, St H0 w0 H w (.row 3 1 v0 n0 cs78 :: L) ∧ Inc Ha H ∧ Els (up w0.heap.size H) eI 1 cs78 s32.1 ∧ f 0 = v0 ∧ f 1 = v1 ∧ f 5 = Value.int .i64 s32.2.1 ∧ f 6 = Value.int .i64 s32.2.2) (fun (q : Rs ((List Int) × Int × Int) Empty) e f w => match q with | .go s32 => e = Exit.exit 0 ∧ (∃ H : GH, ∃ cs78 : List Value, St H0 w0 H w (.row 3 1 v0 n0 cs78 :: L) ∧ Inc Ha H ∧ Els (up w0.heap.size H) eI 1 cs78 s32.1 ∧ f 0 = v0 ∧ f 5 = Value.int .i64 s32.2.1) | .rt x => x.elim) hq ⟨_, _, S30, (Inc.rfl _), p0, rfl, rfl, rfl, rfl⟩ ?_) ?_
    ·
      clear hp hq
      rintro s32 f129 w128 ⟨H125, cs78, S126, i127, els79, k130, k131, k132, k133⟩ o170 hp
      refine FW.seq (FW.seq (FW.region ?_))
      refine FL.v (E.move k133) ?_
      refine FL.v (E.move k130) ?_
      refine FL.v (E.lenO te44 rfl S126 (i := 0) rfl els79 (by decide)) ?_
      refine FL.v (E.lss rfl rfl) ?_
      refine FL.nil ?_
      rcases ifB hp with ⟨c134, hp⟩ | ⟨c134, hp⟩
      ·
        refine FW.condT rfl c134 ?_
        refine FW.skip (FW.seq (FW.block (FW.seq (FW.region ?_))))
        refine FL.v (E.move k130) ?_
        refine FL.v (E.move k133) ?_
        obtain ⟨x141, hx142, hp⟩ := bnd hp
        obtain ⟨p135, cs136, pt137, l138, at139, rel140⟩ := S126.row_at (i := 0) rfl els79 (by decide) hx142
        obtain rfl := eI_open rel140
        refine FL.v (E.indexAddr te44 rfl rfl pt137) ?_
        refine FL.v (E.load rfl (run_load0 Tryz.isAgg3 at139 rfl)) ?_
        refine FL.v (E.assign (v := Value.int .i64 x141) rfl) ?_
        refine FL.nil (FW.seq (FW.region ?_))
        refine FL.v (E.move k131) ?_
        refine FL.v (E.move (v := Value.int .i64 x141) rfl) ?_
        obtain ⟨r143, hr144, hp⟩ := bnd hp
        obtain ⟨fi148, cs149, hv150, he151, hc152⟩ := (p1.mono i127) H125 w128 (Inc.rfl _) S126.sl x141 r143 hr144
        refine FL.call rfl rfl rfl (E.callV he151 (Eq.trans rfl hv150) (appA (A1 rfl) cs149)) hc152 ?_
        rintro e w145 ⟨rfl, r146⟩
        refine ⟨_, rfl, ?_⟩
        have S147 := S126.call r146
        refine FL.v (E.not rfl) ?_
        refine FL.nil ?_
        rcases ifB hp with ⟨c153, hp⟩ | ⟨c153, hp⟩
        ·
          refine FW.condT rfl c153 ?_
          refine FW.seq (FW.region ?_)
          refine FL.v (E.move k130) ?_
          refine FL.v (E.move k132) ?_
          refine FL.v (E.move (v := Value.int .i64 x141) rfl) ?_
          obtain ⟨x160, hx161, hp⟩ := bnd hp
          obtain ⟨p154, cs155, pt156, l157, at158, rel159⟩ := S147.row_at (i := 0) rfl els79 (by decide) hx161
          obtain rfl := eI_open rel159
          refine FL.v (E.indexAddr te44 rfl rfl pt156) ?_
          obtain ⟨xs165, hput166, hp⟩ := bnd hp
          obtain ⟨w162, cs168, run163, S164, els167, ce169⟩ := S147.putEls (P := Tryz.prog) (t := 3) (i := 0) rfl els79 hput166 pt156 Tryz.sizeOf3 (u := Value.int .i64 x141) (c := [Value.int .i64 x141]) rfl rfl (ones_cons rfl ones_nil) rfl
          have S164 : St H0 w0 H125 w162 (.row 3 1 v0 n0 cs168 :: L) := S164
          refine FL.act rfl rfl (E.store rfl rfl run163) ?_
          refine FL.nil (FW.region ?_)
          refine FL.v (E.move k132) ?_
          refine FL.v (E.add rfl rfl) ?_
          refine FL.v (E.assign (v := Value.int .i64 (wr (s32.2.1 + 1))) rfl) ?_
          refine FL.nil (FW.region ?_)
          refine FL.v (E.move k133) ?_
          refine FL.v (E.add rfl rfl) ?_
          refine FL.v (E.assign (v := Value.int .i64 (wr (s32.2.2 + 1))) rfl) ?_
          refine FL.nil ?_
          obtain rfl := Option.some.inj hp
          exact ⟨rfl, ⟨_, _, S164, i127, els167, k130, k131, rfl, rfl⟩⟩
        ·
          refine FW.condF rfl c153 ?_
          refine FW.skip (FW.region ?_)
          refine FL.v (E.move k133) ?_
          refine FL.v (E.add rfl rfl) ?_
          refine FL.v (E.assign (v := Value.int .i64 (wr (s32.2.2 + 1))) rfl) ?_
          refine FL.nil ?_
          obtain rfl := Option.some.inj hp
          exact ⟨rfl, ⟨_, _, S147, i127, els79, k130, k131, k132, rfl⟩⟩
      ·
        refine FW.condF rfl c134 ?_
        refine FW.exit ?_
        obtain rfl := Option.some.inj hp
        exact ⟨nofun, rfl, ⟨_, _, S126, i127, els79, k130, k132⟩⟩
    ·
      clear hq
      intro e f175 w174 hD
      rcases q32 with s32 | x32
      ·
        obtain ⟨rfl, hD⟩ := hD
        obtain ⟨H171, cs78, S172, i173, els79, k176, k177⟩ := hD
        replace hp := el_go hp
        refine FW.seq (FW.region ?_)
        refine FL.v (E.move k176) ?_
        refine FL.v (E.move k177) ?_
        obtain ⟨xs178, hc179, hp⟩ := bnd hp
        obtain ⟨v180, run181, h182⟩ := S172.tail te44 (kk := .i64) (i := 0) rfl els79 hc179
        refine FL.v (E.slice te44 rfl (congrArg some rfl) rfl rfl (run181 _)) ?_
        obtain ⟨w183, cs184, run185, S186, els187⟩ := S172.clearTail (P := Tryz.prog) te44 (i := 0) rfl els79 h182 rfl (ones_cons rfl ones_nil)
        have S186 : St H0 w0 H171 w183 (.row 3 1 v0 n0 cs184 :: L) := S186
        refine FL.val0 rfl rfl (E.clear rfl run185) ?_
        refine FL.nil (FW.seq (FW.region ?_))
        refine FL.v (E.move k176) ?_
        refine FL.v (E.move k177) ?_
        obtain ⟨xs188, hc189, hp⟩ := bnd hp
        obtain ⟨v190, n191, cs192, run193, S194, els195, nd196⟩ := S186.cutRow te44 (kk := .i64) (i := 0) rfl els187 hc189
        have S194 : St H0 w0 H171 w183 (.row 3 1 v190 n191 cs192 :: L) := S194
        refine FL.v (E.slice te44 rfl rfl (congrArg some rfl) rfl (run193 _)) ?_
        refine FL.v (E.assign (v := v190) rfl) ?_
        refine FL.nil ?_
        refine FW.ret ?_
        obtain rfl := Option.some.inj hp
        exact ⟨.inr rfl, res1 rfl rfl ⟨_, _, _, _, rfl, ⟨S194, i173⟩, els195⟩⟩
      · exact x32.elim

theorem w_impl_openPart_1 {Ha : GH} {wa : World} (hs : Sl Ha wa) (a0 : Int) (q0 : Addr) (b0 : List Int) (u0_0 : Value) (g0_0 : RSl Ha eI 1 u0_0 b0) (c0 : CAt Ha q0 [u0_0]) {r : Bool} (hp : (PF.impl_openPart_1 a0 b0) = some r) :
  Calls Tryz.prog 191 #[Value.int .i64 a0, Value.pointer (some q0)] wa (Sc Ha wa (Value.bool r)) := by
 unfold PF.impl_openPart_1 at hp
 have S0 := St.init hs
 refine calls_go (N := 8) (args := [Value.int .i64 a0, Value.pointer (some q0)]) Tryz.func191 rfl rfl rfl ?_
 refine FW.seq (FW.region ?_)
 refine FL.v (E.assign (v := Value.bool false) rfl) ?_
 refine FL.nil (FW.seq (FW.region ?_))
 refine FL.v (E.load rfl (run_load0 Tryz.isAgg44 (c0.now S0.sl) rfl)) ?_
 refine FL.v (E.move (v := Value.int .i64 a0) rfl) ?_
 refine FL.v (E.neg rfl) ?_
 obtain ⟨r21, hr22, hp⟩ := bnd hp
 refine FL.call rfl rfl rfl (E.call Tryz.call116 (A2 rfl rfl)) (w_slices_Contains_int_int S0.sl u0_0 b0 g0_0 (wr (-a0)) hr22) ?_
 rintro e w23 ⟨rfl, r24⟩
 refine ⟨_, rfl, ?_⟩
 have S25 := S0.call r24
 refine FL.v (E.assign (v := Value.bool r21) rfl) ?_
 refine FL.nil ?_
 refine FW.ret ?_
 obtain rfl := Option.some.inj hp
 exact ⟨.inr rfl, res1 rfl rfl ⟨rfl, S25.back⟩⟩

@[reducible] def p_impl_openPart (Ha : GH) (wa : World) (r : (List Int)) : Ending → World → Prop :=
 fun e w' => ∃ H' : GH, ∃ v0 : Value, ∃ n0 : Nat, ∃ c0 : List Value, e = .returned (v0) ∧ St Ha wa H' w' [.row 3 1 v0 n0 c0] ∧ Els (up wa.heap.size H') eI 1 c0 r
theorem w_impl_openPart {Ha : GH} {wa : World} (hs : Sl Ha wa) (v0 : Value) (a0 : List Int) (p0 : RSl Ha eI 1 v0 a0) (v1 : Value) (a1 : List Int) (p1 : RSl Ha eI 1 v1 a1) {r : (List Int)} (hp : (PF.impl_openPart a0 a1) = some r) :
  Calls Tryz.prog 182 #[v0, v1] wa (p_impl_openPart Ha wa r) := by
 unfold PF.impl_openPart at hp
 have S0 := St.init hs
 refine calls_go (N := 9) (args := [v0, v1]) Tryz.func182 rfl rfl rfl ?_
 refine FW.seq (FW.region ?_)
 obtain ⟨b21, w22, run23, S24⟩ := S0.box (P := Tryz.prog) 44 [v1] (v := v1) p1.cells (ones_cons p1.one ones_nil)
 refine FL.v (E.box rfl run23) ?_
 obtain ⟨H25, S26, i27, at28⟩ := S24.sealBox (i := 0) (l' := []) rfl rfl
 refine FL.v (E.assign (v := Value.slice none 0 0) rfl) ?_
 refine FL.nil (FW.seq (FW.region ?_))
 refine FL.v (E.move (v := v0) rfl) ?_
 obtain ⟨r29, hr30, hp⟩ := bnd hp
 refine FL.call rfl rfl rfl (E.call Tryz.call56 (A1 rfl)) (w_slices_Clone_int_int S26.sl v0 a0 (p0.mono i27) hr30) ?_
 rintro e w32 ⟨H31, v35, n36, cs37, rfl, r34, els38⟩
 refine ⟨_, rfl, ?_⟩
 have els38 := els38.mono (up_le S26.size)
 have S33 := S26.join (l' := [.row 3 1 v35 n36 cs37]) r34 rfl
 refine FL.v (E.makeFunc A0 (A1 rfl)) ?_
 obtain ⟨r39, hr40, hp⟩ := bnd hp
 refine FL.call rfl rfl rfl (E.call Tryz.call174 (A2 rfl rfl)) (w_slices_DeleteFunc_int_int (L := []) S33 r29 els38 (Value.func (.func 191) #[] #[Value.pointer (some ⟨b21, 0, none⟩)]) (fun x0 => PF.impl_openPart_1 x0 a1) (fun H2 w2 hi2 hs2 x0 r hr => ⟨191, #[Value.pointer (some ⟨b21, 0, none⟩)], rfl, Tryz.call191, w_impl_openPart_1 hs2 x0 ⟨b21, 0, none⟩ a1 v1 ((p1.mono (i27.tr r34.run.inc)).mono hi2) ((at28.mono r34.run.inc).mono hi2) hr⟩) hr40) ?_
 rintro e w42 ⟨H41, v45, n46, cs47, rfl, ⟨S43, i44⟩, els48⟩
 refine ⟨_, rfl, ?_⟩
 have S43 : St Ha wa H41 w42 [.row 3 1 v45 n46 cs47] := S43
 refine FL.v (E.assign (v := v45) rfl) ?_
 refine FL.nil ?_
 refine FW.ret ?_
 obtain rfl := Option.some.inj hp
 exact ⟨.inr rfl, res1 rfl rfl ⟨_, _, _, _, rfl, S43, els48⟩⟩

theorem w_impl_unit {Ha : GH} {wa : World} (hs : Sl Ha wa) (v0 : Value) (a0 : List Int) (p0 : RSl Ha eI 1 v0 a0) (v1 : Value) (a1 : List Int) (p1 : RSl Ha eI 1 v1 a1) {r : Int} (hp : (PF.impl_unit a0 a1) = some r) :
  Calls Tryz.prog 158 #[v0, v1] wa (Sc Ha wa (Value.int .i64 r)) := by
 unfold PF.impl_unit at hp
 have S0 := St.init hs
 refine calls_go (N := 19) (args := [v0, v1]) Tryz.func158 rfl rfl rfl ?_
 refine FW.seq (FW.region ?_)
 refine FL.v (E.assign (v := Value.int .i64 0) rfl) ?_
 refine FL.nil (FW.seq (FW.seq (FW.region ?_)))
 refine FL.v (E.move (v := v0) rfl) ?_
 refine FL.v (E.move (v := v1) rfl) ?_
 obtain ⟨r21, hr22, hp⟩ := bnd hp
 refine FL.call rfl rfl rfl (E.call Tryz.call160 (A2 rfl rfl)) (w_impl_clauseValue S0.sl v0 a0 p0 v1 a1 p1 hr22) ?_
 rintro e w23 ⟨rfl, r24⟩
 refine ⟨_, rfl, ?_⟩
 have S25 := S0.call r24
 refine FL.v (E.neq rfl rfl) ?_
 refine FL.nil ?_
 rcases ifB hp with ⟨c26, hp⟩ | ⟨c26, hp⟩
 ·
  refine FW.condT rfl c26 ?_
  refine FW.seq (FW.region ?_)
  refine FL.v (E.assign (v := Value.int .i64 0) rfl) ?_
  refine FL.nil ?_
  refine FW.ret ?_
  obtain rfl := Option.some.inj hp
  exact ⟨.inr rfl, res1 rfl rfl ⟨rfl, S25.back⟩⟩
 ·
  refine FW.condF rfl c26 ?_
  refine FW.skip (FW.seq (FW.seq (FW.region ?_)))
  refine FL.v (E.move (v := v0) rfl) ?_
  refine FL.v (E.move (v := v1) rfl) ?_
  obtain ⟨r27, hr28, hp⟩ := bnd hp
  refine FL.call rfl rfl rfl (E.call Tryz.call182 (A2 rfl rfl)) (w_impl_openPart S25.sl v0 a0 p0 v1 a1 p1 hr28) ?_
  rintro e w30 ⟨H29, v33, n34, cs35, rfl, r32, els36⟩
  refine ⟨_, rfl, ?_⟩
  have els36 := els36.mono (up_le S25.size)
  have S31 := S25.join (l' := [.row 3 1 v33 n34 cs35]) r32 rfl
  refine FL.v (E.assign (v := v33) rfl) ?_
  refine FL.nil (FW.seq (FW.region ?_))
  refine FL.v (E.move (v := v33) rfl) ?_
  refine FL.v (E.lenO te44 rfl S31 (i := 0) rfl els36 (by decide)) ?_
  refine FL.v (E.eql rfl rfl) ?_
  refine FL.nil ?_
  rcases ifB hp with ⟨c37, hp⟩ | ⟨c37, hp⟩
  ·
   refine FW.condT rfl c37 ?_
   refine FW.seq (FW.region ?_)
   refine FL.v (E.move (v := v33) rfl) ?_
   obtain ⟨x44, hx45, hp⟩ := bnd hp
   obtain ⟨p38, cs39, pt40, l41, at42, rel43⟩ := S31.row_at (i := 0) rfl els36 (by decide) hx45
   obtain rfl := eI_open rel43
   refine FL.v (E.indexAddr te44 rfl rfl pt40) ?_
   refine FL.v (E.load rfl (run_load0 Tryz.isAgg3 at42 rfl)) ?_
   refine FL.v (E.assign (v := Value.int .i64 x44) rfl) ?_
   refine FL.nil ?_
   refine FW.ret ?_
   obtain rfl := Option.some.inj hp
   exact ⟨.inr rfl, res1 rfl rfl ⟨rfl, S31.back⟩⟩
  ·
   refine FW.condF rfl c37 ?_
   refine FW.skip (FW.seq (FW.region ?_))
   refine FL.v (E.assign (v := Value.int .i64 0) rfl) ?_
   refine FL.nil ?_
   refine FW.ret ?_
   obtain rfl := Option.some.inj hp
   exact ⟨.inr rfl, res1 rfl rfl ⟨rfl, S31.back⟩⟩

theorem w_impl_withoutVar_1 {Ha : GH} {wa : World} (hs : Sl Ha wa) (a0 : Int) (q0 : Addr) (b0 : Int) (c0 : CAt Ha q0 [Value.int .i64 b0]) :
  Calls Tryz.prog 175 #[Value.int .i64 a0, Value.pointer (some q0)] wa (Sc Ha wa (Value.bool (PF.impl_withoutVar_1 a0 b0))) := by
 obtain ⟨r, hp⟩ : ∃ r, (PF.impl_withoutVar_1 a0 b0) = r := ⟨_, rfl⟩
 rw [hp]
 unfold PF.impl_withoutVar_1 at hp
 have S0 := St.init hs
 refine calls_go (N := 8) (args := [Value.int .i64 a0, Value.pointer (some q0)]) Tryz.func175 rfl rfl rfl ?_
 refine FW.seq (FW.region ?_)
 refine FL.v (E.assign (v := Value.bool false) rfl) ?_
 refine FL.nil (FW.seq ?_)
 refine FW.draw (fun w' => Run wa.heap.size Ha wa Ha w') (by kernel_rfl) (by kernel_rfl) (run_drew S0.sl) ?_
 refine FD.val rfl rfl rfl (fun w' hw' => (E.move (v := Value.int .i64 a0) rfl)) ?_
 refine FD.call rfl rfl rfl (fun w' hw' => (E.call Tryz.call91 (A1 rfl))) (fun w' hw' => Calls.cls hw' (w_impl_abs (S0.call hw').sl a0)) ?_
 refine FD.val rfl rfl rfl (fun w' hw' => (E.load rfl (run_load0 Tryz.isAgg3 (c0.now (S0.call hw').sl) rfl))) ?_
 refine FD.val rfl rfl rfl (fun w' hw' => (E.eql rfl rfl)) ?_
 refine FD.val rfl rfl rfl (fun w' hw' => (E.assign (v := Value.bool ((PF.impl_abs a0) == b0)) rfl)) ?_
 refine FD.nil ?_
 intro w22 r24
 have S23 := S0.call r24
 refine FW.ret ?_
 obtain rfl := hp
 exact ⟨.inr rfl, res1 rfl rfl ⟨rfl, S23.back⟩⟩

@[reducible] def p_impl_withoutVar (Ha : GH) (wa : World) (r : (List Int)) : Ending → World → Prop :=
 fun e w' => ∃ H' : GH, ∃ v0 : Value, ∃ n0 : Nat, ∃ c0 : List Value, e = .returned (v0) ∧ St Ha wa H' w' [.row 3 1 v0 n0 c0] ∧ Els (up wa.heap.size H') eI 1 c0 r
theorem w_impl_withoutVar {Ha : GH} {wa : World} (hs : Sl Ha wa) (v0 : Value) (a0 : List Int) (p0 : RSl Ha eI 1 v0 a0) (a1 : Int) {r : (List Int)} (hp : (PF.impl_withoutVar a0 a1) = some r) :
  Calls Tryz.prog 145 #[v0, Value.int .i64 a1] wa (p_impl_withoutVar Ha wa r) := by
 unfold PF.impl_withoutVar at hp
 have S0 := St.init hs
 refine calls_go (N := 9) (args := [v0, Value.int .i64 a1]) Tryz.func145 rfl rfl rfl ?_
 refine FW.seq (FW.region ?_)
 obtain ⟨b21, w22, run23, S24⟩ := S0.box (P := Tryz.prog) 3 [Value.int .i64 a1] (v := Value.int .i64 a1) rfl (ones_cons rfl ones_nil)
 refine FL.v (E.box rfl run23) ?_
 obtain ⟨H25, S26, i27, at28⟩ := S24.sealBox (i := 0) (l' := []) rfl rfl
 refine FL.v (E.assign (v := Value.slice none 0 0) rfl) ?_
 refine FL.nil (FW.seq (FW.region ?_))
 refine FL.v (E.move (v := v0) rfl) ?_
 obtain ⟨r29, hr30, hp⟩ := bnd hp
 refine FL.call rfl rfl rfl (E.call Tryz.call56 (A1 rfl)) (w_slices_Clone_int_int S26.sl v0 a0 (p0.mono i27) hr30) ?_
 rintro e w32 ⟨H31, v35, n36, cs37, rfl, r34, els38⟩
 refine ⟨_, rfl, ?_⟩
 have els38 := els38.mono (up_le S26.size)
 have S33 := S26.join (l' := [.row 3 1 v35 n36 cs37]) r34 rfl
 refine FL.v (E.makeFunc A0 (A1 rfl)) ?_
 obtain ⟨r39, hr40, hp⟩ := bnd hp
 refine FL.call rfl rfl rfl (E.call Tryz.call174 (A2 rfl rfl)) (w_slices_DeleteFunc_int_int (L := []) S33 r29 els38 (Value.func (.func 175) #[] #[Value.pointer (some ⟨b21, 0, none⟩)]) (fun x0 => some (PF.impl_withoutVar_1 x0 a1)) (fun H2 w2 hi2 hs2 x0 r hr => ⟨175, #[Value.pointer (some ⟨b21, 0, none⟩)], rfl, Tryz.call175, by cases hr; exact w_impl_withoutVar_1 hs2 x0 ⟨b21, 0, none⟩ a1 ((at28.mono r34.run.inc).mono hi2)⟩) hr40) ?_
 rintro e w42 ⟨H41, v45, n46, cs47, rfl, ⟨S43, i44⟩, els48⟩
 refine ⟨_, rfl, ?_⟩
 have S43 : St Ha wa H41 w42 [.row 3 1 v45 n46 cs47] := S43
 refine FL.v (E.assign (v := v45) rfl) ?_
 refine FL.nil ?_
 refine FW.ret ?_
 obtain rfl := Option.some.inj hp
 exact ⟨.inr rfl, res1 rfl rfl ⟨_, _, _, _, rfl, S43, els48⟩⟩

@[reducible] def p_slices_SortFunc_int_int (H0 : GH) (w0 : World) (Ha : GH) (L : List MO) (v0 : Value) (n0 : Nat) (r : (List Int)) : Ending → World → Prop :=
 fun e w' => ∃ H' : GH, ∃ c0k : List Value, e = .returned (Value.tuple #[]) ∧ (St H0 w0 H' w' (.row 3 1 v0 n0 c0k :: L) ∧ Inc Ha H') ∧ Els (up w0.heap.size H') eI 1 c0k r
theorem w_slices_SortFunc_int_int {H0 Ha : GH} {w0 wa : World} {L : List MO} {v0 : Value} {n0 : Nat} {k0 : List Value} (S0 : St H0 w0 Ha wa (.row 3 1 v0 n0 k0 :: L)) (a0 : List Int) (p0 : Els (up w0.heap.size Ha) eI 1 k0 a0) (v1 : Value) (a1 : Int → Int → Option Int) (p1 : Fn_I_I_to_I Tryz.prog Ha v1 a1) {r : (List Int)} (hp : (PF.slices_SortFunc_int_int a0 a1) = some r) :
  Calls Tryz.prog 171 #[v0, v1] wa (p_slices_SortFunc_int_int H0 w0 Ha L v0 n0 r) := by
 refine (St.sortF (l := .row 3 1 v0 n0 k0 :: L) (i := 0) upI S0 rfl p0 (fun H2 w2 hi hs2 c x hc d y hd r hr => by cases eI_open hc; cases eI_open hd; exact p1 H2 w2 hi hs2 x y r hr) (fun p cap fv w => AnyF.slices_SortFunc_none (P := Tryz.prog) (ρ := Tryz.sort171_ren) { Tryz.sort171 with } p cap fv w) (fun α _ enc h1 cf hO g cb blk off cap d w eg hc hH hb hs => Any.slices_SortFunc Tryz.sort171 enc h1 cf hO g cb blk off cap d w eg hc hH hb hs) hp).mono ?_
 rintro e w' ⟨rfl, c', h1, h2⟩
 exact ⟨_, _, rfl, ⟨h1, Inc.rfl _⟩, h2⟩

theorem w_cmp_isNaN_int {Ha : GH} {wa : World} (hs : Sl Ha wa) (a0 : Int) :
  Calls Tryz.prog 181 #[Value.int .i64 a0] wa (Sc Ha wa (Value.bool (PF.cmp_isNaN_int a0))) := by
 obtain ⟨r, hp⟩ : ∃ r, (PF.cmp_isNaN_int a0) = r := ⟨_, rfl⟩
 rw [hp]
 unfold PF.cmp_isNaN_int at hp
 have S0 := St.init hs
 refine calls_go (N := 6) (args := [Value.int .i64 a0]) Tryz.func181 rfl rfl rfl ?_
 refine FW.seq (FW.region ?_)
 refine FL.v (E.assign (v := Value.bool false) rfl) ?_
 refine FL.nil (FW.seq (FW.region ?_))
 refine FL.v (E.move (v := Value.int .i64 a0) rfl) ?_
 refine FL.v (E.move (v := Value.int .i64 a0) rfl) ?_
 refine FL.v (E.neq rfl rfl) ?_
 refine FL.v (E.assign (v := Value.bool (!(a0 == a0))) rfl) ?_
 refine FL.nil ?_
 refine FW.ret ?_
 obtain rfl := hp
 exact ⟨.inr rfl, res1 rfl rfl ⟨rfl, S0.back⟩⟩

theorem w_cmp_Compare_int {Ha : GH} {wa : World} (hs : Sl Ha wa) (a0 : Int) (a1 : Int) :
  Calls Tryz.prog 188 #[Value.int .i64 a0, Value.int .i64 a1] wa (Sc Ha wa (Value.int .i64 (PF.cmp_Compare_int a0 a1))) := by
 obtain ⟨r, hp⟩ : ∃ r, (PF.cmp_Compare_int a0 a1) = r := ⟨_, rfl⟩
 rw [hp]
 unfold PF.cmp_Compare_int at hp
 have S0 := St.init hs
 refine calls_go (N := 20) (args := [Value.int .i64 a0, Value.int .i64 a1]) Tryz.func188 rfl rfl rfl ?_
 refine FW.seq (FW.region ?_)
 refine FL.v (E.assign (v := Value.int .i64 0) rfl) ?_
 refine FL.nil (FW.seq (FW.region ?_))
 refine FL.v (E.move (v := Value.int .i64 a0) rfl) ?_
 refine FL.call rfl rfl rfl (E.call Tryz.call181 (A1 rfl)) (w_cmp_isNaN_int S0.sl a0) ?_
 rintro e w21 ⟨rfl, r22⟩
 refine ⟨_, rfl, ?_⟩
 have S23 := S0.call r22
 refine FL.v (E.assign (v := Value.bool (PF.cmp_isNaN_int a0)) rfl) ?_
 refine FL.nil (FW.seq (FW.region ?_))
 refine FL.v (E.move (v := Value.int .i64 a1) rfl) ?_
 refine FL.call rfl rfl rfl (E.call Tryz.call181 (A1 rfl)) (w_cmp_isNaN_int S23.sl a1) ?_
 rintro e w24 ⟨rfl, r25⟩
 refine ⟨_, rfl, ?_⟩
 have S26 := S23.call r25
 refine FL.v (E.assign (v := Value.bool (PF.cmp_isNaN_int a1)) rfl) ?_
 refine FL.nil (FW.seq (FW.seq (FW.region ?_)))
 refine FL.v (E.move (v := Value.bool (PF.cmp_isNaN_int a0)) rfl) ?_
 refine FL.nil ?_
 rcases ifT hp with ⟨c27, hp⟩ | ⟨c27, hp⟩
 ·
  refine FW.condT rfl c27 ?_
  refine FW.seq (FW.seq (FW.region ?_))
  refine FL.v (E.move (v := Value.bool (PF.cmp_isNaN_int a1)) rfl) ?_
  refine FL.nil ?_
  rcases ifT hp with ⟨c28, hp⟩ | ⟨c28, hp⟩
  ·
   refine FW.condT rfl c28 ?_
   refine FW.seq (FW.region ?_)
   refine FL.v (E.assign (v := Value.int .i64 0) rfl) ?_
   refine FL.nil ?_
   refine FW.ret ?_
   obtain rfl := hp
   exact ⟨.inr rfl, res1 rfl rfl ⟨rfl, S26.back⟩⟩
  ·
   refine FW.condF rfl c28 ?_
   refine FW.skip (FW.seq (FW.region ?_))
   refine FL.v (E.assign (v := Value.int .i64 (-1)) rfl) ?_
   refine FL.nil ?_
   refine FW.ret ?_
   obtain rfl := hp
   exact ⟨.inr rfl, res1 rfl rfl ⟨rfl, S26.back⟩⟩
 ·
  refine FW.condF rfl c27 ?_
  refine FW.skip (FW.seq (FW.seq (FW.region ?_)))
  refine FL.v (E.move (v := Value.bool (PF.cmp_isNaN_int a1)) rfl) ?_
  refine FL.nil ?_
  rcases ifT hp with ⟨c29, hp⟩ | ⟨c29, hp⟩
  ·
   refine FW.condT rfl c29 ?_
   refine FW.seq (FW.region ?_)
   refine FL.v (E.assign (v := Value.int .i64 1) rfl) ?_
   refine FL.nil ?_
   refine FW.ret ?_
   obtain rfl := hp
   exact ⟨.inr rfl, res1 rfl rfl ⟨rfl, S26.back⟩⟩
  ·
   refine FW.condF rfl c29 ?_
   refine FW.skip (FW.seq (FW.seq (FW.region ?_)))
   refine FL.v (E.move (v := Value.int .i64 a0) rfl) ?_
   refine FL.v (E.move (v := Value.int .i64 a1) rfl) ?_
   refine FL.v (E.lss rfl rfl) ?_
   refine FL.nil ?_
   rcases ifT hp with ⟨c30, hp⟩ | ⟨c30, hp⟩
   ·
    refine FW.condT rfl c30 ?_
    refine FW.seq (FW.region ?_)
    refine FL.v (E.assign (v := Value.int .i64 (-1)) rfl) ?_
    refine FL.nil ?_
    refine FW.ret ?_
    obtain rfl := hp
    exact ⟨.inr rfl, res1 rfl rfl ⟨rfl, S26.back⟩⟩
   ·
    refine FW.condF rfl c30 ?_
    refine FW.skip (FW.seq (FW.seq (FW.region ?_)))
    refine FL.v (E.move (v := Value.int .i64 a0) rfl) ?_
    refine FL.v (E.move (v := Value.int .i64 a1) rfl) ?_
    refine FL.v (E.gtr rfl rfl) ?_
    refine FL.nil ?_
    rcases ifT hp with ⟨c31, hp⟩ | ⟨c31, hp⟩
    ·
     refine FW.condT rfl c31 ?_
     refine FW.seq (FW.region ?_)
     refine FL.v (E.assign (v := Value.int .i64 1) rfl) ?_
     refine FL.nil ?_
     refine FW.ret ?_
     obtain rfl := hp
     exact ⟨.inr rfl, res1 rfl rfl ⟨rfl, S26.back⟩⟩
    ·
     refine FW.condF rfl c31 ?_
     refine FW.skip (FW.seq (FW.region ?_))
     refine FL.v (E.assign (v := Value.int .i64 0) rfl) ?_
     refine FL.nil ?_
     refine FW.ret ?_
     obtain rfl := hp
     exact ⟨.inr rfl, res1 rfl rfl ⟨rfl, S26.back⟩⟩

theorem w_cmp_Or_int {Ha : GH} {wa : World} (hs : Sl Ha wa) (v0 : Value) (a0 : List Int) (p0 : RSl Ha eI 1 v0 a0) {r : Int} (hp : (PF.cmp_Or_int a0) = some r) :
  Calls Tryz.prog 187 #[v0] wa (Sc Ha wa (Value.int .i64 r)) := by
 unfold PF.cmp_Or_int at hp
 have S0 := St.init hs
 refine calls_go (N := 18) (args := [v0]) Tryz.func187 rfl rfl rfl ?_
 refine FW.seq (FW.region ?_)
 refine FL.v (E.assign (v := Value.int .i64 0) rfl) ?_
 refine FL.nil (FW.seq (FW.region ?_))
 refine FL.v (E.assign (v := Value.int .i64 0) rfl) ?_
 refine FL.nil (FW.seq (FW.seq (FW.region ?_)))
 refine FL.v (E.move (v := v0) rfl) ?_
 refine FL.v (E.lenP te44 rfl p0) ?_
 refine FL.v (E.move (v := Value.int .i64 0) rfl) ?_
 refine FL.nil ?_
 obtain ⟨q22, hq, hp⟩ := bndR hp
 refine FW.block ?_
 refine FW.mono (FW.forL (S := Unit) (X := Int) (fun (i22 : Nat) (s22 : Unit) f w => ∃ H : GH, St Ha wa H w [] ∧ Inc Ha H ∧ f 8 = Value.int .i64 ((i22 : Nat) : Int) ∧ f 3 = Value.int .i64 0 ∧ f 6 = v0 ∧ f 7 = Value.int .i64 (len a0)) (fun q e f w => match q with | .go s22 => e = Exit.exit 0 ∧ (∃ H : GH, St Ha wa H w [] ∧ Inc Ha H ∧ f 3 = Value.int .i64 0) | .rt x => ((e = Exit.ret) ∧ (fun e f w => (e = Exit.normal ∨ e = Exit.ret) ∧ ∀ a, Fr (δ := []) 18 a f → ∃ v, (results Tryz.f187 a.tmps).run Tryz.prog w = .ok v w ∧ (Sc Ha wa (Value.int .i64 x)) (.returned v) w) e f w)) hq ⟨_, S0, (Inc.rfl _), rfl, rfl, rfl, rfl⟩ ?_ ?_) ?_
 ·
  clear hp hq
  rintro i22 y21 s22 f43 w42 ⟨H39, S40, i41, k44, k45, k46, k47⟩ hx22 o55 hp
  refine FW.seq (FW.region ?_)
  refine FL.v (E.lssT k44 k47 (lss_len hx22)) ?_
  refine FL.nil (FW.seq ?_)
  refine FW.condT rfl rfl ?_
  refine FW.skip (FW.seq (FW.block (FW.seq (FW.region ?_))))
  obtain ⟨p48, cs49, pt50, l51, at52, rel53⟩ := p0.at (ix_nat hx22)
  obtain rfl := eI_open rel53
  refine FL.v (E.indexAddr te44 k46 k44 pt50) ?_
  refine FL.v (E.load rfl (run_load0 Tryz.isAgg3 ((at52.mono i41).now S40.sl) rfl)) ?_
  refine FL.v (E.assign (v := Value.int .i64 y21) rfl) ?_
  refine FL.nil (FW.seq (FW.region ?_))
  refine FL.v (E.move (v := Value.int .i64 y21) rfl) ?_
  refine FL.v (E.move k45) ?_
  refine FL.v (E.neq rfl rfl) ?_
  refine FL.nil ?_
  rcases ifB hp with ⟨c54, hp⟩ | ⟨c54, hp⟩
  ·
   refine FW.condT rfl c54 ?_
   refine FW.seq (FW.region ?_)
   refine FL.v (E.move (v := Value.int .i64 y21) rfl) ?_
   refine FL.v (E.assign (v := Value.int .i64 y21) rfl) ?_
   refine FL.nil ?_
   refine FW.ret ?_
   obtain rfl := Option.some.inj hp
   exact ⟨nofun, rfl, ⟨.inr rfl, res1 rfl rfl ⟨rfl, S40.back⟩⟩⟩
  ·
   refine FW.condF rfl c54 ?_
   refine FW.skip (FW.region ?_)
   refine FL.v (E.add k44 rfl) ?_
   refine FL.v (E.move (v := Value.int .i64 (wr (((i22 : Nat) : Int) + 1))) rfl) ?_
   refine FL.nil ?_
   obtain rfl := Option.some.inj hp
   exact ⟨rfl, ⟨_, S40, i41, (nat_succ rfl (lt_of_get hx22) (p0.mono i41).le), k45, k46, k47⟩⟩
 ·
  clear hp hq
  rintro s22 f66 w65 ⟨H62, S63, i64, k67, k68, k69, k70⟩
  refine FW.seq (FW.region ?_)
  refine FL.v (E.lss k67 k70) ?_
  refine FL.nil (FW.seq ?_)
  refine FW.condF rfl dlt_len ?_
  refine FW.exit ?_
  exact ⟨nofun, rfl, ⟨_, S63, i64, k68⟩⟩
 ·
  clear hq
  intro e f60 w59 hD
  rcases q22 with s22 | x22
  ·
   obtain ⟨rfl, hD⟩ := hD
   obtain ⟨H56, S57, i58, k61⟩ := hD
   replace hp := el_go hp
   refine FW.seq (FW.region ?_)
   refine FL.v (E.move k61) ?_
   refine FL.v (E.assign (v := Value.int .i64 0) rfl) ?_
   refine FL.nil ?_
   refine FW.ret ?_
   obtain rfl := Option.some.inj hp
   exact ⟨.inr rfl, res1 rfl rfl ⟨rfl, S57.back⟩⟩
  ·
   obtain ⟨he, hL⟩ := hD
   replace hp := el_rt hp
   obtain rfl := Option.some.inj hp
   subst he
   exact hL

theorem w_impl_compareLiterals {Ha : GH} {wa : World} (hs : Sl Ha wa) (a0 : Int) (a1 : Int) {r : Int} (hp : (PF.impl_compareLiterals a0 a1) = some r) :
  Calls Tryz.prog 172 #[Value.int .i64 a0, Value.int .i64 a1] wa (Sc Ha wa (Value.int .i64 r)) := by
 unfold PF.impl_compareLiterals at hp
 have S0 := St.init hs
 refine calls_go (N := 15) (args := [Value.int .i64 a0, Value.int .i64 a1]) Tryz.func172 rfl rfl rfl ?_
 refine FW.seq (FW.region ?_)
 refine FL.v (E.assign (v := Value.int .i64 0) rfl) ?_
 refine FL.nil (FW.seq (FW.region ?_))
 refine FL.v (E.move (v := Value.int .i64 a0) rfl) ?_
 refine FL.call rfl rfl rfl (E.call Tryz.call91 (A1 rfl)) (w_impl_abs S0.sl a0) ?_
 rintro e w21 ⟨rfl, r22⟩
 refine ⟨_, rfl, ?_⟩
 have S23 := S0.call r22
 refine FL.v (E.move (v := Value.int .i64 a1) rfl) ?_
 refine FL.call rfl rfl rfl (E.call Tryz.call91 (A1 rfl)) (w_impl_abs S23.sl a1) ?_
 rintro e w24 ⟨rfl, r25⟩
 refine ⟨_, rfl, ?_⟩
 have S26 := S23.call r25
 refine FL.call rfl rfl rfl (E.call Tryz.call188 (A2 rfl rfl)) (w_cmp_Compare_int S26.sl (PF.impl_abs a0) (PF.impl_abs a1)) ?_
 rintro e w27 ⟨rfl, r28⟩
 refine ⟨_, rfl, ?_⟩
 have S29 := S26.call r28
 refine FL.v (E.move (v := Value.int .i64 a1) rfl) ?_
 refine FL.v (E.move (v := Value.int .i64 a0) rfl) ?_
 refine FL.call rfl rfl rfl (E.call Tryz.call188 (A2 rfl rfl)) (w_cmp_Compare_int S29.sl a1 a0) ?_
 rintro e w30 ⟨rfl, r31⟩
 refine ⟨_, rfl, ?_⟩
 have S32 := S29.call r31
 obtain ⟨v33, w34, run35, S36⟩ := S32.buildSlice (P := Tryz.prog) te44 [Value.int .i64 (PF.cmp_Compare_int (PF.impl_abs a0) (PF.impl_abs a1)), Value.int .i64 (PF.cmp_Compare_int a1 a0)] (parts := #[(0, Value.int .i64 (PF.cmp_Compare_int (PF.impl_abs a0) (PF.impl_abs a1))), (1, Value.int .i64 (PF.cmp_Compare_int a1 a0))]) (cells := [Value.int .i64 (PF.cmp_Compare_int (PF.impl_abs a0) (PF.impl_abs a1)), Value.int .i64 (PF.cmp_Compare_int a1 a0)]) rfl (szs_cons rfl (szs_cons rfl szs_nil)) (fc_cons rfl (fc_cons rfl fc_nil)) (ones_cons rfl (ones_cons rfl ones_nil)) (Nat.le_of_ble_eq_true rfl)
 have els37 : Els (up wa.heap.size Ha) eI 1 [Value.int .i64 (PF.cmp_Compare_int (PF.impl_abs a0) (PF.impl_abs a1)), Value.int .i64 (PF.cmp_Compare_int a1 a0)] [(PF.cmp_Compare_int (PF.impl_abs a0) (PF.impl_abs a1)), (PF.cmp_Compare_int a1 a0)] := (Els.snoc (H := (up wa.heap.size Ha)) (E := eI) (k := 1) (c := [Value.int .i64 (PF.cmp_Compare_int a1 a0)]) (x := (PF.cmp_Compare_int a1 a0)) (Els.snoc (H := (up wa.heap.size Ha)) (E := eI) (k := 1) (c := [Value.int .i64 (PF.cmp_Compare_int (PF.impl_abs a0) (PF.impl_abs a1))]) (x := (PF.cmp_Compare_int (PF.impl_abs a0) (PF.impl_abs a1))) Els.nil rfl rfl) rfl rfl)
 refine FL.v (E.buildSlice (B2 rfl rfl) run35) ?_
 obtain ⟨H38, S39, i40, h41, nv42⟩ := S36.sealRowU (i := 0) (l' := []) rfl els37 (by decide) rfl
 obtain ⟨r43, hr44, hp⟩ := bnd hp
 refine FL.call rfl rfl rfl (E.call Tryz.call187 (A1 rfl)) (w_cmp_Or_int S39.sl v33 [(PF.cmp_Compare_int (PF.impl_abs a0) (PF.impl_abs a1)), (PF.cmp_Compare_int a1 a0)] (h41.mono upI) hr44) ?_
 rintro e w45 ⟨rfl, r46⟩
 refine ⟨_, rfl, ?_⟩
 have r46 := Run.lend i40 S36.sl r46
 have S47 := S36.call r46
 refine FL.v (E.assign (v := Value.int .i64 r43) rfl) ?_
 refine FL.nil ?_
 refine FW.ret ?_
 obtain rfl := Option.some.inj hp
 exact ⟨.inr rfl, res1 rfl rfl ⟨rfl, S47.back⟩⟩

@[reducible] def p_slices_Compact_int_int (H0 : GH) (w0 : World) (Ha : GH) (L : List MO) (r : (List Int)) : Ending → World → Prop :=
 fun e w' => ∃ H' : GH, ∃ v0r : Value, ∃ n0r : Nat, ∃ c0r : List Value, e = .returned (v0r) ∧ (St H0 w0 H' w' (.row 3 1 v0r n0r c0r :: L) ∧ Inc Ha H') ∧ Els (up w0.heap.size H') eI 1 c0r r
theorem w_slices_Compact_int_int {H0 Ha : GH} {w0 wa : World} {L : List MO} {v0 : Value} {n0 : Nat} {k0 : List Value} (S0 : St H0 w0 Ha wa (.row 3 1 v0 n0 k0 :: L)) (a0 : List Int) (p0 : Els (up w0.heap.size Ha) eI 1 k0 a0) {r : (List Int)} (hp : (PF.slices_Compact_int_int a0) = some r) :
  Calls Tryz.prog 82 #[v0] wa (p_slices_Compact_int_int H0 w0 Ha L r) := by
 cases hp
 refine (St.compactF (l := .row 3 1 v0 n0 k0 :: L) (i := 0) S0 rfl p0 (enc := Value.int .i64) (fun _ => rfl) (fun _ _ _ h => by cases eI_open h; rfl) (fun _ _ => rfl) 0 (fun w => compact_none Tryz.comp82 w) (fun blk off cap d w hH hs hc => AnyE.slices_Compact Tryz.comp82 (Value.int .i64) (fun _ => rfl) (EqlAt.intD _ _ _) (NeqAt.intD _ _ _) 0 (fun w => Tryz.zeroValue3 w) blk off cap d w hH hs hc)).mono ?_
 rintro e w' ⟨v', n', c', rfl, h1, h2⟩
 exact ⟨_, _, _, _, rfl, ⟨h1, Inc.rfl _⟩, h2⟩

@[reducible] def p_impl_clause (Ha : GH) (wa : World) (r : ((List Int) × Bool)) : Ending → World → Prop :=
 fun e w' => ∃ H' : GH, ∃ v0 : Value, ∃ n0 : Nat, ∃ c0 : List Value, e = .returned (Value.tuple #[v0, Value.bool r.2]) ∧ St Ha wa H' w' [.row 3 1 v0 n0 c0] ∧ Els (up wa.heap.size H') eI 1 c0 r.1
theorem w_impl_clause {Ha : GH} {wa : World} (hs : Sl Ha wa) (v0 : Value) (a0 : List Int) (p0 : RSl Ha eI 1 v0 a0) {r : ((List Int) × Bool)} (hp : (PF.impl_clause a0) = some r) :
  Calls Tryz.prog 143 #[v0] wa (p_impl_clause Ha wa r) := by
 unfold PF.impl_clause at hp
 have S0 := St.init hs
 refine calls_go (N := 30) (args := [v0]) Tryz.func143 rfl rfl rfl ?_
 refine FW.seq (FW.region ?_)
 refine FL.v (E.assign (v := Value.slice none 0 0) rfl) ?_
 refine FL.v (E.assign (v := Value.bool false) rfl) ?_
 refine FL.nil (FW.seq (FW.region ?_))
 refine FL.v (E.move (v := v0) rfl) ?_
 obtain ⟨r21, hr22, hp⟩ := bnd hp
 refine FL.call rfl rfl rfl (E.call Tryz.call56 (A1 rfl)) (w_slices_Clone_int_int S0.sl v0 a0 p0 hr22) ?_
 rintro e w24 ⟨H23, v27, n28, cs29, rfl, r26, els30⟩
 refine ⟨_, rfl, ?_⟩
 have els30 := els30.mono (up_le S0.size)
 have S25 := S0.join (l' := [.row 3 1 v27 n28 cs29]) r26 rfl
 refine FL.v (E.assign (v := v27) rfl) ?_
 refine FL.nil (FW.seq (FW.region ?_))
 refine FL.v (E.move (v := v27) rfl) ?_
 obtain ⟨r31, hr32, hp⟩ := bnd hp
 refine FL.call rfl rfl rfl (E.call Tryz.call171 (A2 rfl rfl)) (w_slices_SortFunc_int_int (L := []) S25 r21 els30 (Value.func (.func 172) #[] #[]) (fun x0 x1 => PF.impl_compareLiterals x0 x1) (fun H2 w2 hi2 hs2 x0 x1 r hr => ⟨172, #[], rfl, Tryz.call172, w_impl_compareLiterals hs2 x0 x1  hr⟩) hr32) ?_
 rintro e w34 ⟨H33, cs37, rfl, ⟨S35, i36⟩, els38⟩
 refine ⟨_, rfl, ?_⟩
 have S35 : St Ha wa H33 w34 [.row 3 1 v27 n28 cs37] := S35
 refine FL.nil (FW.seq (FW.region ?_))
 refine FL.v (E.move (v := v27) rfl) ?_
 obtain ⟨r39, hr40, hp⟩ := bnd hp
 refine FL.call rfl rfl rfl (E.call Tryz.call82 (A1 rfl)) (w_slices_Compact_int_int (L := []) S35 r31 els38 hr40) ?_
 rintro e w42 ⟨H41, v45, n46, cs47, rfl, ⟨S43, i44⟩, els48⟩
 refine ⟨_, rfl, ?_⟩
 have S43 : St Ha wa H41 w42 [.row 3 1 v45 n46 cs47] := S43
 refine FL.v (E.assign (v := v45) rfl) ?_
 refine FL.nil (FW.seq (FW.seq (FW.region ?_)))
 refine FL.v (E.assign (v := Value.int .i64 1) rfl) ?_
 refine FL.nil ?_
 obtain ⟨q49, hq, hp⟩ := bndR hp
 refine FW.block ?_
 refine FW.mono (FW.iter (S := Int) (X := ((List Int) × Bool)) (fun (s49 : Int) f w => ∃ H : GH, St Ha wa H w [.row 3 1 v45 n46 cs47] ∧ Inc H41 H ∧ f 4 = v45 ∧ f 5 = Value.int .i64 s49) (fun q e f w => match q with | .go s49 => e = Exit.exit 0 ∧ (∃ H : GH, St Ha wa H w [.row 3 1 v45 n46 cs47] ∧ Inc H41 H ∧ f 4 = v45) | .rt x => ((e = Exit.ret) ∧ (fun e f w => (e = Exit.normal ∨ e = Exit.ret) ∧ ∀ a, Fr (δ := []) 30 a f → ∃ v, (results Tryz.f143 a.tmps).run Tryz.prog w = .ok v w ∧ (p_impl_clause Ha wa x) (.returned v) w) e f w)) hq ⟨_, S43, (Inc.rfl _), rfl, rfl⟩ ?_) ?_
 ·
  clear hp hq
  rintro s49 f83 w82 ⟨H79, S80, i81, k84, k85⟩ o108 hp
  refine FW.seq (FW.seq (FW.region ?_))
  refine FL.v (E.move k85) ?_
  refine FL.v (E.move k84) ?_
  refine FL.v (E.lenO te44 rfl S80 (i := 0) rfl els48 (by decide)) ?_
  refine FL.v (E.lss rfl rfl) ?_
  refine FL.nil ?_
  rcases ifB hp with ⟨c86, hp⟩ | ⟨c86, hp⟩
  ·
   refine FW.condT rfl c86 ?_
   refine FW.skip (FW.seq (FW.block (FW.seq ?_)))
   refine FW.draw (fun w' => Run w82.heap.size H79 w82 H79 w') (by kernel_rfl) (by kernel_rfl) (run_drew S80.sl) ?_
   refine FD.val rfl rfl rfl (fun w' hw' => (E.move k84)) ?_
   refine FD.val rfl rfl rfl (fun w' hw' => (E.move k85)) ?_
   obtain ⟨x94, hx95, hp⟩ := bnd hp
   obtain ⟨p88, cs89, pt90, l91, at92, rel93⟩ := S80.row_at (i := 0) rfl els48 (by decide) hx95
   obtain rfl := eI_open rel93
   refine FD.val rfl rfl rfl (fun w' hw' => (E.indexAddr te44 rfl rfl pt90)) ?_
   refine FD.val rfl rfl rfl (fun w' hw' => (E.load rfl (run_load0 Tryz.isAgg3 (at92.cls hw') rfl))) ?_
   refine FD.val rfl rfl rfl (fun w' hw' => (E.move k84)) ?_
   refine FD.val rfl rfl rfl (fun w' hw' => (E.move k85)) ?_
   refine FD.val rfl rfl rfl (fun w' hw' => (E.sub rfl rfl)) ?_
   obtain ⟨x102, hx103, hp⟩ := bnd hp
   obtain ⟨p96, cs97, pt98, l99, at100, rel101⟩ := S80.row_at (i := 0) rfl els48 (by decide) hx103
   obtain rfl := eI_open rel101
   refine FD.val rfl rfl rfl (fun w' hw' => (E.indexAddr te44 rfl rfl pt98)) ?_
   refine FD.val rfl rfl rfl (fun w' hw' => (E.load rfl (run_load0 Tryz.isAgg3 (at100.cls hw') rfl))) ?_
   refine FD.val rfl rfl rfl (fun w' hw' => (E.neg rfl)) ?_
   refine FD.val rfl rfl rfl (fun w' hw' => (E.eql rfl rfl)) ?_
   refine FD.nil ?_
   intro w104 r106
   have S105 := S80.call r106
   rcases ifB hp with ⟨c107, hp⟩ | ⟨c107, hp⟩
   ·
    refine FW.condT rfl c107 ?_
    refine FW.seq (FW.region ?_)
    refine FL.v (E.assign (v := Value.slice none 0 0) rfl) ?_
    refine FL.v (E.assign (v := Value.bool false) rfl) ?_
    refine FL.nil ?_
    refine FW.ret ?_
    obtain rfl := Option.some.inj hp
    exact ⟨nofun, rfl, ⟨.inr rfl, res2 rfl rfl rfl ⟨_, _, _, _, rfl, ((S105.nil 3 1).sel [0] (by decide) rfl), Els.nil⟩⟩⟩
   ·
    refine FW.condF rfl c107 ?_
    refine FW.skip (FW.region ?_)
    refine FL.v (E.move k85) ?_
    refine FL.v (E.add rfl rfl) ?_
    refine FL.v (E.assign (v := Value.int .i64 (wr (s49 + 1))) rfl) ?_
    refine FL.nil ?_
    obtain rfl := Option.some.inj hp
    exact ⟨rfl, ⟨_, S105, i81, k84, rfl⟩⟩
  ·
   refine FW.condF rfl c86 ?_
   refine FW.exit ?_
   obtain rfl := Option.some.inj hp
   exact ⟨nofun, rfl, ⟨_, S80, i81, k84⟩⟩
 ·
  clear hq
  intro e f113 w112 hD
  rcases q49 with s49 | x49
  ·
   obtain ⟨rfl, hD⟩ := hD
   obtain ⟨H109, S110, i111, k114⟩ := hD
   replace hp := el_go hp
   refine FW.seq (FW.region ?_)
   refine FL.v (E.move k114) ?_
   refine FL.v (E.assign (v := v45) rfl) ?_
   refine FL.v (E.assign (v := Value.bool true) rfl) ?_
   refine FL.nil ?_
   refine FW.ret ?_
   obtain rfl := Option.some.inj hp
   exact ⟨.inr rfl, res2 rfl rfl rfl ⟨_, _, _, _, rfl, S110, (els48.mono (up_mono i111))⟩⟩
  ·
   obtain ⟨he, hL⟩ := hD
   replace hp := el_rt hp
   obtain rfl := Option.some.inj hp
   subst he
   exact hL

@[reducible] def p_impl_mustClause (Ha : GH) (wa : World) (r : (List Int)) : Ending → World → Prop :=
 fun e w' => ∃ H' : GH, ∃ v0 : Value, ∃ n0 : Nat, ∃ c0 : List Value, e = .returned (v0) ∧ St Ha wa H' w' [.row 3 1 v0 n0 c0] ∧ Els (up wa.heap.size H') eI 1 c0 r
theorem w_impl_mustClause {Ha : GH} {wa : World} (hs : Sl Ha wa) (v0 : Value) (a0 : List Int) (p0 : RSl Ha eI 1 v0 a0) {r : (List Int)} (hp : (PF.impl_mustClause a0) = some r) :
  Calls Tryz.prog 183 #[v0] wa (p_impl_mustClause Ha wa r) := by
 unfold PF.impl_mustClause at hp
 have S0 := St.init hs
 refine calls_go (N := 11) (args := [v0]) Tryz.func183 rfl rfl rfl ?_
 refine FW.seq (FW.region ?_)
 refine FL.v (E.assign (v := Value.slice none 0 0) rfl) ?_
 refine FL.nil (FW.seq (FW.region ?_))
 refine FL.v (E.move (v := v0) rfl) ?_
 obtain ⟨r21, hr22, hp⟩ := bnd hp
 refine FL.call rfl rfl rfl (E.call Tryz.call143 (A1 rfl)) (w_impl_clause S0.sl v0 a0 p0 hr22) ?_
 rintro e w24 ⟨H23, v27, n28, cs29, rfl, r26, els30⟩
 refine ⟨_, rfl, ?_⟩
 have els30 := els30.mono (up_le S0.size)
 have S25 := S0.join (l' := [.row 3 1 v27 n28 cs29]) r26 rfl
 refine FL.v (E.move (v := Value.tuple #[v27, Value.bool r21.2]) rfl) ?_
 refine FL.v (E.extract (i := 0) rfl rfl) ?_
 refine FL.v (E.extract (i := 1) rfl rfl) ?_
 refine FL.v (E.assign (v := v27) rfl) ?_
 refine FL.v (E.assign (v := Value.bool r21.2) rfl) ?_
 refine FL.nil (FW.seq (FW.region ?_))
 refine FL.v (E.move (v := v27) rfl) ?_
 refine FL.v (E.assign (v := v27) rfl) ?_
 refine FL.nil ?_
 refine FW.ret ?_
 obtain rfl := Option.some.inj hp
 exact ⟨.inr rfl, res1 rfl rfl ⟨_, _, _, _, rfl, S25, els30⟩⟩

@[reducible] def p_impl_set (Ha : GH) (wa : World) (r : (List Int)) : Ending → World → Prop :=
 fun e w' => ∃ H' : GH, ∃ v0 : Value, ∃ n0 : Nat, ∃ c0 : List Value, e = .returned (v0) ∧ St Ha wa H' w' [.row 3 1 v0 n0 c0] ∧ Els (up wa.heap.size H') eI 1 c0 r
theorem w_impl_set {Ha : GH} {wa : World} (hs : Sl Ha wa) (v0 : Value) (a0 : List Int) (p0 : RSl Ha eI 1 v0 a0) (a1 : Int) {r : (List Int)} (hp : (PF.impl_set a0 a1) = some r) :
  Calls Tryz.prog 159 #[v0, Value.int .i64 a1] wa (p_impl_set Ha wa r) := by
 unfold PF.impl_set at hp
 have S0 := St.init hs
 refine calls_go (N := 13) (args := [v0, Value.int .i64 a1]) Tryz.func159 rfl rfl rfl ?_
 refine FW.seq (FW.region ?_)
 refine FL.v (E.assign (v := Value.slice none 0 0) rfl) ?_
 refine FL.nil (FW.seq (FW.region ?_))
 refine FL.v (E.move (v := v0) rfl) ?_
 refine FL.v (E.move (v := Value.int .i64 a1) rfl) ?_
 refine FL.call rfl rfl rfl (E.call Tryz.call91 (A1 rfl)) (w_impl_abs S0.sl a1) ?_
 rintro e w21 ⟨rfl, r22⟩
 refine ⟨_, rfl, ?_⟩
 have S23 := S0.call r22
 obtain ⟨r24, hr25, hp⟩ := bnd hp
 refine FL.call rfl rfl rfl (E.call Tryz.call145 (A2 rfl rfl)) (w_impl_withoutVar S23.sl v0 a0 p0 (PF.impl_abs a1) hr25) ?_
 rintro e w27 ⟨H26, v30, n31, cs32, rfl, r29, els33⟩
 refine ⟨_, rfl, ?_⟩
 have els33 := els33.mono (up_le S23.size)
 have S28 := S23.join (l' := [.row 3 1 v30 n31 cs32]) r29 rfl
 refine FL.v (E.move (v := Value.int .i64 a1) rfl) ?_
 obtain ⟨v34, w35, run36, S37⟩ := S28.buildSlice (P := Tryz.prog) te44 [Value.int .i64 a1] (parts := #[(0, Value.int .i64 a1)]) (cells := [Value.int .i64 a1]) rfl (szs_cons rfl szs_nil) (fc_cons rfl fc_nil) (ones_cons rfl ones_nil) (Nat.le_of_ble_eq_true rfl)
 have els38 : Els (up wa.heap.size H26) eI 1 [Value.int .i64 a1] [a1] := (Els.snoc (H := (up wa.heap.size H26)) (E := eI) (k := 1) (c := [Value.int .i64 a1]) (x := a1) Els.nil rfl rfl)
 refine FL.v (E.buildSlice (B1 rfl) run36) ?_
 obtain ⟨xs39, hz40, hp⟩ := bnd hp
 obtain ⟨v41, w44, n42, cs43, run45, S46, els47, ce48⟩ := S37.appendO (P := Tryz.prog) te44 (i := 1) (j := 0) rfl els33 rfl els38 hz40
 have S46 : St Ha wa H26 w44 [.row 3 1 v34 1 [Value.int .i64 a1], .row 3 1 v41 n42 cs43] := S46
 have S49 : St Ha wa H26 w44 [.row 3 1 v41 n42 cs43] := S46.drop 0
 refine FL.v (E.append rfl rfl run45) ?_
 obtain ⟨H50, S51, i52, h53, nv54⟩ := S49.sealRowU (i := 0) (l' := []) rfl els47 (by decide) rfl
 obtain ⟨r55, hr56, hp⟩ := bnd hp
 refine FL.call rfl rfl rfl (E.call Tryz.call183 (A1 rfl)) (w_impl_mustClause S51.sl v41 xs39 (h53.mono upI) hr56) ?_
 rintro e w58 ⟨H57, v63, n64, cs65, rfl, r60, els66⟩
 refine ⟨_, rfl, ?_⟩
 obtain ⟨H61, r60, hU62⟩ := St.lendX i52 S49.sl r60
 have els66 := els66.mono (hU62.tr (up_le S49.size))
 have S59 := S49.join (l' := [.row 3 1 v63 n64 cs65, .row 3 1 v41 n42 cs43]) r60 rfl
 refine FL.v (E.assign (v := v63) rfl) ?_
 refine FL.nil ?_
 refine FW.ret ?_
 obtain rfl := Option.some.inj hp
 exact ⟨.inr rfl, res1 rfl rfl ⟨_, _, _, _, rfl, (S59.sel [0] (by decide) rfl), els66⟩⟩

@[reducible] def p_impl_propagate (Ha : GH) (wa : World) (r : ((List Int) × (List (Int × Int)) × Bool)) : Ending → World → Prop :=
 fun e w' => ∃ H' : GH, ∃ v0 : Value, ∃ v1 : Value, ∃ n1 : Nat, ∃ c1 : List Value, e = .returned (Value.tuple #[v0, v1, Value.bool r.2.2]) ∧ St Ha wa H' w' [.row 99 2 v1 n1 c1] ∧ RSl (up wa.heap.size H') eI 1 v0 r.1 ∧ Els (up wa.heap.size H') eI2 2 c1 r.2.1
set_option maxHeartbeats 4000000 in
theorem w_impl_propagate {Ha : GH} {wa : World} (hs : Sl Ha wa) (v0 : Value) (a0 : List (List Int)) (p0 : RSl Ha (eL eI 1) 1 v0 a0) (v1 : Value) (a1 : List Int) (p1 : RSl Ha eI 1 v1 a1) {r : ((List Int) × (List (Int × Int)) × Bool)} (hp : (PF.impl_propagate a0 a1) = some r) :
  Calls Tryz.prog 121 #[v0, v1] wa (p_impl_propagate Ha wa r) := by
 unfold PF.impl_propagate at hp
 have S0 := St.init hs
 refine calls_go (N := 41) (args := [v0, v1]) Tryz.func121 rfl rfl rfl ?_
 refine FW.seq (FW.region ?_)
 obtain ⟨b21, w22, run23, S24⟩ := S0.box (P := Tryz.prog) 44 [v1] (v := v1) p1.cells (ones_cons p1.one ones_nil)
 refine FL.v (E.box rfl run23) ?_
 refine FL.v (E.assign (v := Value.slice none 0 0) rfl) ?_
 refine FL.v (E.assign (v := Value.slice none 0 0) rfl) ?_
 refine FL.v (E.assign (v := Value.bool false) rfl) ?_
 refine FL.nil (FW.seq (FW.region ?_))
 refine FL.v (E.load rfl (run_load0 Tryz.isAgg44 (S24.box_now (i := 0) rfl) rfl)) ?_
 obtain ⟨r25, hr26, hp⟩ := bnd hp
 refine FL.call rfl rfl rfl (E.call Tryz.call56 (A1 rfl)) (w_slices_Clone_int_int S24.sl v1 a1 p1 hr26) ?_
 rintro e w28 ⟨H27, v31, n32, cs33, rfl, r30, els34⟩
 refine ⟨_, rfl, ?_⟩
 have els34 := els34.mono (up_le S24.size)
 have S29 := S24.join (l' := [.row 3 1 v31 n32 cs33, .box b21 44 [v1]]) r30 rfl
 obtain ⟨w35, run36, S37⟩ := S29.store0 (P := Tryz.prog) (t := 44) (i := 1) (cs' := [v31]) (l' := [.row 3 1 v31 n32 cs33, .box b21 44 [v31]]) (v := v31) (c := [v31]) rfl Tryz.sizeOf44 (Ln.cells (S29.row_ln (i := 0) rfl)) rfl (ones_cons (Ln.one (S29.row_ln (i := 0) rfl)) ones_nil) (Nat.le_of_ble_eq_true rfl) rfl rfl
 refine FL.act rfl rfl (E.store rfl rfl run36) ?_
 refine FL.nil (FW.seq (FW.region ?_))
 refine FL.v (E.assign (v := Value.slice none 0 0) rfl) ?_
 refine FL.nil ?_
 obtain ⟨H38, S39, i40, h41, nv42⟩ := S37.sealRowU (i := 0) (l' := [.box b21 44 [v31]]) rfl els34 (by decide) rfl
 obtain ⟨q43, hq, hp⟩ := bndR hp
 refine FW.block ?_
 refine FW.mono (FW.iter (S := ((List Int) × (List (Int × Int)))) (X := ((List Int) × (List (Int × Int)) × Bool)) (fun (s43 : ((List Int) × (List (Int × Int)))) f w => ∃ H : GH, ∃ v169 : Value, ∃ v171 : Value, ∃ n172 : Nat, ∃ cs173 : List Value, St Ha wa H w [.box b21 44 [v169], .row 99 2 v171 n172 cs173] ∧ Inc H38 H ∧ RSl (up wa.heap.size H) eI 1 v169 s43.1 ∧ Els (up wa.heap.size H) eI2 2 cs173 s43.2 ∧ f 0 = v0 ∧ f 3 = Value.pointer (some (⟨b21, 0, none⟩ : Addr)) ∧ f 7 = v171) (fun q e f w => match q with | .go s43 => e = Exit.exit 0 ∧ (∃ H : GH, ∃ v169 : Value, ∃ v171 : Value, ∃ n172 : Nat, ∃ cs173 : List Value, St Ha wa H w [.box b21 44 [v169], .row 99 2 v171 n172 cs173] ∧ Inc H38 H ∧ RSl (up wa.heap.size H) eI 1 v169 s43.1 ∧ Els (up wa.heap.size H) eI2 2 cs173 s43.2 ∧ f 4 = Value.slice none 0 0 ∧ f 5 = Value.slice none 0 0 ∧ f 6 = Value.bool false) | .rt x => ((e = Exit.ret) ∧ (fun e f w => (e = Exit.normal ∨ e = Exit.ret) ∧ ∀ a, Fr (δ := []) 41 a f → ∃ v, (results Tryz.f121 a.tmps).run Tryz.prog w = .ok v w ∧ (p_impl_propagate Ha wa x) (.returned v) w) e f w)) hq ⟨_, _, _, _, _, ((S39.nil 99 2).sel [1, 0] (by decide) rfl), (Inc.rfl _), h41, Els.nil, rfl, rfl, rfl⟩ ?_) ?_
 ·
  clear hp hq
  rintro s43 f300 w299 ⟨H296, v169, v171, n172, cs173, S297, i298, h170, els174, k301, k302, k303⟩ o497 hp
  refine FW.block (FW.seq (FW.seq (FW.region ?_)))
  refine FL.v (E.move k301) ?_
  refine FL.v (E.load k302 (run_load0 Tryz.isAgg44 (S297.box_now (i := 0) rfl) rfl)) ?_
  obtain ⟨r304, hr305, hp⟩ := bnd hp
  refine FL.call rfl rfl rfl (E.call Tryz.call123 (A2 rfl rfl)) (w_impl_falseClauses S297.sl v0 a0 (p0.mono ((r30.run.inc.tr i40).tr i298)) v169 s43.1 (h170.mono upI) hr305) ?_
  rintro e w307 ⟨H306, v310, n311, cs312, rfl, r309, els313⟩
  refine ⟨_, rfl, ?_⟩
  have els313 := els313.mono (up_le S297.size)
  have S308 := S297.join (l' := [.row 3 1 v310 n311 cs312, .box b21 44 [v169], .row 99 2 v171 n172 cs173]) r309 rfl
  refine FL.v (E.lenO te44 rfl S308 (i := 0) rfl els313 (by decide)) ?_
  refine FL.v (E.gtr rfl rfl) ?_
  refine FL.nil ?_
  rcases ifB hp with ⟨c314, hp⟩ | ⟨c314, hp⟩
  ·
   refine FW.condT rfl c314 ?_
   refine FW.seq (FW.region ?_)
   refine FL.v (E.load k302 (run_load0 Tryz.isAgg44 (S308.box_now (i := 1) rfl) rfl)) ?_
   refine FL.v (E.move k303) ?_
   refine FL.v (E.assign (v := v169) rfl) ?_
   refine FL.v (E.assign (v := v171) rfl) ?_
   refine FL.v (E.assign (v := Value.bool true) rfl) ?_
   refine FL.nil ?_
   refine FW.ret ?_
   obtain rfl := Option.some.inj hp
   exact ⟨nofun, rfl, ⟨.inr rfl, res3 rfl rfl rfl rfl ⟨_, _, _, _, _, rfl, (S308.sel [2] (by decide) rfl), (h170.mono (up_mono r309.run.inc)), (els174.mono (up_mono r309.run.inc))⟩⟩⟩
  ·
   refine FW.condF rfl c314 ?_
   refine FW.skip (FW.seq (FW.region ?_))
   refine FL.v (E.move k301) ?_
   refine FL.v (E.makeFunc A0 (A1 k302)) ?_
   obtain ⟨s360, hq360, hp⟩ := bnd hp
   obtain ⟨R360, hR360⟩ : ∃ R360 : Int → Ending → World → Prop, R360 = (fun s360 e w => ∃ H : GH, e = Ending.returned (Value.int .i64 s360) ∧ St Ha wa H w [.row 3 1 v310 n311 cs312, .box b21 44 [v169], .row 99 2 v171 n172 cs173] ∧ Inc H306 H) := ⟨_, rfl⟩
   have hc360 : Calls Tryz.prog 139 #[v0, Value.func (.func 157) #[] #[Value.pointer (some (⟨b21, 0, none⟩ : Addr))]] w307 (R360 s360) := by
    clear hp; have hp := hq360; clear hq360
    refine calls_go (N := 19) (args := [v0, Value.func (.func 157) #[] #[Value.pointer (some (⟨b21, 0, none⟩ : Addr))]]) Tryz.func139 rfl rfl rfl ?_
    refine FW.seq (FW.region ?_)
    refine FL.v (E.assign (v := Value.int .i64 0) rfl) ?_
    refine FL.nil (FW.seq (FW.seq (FW.region ?_)))
    refine FL.v (E.move (v := v0) rfl) ?_
    refine FL.v (E.lenP te22 rfl p0) ?_
    refine FL.v (E.move (v := Value.int .i64 0) rfl) ?_
    refine FL.nil ?_
    obtain ⟨q362, hq, hp⟩ := bndR hp
    refine FW.block ?_
    refine FW.mono (FW.forL (S := Unit) (X := Int) (fun (i362 : Nat) (s362 : Unit) f w => ∃ H : GH, St Ha wa H w [.row 3 1 v310 n311 cs312, .box b21 44 [v169], .row 99 2 v171 n172 cs173] ∧ Inc H306 H ∧ f 8 = Value.int .i64 ((i362 : Nat) : Int) ∧ f 0 = v0 ∧ f 1 = Value.func (.func 157) #[] #[Value.pointer (some (⟨b21, 0, none⟩ : Addr))] ∧ f 7 = Value.int .i64 (len a0)) (fun q e f w => match q with | .go s362 => e = Exit.exit 0 ∧ (∃ H : GH, St Ha wa H w [.row 3 1 v310 n311 cs312, .box b21 44 [v169], .row 99 2 v171 n172 cs173] ∧ Inc H306 H) | .rt x => ((e = Exit.ret) ∧ (fun e f w => (e = Exit.normal ∨ e = Exit.ret) ∧ ∀ a, Fr (δ := []) 19 a f → ∃ v, (results Tryz.f139 a.tmps).run Tryz.prog w = .ok v w ∧ R360 x (.returned v) w) e f w)) hq ⟨_, S308, (Inc.rfl _), rfl, rfl, rfl, rfl⟩ ?_ ?_) ?_
    ·
     clear hp hq
     rintro i362 y361 s362 f396 w395 ⟨H392, S393, i394, k397, k398, k399, k400⟩ hx362 o426 hp
     refine FW.seq (FW.region ?_)
     refine FL.v (E.lssT k397 k400 (lss_len hx362)) ?_
     refine FL.nil (FW.seq ?_)
     refine FW.condT rfl rfl ?_
     refine FW.skip (FW.seq (FW.block (FW.seq (FW.region ?_))))
     refine FL.v (E.move k397) ?_
     refine FL.v (E.assign (v := Value.int .i64 ((i362 : Nat) : Int)) rfl) ?_
     refine FL.nil (FW.seq (FW.region ?_))
     refine FL.v (E.move k399) ?_
     refine FL.v (E.move k398) ?_
     refine FL.v (E.move (v := Value.int .i64 ((i362 : Nat) : Int)) rfl) ?_
     obtain ⟨p401, cs402, pt403, l404, at405, rel406⟩ := p0.at (ix_nat hx362)
     obtain ⟨v407, rfl, h408⟩ := eL_open rel406
     refine FL.v (E.indexAddr te22 rfl rfl pt403) ?_
     refine FL.v (E.load rfl (run_load0 Tryz.isAgg44 ((at405.mono ((((r30.run.inc.tr i40).tr i298).tr r309.run.inc).tr i394)).now S393.sl) rfl)) ?_
     obtain ⟨s414, hq414, hp⟩ := bnd hp
     obtain ⟨R414, hR414⟩ : ∃ R414 : Bool → Ending → World → Prop, R414 = (fun s414 e w => ∃ H : GH, e = Ending.returned (Value.bool s414) ∧ St Ha wa H w [.row 3 1 v310 n311 cs312, .box b21 44 [v169], .row 99 2 v171 n172 cs173] ∧ Inc H392 H) := ⟨_, rfl⟩
     have hc414 : Calls Tryz.prog 157 #[v407, Value.pointer (some (⟨b21, 0, none⟩ : Addr))] w395 (R414 s414) := by
      clear hp; have hp := hq414; clear hq414
      refine calls_go (N := 8) (args := [v407, Value.pointer (some (⟨b21, 0, none⟩ : Addr))]) Tryz.func157 rfl rfl rfl ?_
      refine FW.seq (FW.region ?_)
      refine FL.v (E.assign (v := Value.bool false) rfl) ?_
      refine FL.nil (FW.seq (FW.region ?_))
      refine FL.v (E.move (v := v407) rfl) ?_
      refine FL.v (E.load rfl (run_load0 Tryz.isAgg44 (S393.box_now (i := 1) rfl) rfl)) ?_
      obtain ⟨r415, hr416, hp⟩ := bnd hp
      refine FL.call rfl rfl rfl (E.call Tryz.call158 (A2 rfl rfl)) (w_impl_unit S393.sl v407 y361 (h408.mono ((((r30.run.inc.tr i40).tr i298).tr r309.run.inc).tr i394)) v169 s43.1 (h170.mono (upI.tr (r309.run.inc.tr i394))) hr416) ?_
      rintro e w417 ⟨rfl, r418⟩
      refine ⟨_, rfl, ?_⟩
      have S419 := S393.call r418
      refine FL.v (E.neq rfl rfl) ?_
      refine FL.v (E.assign (v := Value.bool (!(r415 == 0))) rfl) ?_
      refine FL.nil ?_
      refine FW.ret ?_
      obtain rfl := Option.some.inj hp
      exact ⟨.inr rfl, res1 rfl rfl (by rw [hR414]; exact ⟨_, rfl, S419, (Inc.rfl _)⟩)⟩
     clear hq414
     refine FL.call rfl rfl rfl (E.callV Tryz.call157 rfl (appA (A1 rfl) #[Value.pointer (some (⟨b21, 0, none⟩ : Addr))])) hc414 ?_
     intro e w423 hQ414
     rw [hR414] at hQ414
     obtain ⟨H420, rfl, S421, i422⟩ := hQ414
     refine ⟨_, rfl, ?_⟩
     refine FL.nil ?_
     rcases ifB hp with ⟨c425, hp⟩ | ⟨c425, hp⟩
     ·
      refine FW.condT rfl c425 ?_
      refine FW.seq (FW.region ?_)
      refine FL.v (E.move (v := Value.int .i64 ((i362 : Nat) : Int)) rfl) ?_
      refine FL.v (E.assign (v := Value.int .i64 ((i362 : Nat) : Int)) rfl) ?_
      refine FL.nil ?_
      refine FW.ret ?_
      obtain rfl := Option.some.inj hp
      exact ⟨nofun, rfl, ⟨.inr rfl, res1 rfl rfl (by rw [hR360]; exact ⟨_, rfl, S421, (i394.tr i422)⟩)⟩⟩
     ·
      refine FW.condF rfl c425 ?_
      refine FW.skip (FW.region ?_)
      refine FL.v (E.add k397 rfl) ?_
      refine FL.v (E.move (v := Value.int .i64 (wr (((i362 : Nat) : Int) + 1))) rfl) ?_
      refine FL.nil ?_
      obtain rfl := Option.some.inj hp
      exact ⟨rfl, ⟨_, S421, (i394.tr i422), (nat_succ rfl (lt_of_get hx362) (p0.mono (((((r30.run.inc.tr i40).tr i298).tr r309.run.inc).tr i394).tr i422)).le), k398, k399, k400⟩⟩
    ·
     clear hp hq
     rintro s362 f436 w435 ⟨H432, S433, i434, k437, k438, k439, k440⟩
     refine FW.seq (FW.region ?_)
     refine FL.v (E.lss k437 k440) ?_
     refine FL.nil (FW.seq ?_)
     refine FW.condF rfl dlt_len ?_
     refine FW.exit ?_
     exact ⟨nofun, rfl, ⟨_, S433, i434⟩⟩
    ·
     clear hq
     intro e f431 w430 hD
     rcases q362 with s362 | x362
     ·
      obtain ⟨rfl, hD⟩ := hD
      obtain ⟨H427, S428, i429⟩ := hD
      replace hp := el_go hp
      refine FW.seq (FW.region ?_)
      refine FL.v (E.assign (v := Value.int .i64 (-1)) rfl) ?_
      refine FL.nil ?_
      refine FW.ret ?_
      obtain rfl := Option.some.inj hp
      exact ⟨.inr rfl, res1 rfl rfl (by rw [hR360]; exact ⟨_, rfl, S428, i429⟩)⟩
     ·
      obtain ⟨he, hL⟩ := hD
      replace hp := el_rt hp
      obtain rfl := Option.some.inj hp
      subst he
      exact hL
   clear hq360
   refine FL.call rfl rfl rfl (E.call Tryz.call139 (A2 rfl rfl)) hc360 ?_
   intro e w444 hQ360
   rw [hR360] at hQ360
   obtain ⟨H441, rfl, S442, i443⟩ := hQ360
   refine ⟨_, rfl, ?_⟩
   refine FL.v (E.assign (v := Value.int .i64 s360) rfl) ?_
   refine FL.nil (FW.seq (FW.seq (FW.region ?_)))
   refine FL.v (E.move (v := Value.int .i64 s360) rfl) ?_
   refine FL.v (E.lss rfl rfl) ?_
   refine FL.nil ?_
   rcases ifB hp with ⟨c446, hp⟩ | ⟨c446, hp⟩
   ·
    refine FW.condT rfl c446 ?_
    refine FW.seq (FW.region ?_)
    refine FL.v (E.load k302 (run_load0 Tryz.isAgg44 (S442.box_now (i := 1) rfl) rfl)) ?_
    refine FL.v (E.move k303) ?_
    refine FL.v (E.assign (v := v169) rfl) ?_
    refine FL.v (E.assign (v := v171) rfl) ?_
    refine FL.v (E.assign (v := Value.bool false) rfl) ?_
    refine FL.nil ?_
    refine FW.ret ?_
    obtain rfl := Option.some.inj hp
    exact ⟨nofun, rfl, ⟨.inr rfl, res3 rfl rfl rfl rfl ⟨_, _, _, _, _, rfl, (S442.sel [2] (by decide) rfl), (h170.mono (up_mono (r309.run.inc.tr i443))), (els174.mono (up_mono (r309.run.inc.tr i443)))⟩⟩⟩
   ·
    refine FW.condF rfl c446 ?_
    refine FW.skip (FW.seq ?_)
    refine FW.draw (fun w' => Run w444.heap.size H441 w444 H441 w') (by kernel_rfl) (by kernel_rfl) (run_drew S442.sl) ?_
    refine FD.val rfl rfl rfl (fun w' hw' => (E.move k301)) ?_
    refine FD.val rfl rfl rfl (fun w' hw' => (E.move (v := Value.int .i64 s360) rfl)) ?_
    obtain ⟨x454, hx455, hp⟩ := bnd hp
    obtain ⟨p448, cs449, pt450, l451, at452, rel453⟩ := p0.at hx455
    obtain ⟨v456, rfl, h457⟩ := eL_open rel453
    refine FD.val rfl rfl rfl (fun w' hw' => (E.indexAddr te22 rfl rfl pt450)) ?_
    refine FD.val rfl rfl rfl (fun w' hw' => (E.load rfl (run_load0 Tryz.isAgg44 ((at452.mono ((((r30.run.inc.tr i40).tr i298).tr r309.run.inc).tr i443)).now (S442.call hw').sl) rfl))) ?_
    refine FD.val rfl rfl rfl (fun w' hw' => (E.load k302 (run_load0 Tryz.isAgg44 ((S442.call hw').box_now (i := 1) rfl) rfl))) ?_
    obtain ⟨r458, hr459, hp⟩ := bnd hp
    refine FD.call rfl rfl rfl (fun w' hw' => (E.call Tryz.call158 (A2 rfl rfl))) (fun w' hw' => Calls.cls hw' (w_impl_unit (S442.call hw').sl v456 x454 (h457.mono ((((r30.run.inc.tr i40).tr i298).tr r309.run.inc).tr i443)) v169 s43.1 (h170.mono (upI.tr (r309.run.inc.tr i443))) hr459)) ?_
    refine FD.val rfl rfl rfl (fun w' hw' => (E.assign (v := Value.int .i64 r458) rfl)) ?_
    refine FD.nil ?_
    intro w460 r462
    have S461 := S442.call r462
    refine FW.seq (FW.region ?_)
    refine FL.v (E.load k302 (run_load0 Tryz.isAgg44 (S461.box_now (i := 1) rfl) rfl)) ?_
    refine FL.v (E.move (v := Value.int .i64 r458) rfl) ?_
    obtain ⟨r463, hr464, hp⟩ := bnd hp
    refine FL.call rfl rfl rfl (E.call Tryz.call159 (A2 rfl rfl)) (w_impl_set S461.sl v169 s43.1 (h170.mono (upI.tr (r309.run.inc.tr i443))) r458 hr464) ?_
    rintro e w466 ⟨H465, v469, n470, cs471, rfl, r468, els472⟩
    refine ⟨_, rfl, ?_⟩
    have els472 := els472.mono (up_le S461.size)
    have S467 := S461.join (l' := [.row 3 1 v469 n470 cs471, .row 3 1 v310 n311 cs312, .box b21 44 [v169], .row 99 2 v171 n172 cs173]) r468 rfl
    obtain ⟨w473, run474, S475⟩ := S467.store0 (P := Tryz.prog) (t := 44) (i := 2) (cs' := [v469]) (l' := [.row 3 1 v469 n470 cs471, .row 3 1 v310 n311 cs312, .box b21 44 [v469], .row 99 2 v171 n172 cs173]) (v := v469) (c := [v469]) rfl Tryz.sizeOf44 (Ln.cells (S467.row_ln (i := 0) rfl)) rfl (ones_cons (Ln.one (S467.row_ln (i := 0) rfl)) ones_nil) (Nat.le_of_ble_eq_true rfl) rfl rfl
    refine FL.act rfl rfl (E.store k302 rfl run474) ?_
    refine FL.nil (FW.region ?_)
    refine FL.v (E.move k303) ?_
    refine FL.v (E.move (v := Value.int .i64 r458) rfl) ?_
    refine FL.v (E.move (v := Value.int .i64 s360) rfl) ?_
    refine FL.v (E.build (B2 rfl rfl) (run_build _ 99 #[(0, Value.int .i64 r458), (1, Value.int .i64 s360)] #[Value.int .i64 r458, Value.int .i64 s360] (by rfl))) ?_
    obtain ⟨v476, w477, run478, S479⟩ := S475.buildSlice (P := Tryz.prog) te95 [Value.agg #[Value.int .i64 r458, Value.int .i64 s360]] (parts := #[(0, Value.agg #[Value.int .i64 r458, Value.int .i64 s360])]) (cells := [Value.int .i64 r458, Value.int .i64 s360]) rfl (szs_cons rfl szs_nil) (fc_cons rfl fc_nil) (ones_cons rfl (ones_cons rfl ones_nil)) (Nat.le_of_ble_eq_true rfl)
    have els480 : Els (up wa.heap.size H465) eI2 2 [Value.int .i64 r458, Value.int .i64 s360] [(r458, s360)] := (Els.snoc (H := (up wa.heap.size H465)) (E := eI2) (k := 2) (c := [Value.int .i64 r458, Value.int .i64 s360]) (x := (r458, s360)) Els.nil rfl rfl)
    refine FL.v (E.buildSlice (B1 rfl) run478) ?_
    obtain ⟨xs481, hz482, hp⟩ := bnd hp
    obtain ⟨v483, w486, n484, cs485, run487, S488, els489, ce490⟩ := S479.appendO (P := Tryz.prog) te95 (i := 4) (j := 0) rfl (els174.mono (up_mono ((r309.run.inc.tr i443).tr r468.run.inc))) rfl els480 hz482
    have S488 : St Ha wa H465 w486 [.row 99 2 v476 1 [Value.int .i64 r458, Value.int .i64 s360], .row 3 1 v469 n470 cs471, .row 3 1 v310 n311 cs312, .box b21 44 [v469], .row 99 2 v483 n484 cs485] := S488
    have S491 : St Ha wa H465 w486 [.row 3 1 v469 n470 cs471, .row 3 1 v310 n311 cs312, .box b21 44 [v469], .row 99 2 v483 n484 cs485] := S488.drop 0
    refine FL.v (E.append rfl rfl run487) ?_
    refine FL.v (E.assign (v := v483) rfl) ?_
    refine FL.nil ?_
    obtain ⟨H492, S493, i494, h495, nv496⟩ := S491.sealRowU (i := 0) (l' := [.row 3 1 v310 n311 cs312, .box b21 44 [v469], .row 99 2 v483 n484 cs485]) rfl els472 (by decide) rfl
    obtain rfl := Option.some.inj hp
    exact ⟨rfl, ⟨_, _, _, _, _, (S493.sel [1, 2] (by decide) rfl), ((((i298.tr r309.run.inc).tr i443).tr r468.run.inc).tr i494), h495, (els489.mono (up_mono i494)), k301, k302, rfl⟩⟩
 ·
  clear hq
  intro e f502 w501 hD
  rcases q43 with s43 | x43
  ·
   obtain ⟨rfl, hD⟩ := hD
   obtain ⟨H498, v169, v171, n172, cs173, S499, i500, h170, els174, k503, k504, k505⟩ := hD
   replace hp := el_go hp
   obtain rfl := Option.some.inj hp
   exact ⟨.inl rfl, res3 rfl k503 k504 k505 ⟨_, _, _, _, _, rfl, ((S499.nil 99 2).sel [0] (by decide) rfl), (RSl.nil _ _ _), Els.nil⟩⟩
  ·
   obtain ⟨he, hL⟩ := hD
   replace hp := el_rt hp
   obtain rfl := Option.some.inj hp
   subst he
   exact hL

theorem w_impl_follows {Ha : GH} {wa : World} (hs : Sl Ha wa) (v0 : Value) (a0 : List (List Int)) (p0 : RSl Ha (eL eI 1) 1 v0 a0) (v1 : Value) (a1 : List Int) (p1 : RSl Ha eI 1 v1 a1) {r : Bool} (hp : (PF.impl_follows a0 a1) = some r) :
  Calls Tryz.prog 113 #[v0, v1] wa (Sc Ha wa (Value.bool r)) := by
 unfold PF.impl_follows at hp
 have S0 := St.init hs
 refine calls_go (N := 17) (args := [v0, v1]) Tryz.func113 rfl rfl rfl ?_
 refine FW.seq (FW.region ?_)
 refine FL.v (E.assign (v := Value.bool false) rfl) ?_
 refine FL.nil (FW.seq (FW.region ?_))
 refine FL.v (E.move (v := v0) rfl) ?_
 refine FL.v (E.move (v := v1) rfl) ?_
 obtain ⟨r21, hr22, hp⟩ := bnd hp
 refine FL.call rfl rfl rfl (E.call Tryz.call122 (A1 rfl)) (w_impl_negated S0.sl v1 a1 p1 hr22) ?_
 rintro e w24 ⟨H23, v27, n28, cs29, rfl, r26, els30⟩
 refine ⟨_, rfl, ?_⟩
 have els30 := els30.mono (up_le S0.size)
 have S25 := S0.join (l' := [.row 3 1 v27 n28 cs29]) r26 rfl
 obtain ⟨H31, S32, i33, h34, nv35⟩ := S25.sealRowU (i := 0) (l' := []) rfl els30 (by decide) rfl
 obtain ⟨r36, hr37, hp⟩ := bnd hp
 refine FL.call rfl rfl rfl (E.call Tryz.call121 (A2 rfl rfl)) (w_impl_propagate S32.sl v0 a0 (p0.mono (r26.run.inc.tr i33)) v27 r21 (h34.mono upI) hr37) ?_
 rintro e w39 ⟨H38, v44, v47, n48, cs49, rfl, r41, h45, els50⟩
 refine ⟨_, rfl, ?_⟩
 obtain ⟨H42, r41, hU43⟩ := St.lendX i33 S25.sl r41
 have nv46 : New H23 [v44] := New.of_up S25.sl h45.dom
 have h45 := h45.mono (hU43.tr (up_le S25.size))
 have els50 := els50.mono (hU43.tr (up_le S25.size))
 have S40 := S25.join (l' := [.row 99 2 v47 n48 cs49, .row 3 1 v27 n28 cs29]) r41 rfl
 refine FL.v (E.move (v := Value.tuple #[v44, v47, Value.bool r36.2.2]) rfl) ?_
 refine FL.v (E.extract (i := 0) rfl rfl) ?_
 refine FL.v (E.extract (i := 1) rfl rfl) ?_
 refine FL.v (E.extract (i := 2) rfl rfl) ?_
 refine FL.v (E.assign (v := v44) rfl) ?_
 refine FL.v (E.assign (v := v47) rfl) ?_
 refine FL.v (E.assign (v := Value.bool r36.2.2) rfl) ?_
 refine FL.nil (FW.seq (FW.region ?_))
 refine FL.v (E.move (v := Value.bool r36.2.2) rfl) ?_
 refine FL.v (E.assign (v := Value.bool r36.2.2) rfl) ?_
 refine FL.nil ?_
 refine FW.ret ?_
 obtain rfl := Option.some.inj hp
 exact ⟨.inr rfl, res1 rfl rfl ⟨rfl, S40.back⟩⟩

theorem w_impl_firstUnfollowed {Ha : GH} {wa : World} (hs : Sl Ha wa) (a0 : Cnf) (v0_1 : Value) (p0_1 : RSl Ha (eL eI 1) 1 v0_1 a0.clauses) (v1 : Value) (a1 : List (List Int)) (p1 : RSl Ha (eL eI 1) 1 v1 a1) {r : Int} (hp : (PF.impl_firstUnfollowed a0 a1) = some r) :
  Calls Tryz.prog 78 #[Value.agg #[Value.int .i64 a0.vars, v0_1], v1] wa (Sc Ha wa (Value.int .i64 r)) := by
 unfold PF.impl_firstUnfollowed at hp
 have S0 := St.init hs
 refine calls_go (N := 23) (args := [Value.agg #[Value.int .i64 a0.vars, v0_1], v1]) Tryz.func78 rfl rfl rfl ?_
 refine FW.seq (FW.region ?_)
 obtain ⟨b21, w22, run23, S24⟩ := S0.box (P := Tryz.prog) 28 [Value.int .i64 a0.vars, v0_1] (v := Value.agg #[Value.int .i64 a0.vars, v0_1]) rfl (ones_cons rfl (ones_cons p0_1.one ones_nil))
 refine FL.v (E.box rfl run23) ?_
 obtain ⟨H25, S26, i27, at28⟩ := S24.sealBox (i := 0) (l' := []) rfl rfl
 refine FL.v (E.assign (v := Value.int .i64 0) rfl) ?_
 refine FL.nil (FW.seq (FW.seq (FW.region ?_)))
 refine FL.v (E.move (v := v1) rfl) ?_
 refine FL.v (E.lenP te22 rfl p1) ?_
 refine FL.v (E.move (v := Value.int .i64 0) rfl) ?_
 refine FL.nil ?_
 obtain ⟨q30, hq, hp⟩ := bndR hp
 refine FW.block ?_
 refine FW.mono (FW.forL (S := Unit) (X := Int) (fun (i30 : Nat) (s30 : Unit) f w => ∃ H : GH, St Ha wa H w [] ∧ Inc H25 H ∧ f 9 = Value.int .i64 ((i30 : Nat) : Int) ∧ f 1 = v1 ∧ f 2 = Value.pointer (some ⟨b21, 0, none⟩) ∧ f 7 = v1 ∧ f 8 = Value.int .i64 (len a1)) (fun q e f w => match q with | .go s30 => e = Exit.exit 0 ∧ (∃ H : GH, St Ha wa H w [] ∧ Inc H25 H) | .rt x => ((e = Exit.ret) ∧ (fun e f w => (e = Exit.normal ∨ e = Exit.ret) ∧ ∀ a, Fr (δ := []) 23 a f → ∃ v, (results Tryz.f78 a.tmps).run Tryz.prog w = .ok v w ∧ (Sc Ha wa (Value.int .i64 x)) (.returned v) w) e f w)) hq ⟨_, S26, (Inc.rfl _), rfl, rfl, rfl, rfl, rfl⟩ ?_ ?_) ?_
 ·
  clear hp hq
  rintro i30 y29 s30 f74 w73 ⟨H70, S71, i72, k75, k76, k77, k78, k79⟩ hx30 o109 hp
  refine FW.seq (FW.region ?_)
  refine FL.v (E.lssT k75 k79 (lss_len hx30)) ?_
  refine FL.nil (FW.seq ?_)
  refine FW.condT rfl rfl ?_
  refine FW.skip (FW.seq (FW.block (FW.seq (FW.region ?_))))
  refine FL.v (E.move k75) ?_
  obtain ⟨p80, cs81, pt82, l83, at84, rel85⟩ := p1.at (ix_nat hx30)
  obtain ⟨v86, rfl, h87⟩ := eL_open rel85
  refine FL.v (E.indexAddr te22 k78 k75 pt82) ?_
  refine FL.v (E.load rfl (run_load0 Tryz.isAgg44 ((at84.mono (i27.tr i72)).now S71.sl) rfl)) ?_
  refine FL.v (E.assign (v := Value.int .i64 ((i30 : Nat) : Int)) rfl) ?_
  refine FL.v (E.assign (v := v86) rfl) ?_
  refine FL.nil (FW.seq (FW.region ?_))
  refine FL.v (E.load k77 (run_loadA Tryz.isAgg28 Tryz.sizeOf28 ((at28.mono i72).now S71.sl) rfl)) ?_
  refine FL.v (E.move k76) ?_
  refine FL.v (E.move (v := Value.int .i64 ((i30 : Nat) : Int)) rfl) ?_
  obtain ⟨r88, hr89, hp⟩ := bnd hp
  refine FL.call rfl rfl rfl (E.call Tryz.call114 (A3 rfl rfl rfl)) (w_impl_before S71.sl a0 v0_1 (p0_1.mono (i27.tr i72)) v1 a1 (p1.mono (i27.tr i72)) ((i30 : Nat) : Int) hr89) ?_
  rintro e w91 ⟨H90, v94, n95, cs96, rfl, r93, els97⟩
  refine ⟨_, rfl, ?_⟩
  have S92 := S71.join (l' := [.row 44 1 v94 n95 cs96]) r93 rfl
  refine FL.v (E.move (v := v86) rfl) ?_
  obtain ⟨H98, S99, i100, h101⟩ := S92.sealRow (i := 0) (l' := []) rfl els97 (by decide) rfl
  obtain ⟨r103, hr104, hp⟩ := bnd hp
  refine FL.call rfl rfl rfl (E.call Tryz.call113 (A2 rfl rfl)) (w_impl_follows S99.sl v94 r88 h101 v86 y29 (h87.mono (((i27.tr i72).tr r93.run.inc).tr i100)) hr104) ?_
  rintro e w105 ⟨rfl, r106⟩
  refine ⟨_, rfl, ?_⟩
  have r106 := Run.lend i100 S92.sl r106
  have S107 := S92.call r106
  refine FL.v (E.not rfl) ?_
  refine FL.nil ?_
  rcases ifB hp with ⟨c108, hp⟩ | ⟨c108, hp⟩
  ·
   refine FW.condT rfl c108 ?_
   refine FW.seq (FW.region ?_)
   refine FL.v (E.move (v := Value.int .i64 ((i30 : Nat) : Int)) rfl) ?_
   refine FL.v (E.assign (v := Value.int .i64 ((i30 : Nat) : Int)) rfl) ?_
   refine FL.nil ?_
   refine FW.ret ?_
   obtain rfl := Option.some.inj hp
   exact ⟨nofun, rfl, ⟨.inr rfl, res1 rfl rfl ⟨rfl, S107.back⟩⟩⟩
  ·
   refine FW.condF rfl c108 ?_
   refine FW.skip (FW.region ?_)
   refine FL.v (E.add k75 rfl) ?_
   refine FL.v (E.move (v := Value.int .i64 (wr (((i30 : Nat) : Int) + 1))) rfl) ?_
   refine FL.nil ?_
   obtain rfl := Option.some.inj hp
   exact ⟨rfl, ⟨_, (S107.sel [] (by decide) rfl), (i72.tr r93.run.inc), (nat_succ rfl (lt_of_get hx30) (p1.mono ((i27.tr i72).tr r93.run.inc)).le), k76, k77, k78, k79⟩⟩
 ·
  clear hp hq
  rintro s30 f119 w118 ⟨H115, S116, i117, k120, k121, k122, k123, k124⟩
  refine FW.seq (FW.region ?_)
  refine FL.v (E.lss k120 k124) ?_
  refine FL.nil (FW.seq ?_)
  refine FW.condF rfl dlt_len ?_
  refine FW.exit ?_
  exact ⟨nofun, rfl, ⟨_, S116, i117⟩⟩
 ·
  clear hq
  intro e f114 w113 hD
  rcases q30 with s30 | x30
  ·
   obtain ⟨rfl, hD⟩ := hD
   obtain ⟨H110, S111, i112⟩ := hD
   replace hp := el_go hp
   refine FW.seq (FW.region ?_)
   refine FL.v (E.assign (v := Value.int .i64 (-1)) rfl) ?_
   refine FL.nil ?_
   refine FW.ret ?_
   obtain rfl := Option.some.inj hp
   exact ⟨.inr rfl, res1 rfl rfl ⟨rfl, S111.back⟩⟩
  ·
   obtain ⟨he, hL⟩ := hD
   replace hp := el_rt hp
   obtain rfl := Option.some.inj hp
   subst he
   exact hL

theorem w_impl_learned {Ha : GH} {wa : World} (hs : Sl Ha wa) (a0 : Cnf) (v0_1 : Value) (p0_1 : RSl Ha (eL eI 1) 1 v0_1 a0.clauses) (v1 : Value) (a1 : List (List Int)) (p1 : RSl Ha (eL eI 1) 1 v1 a1) {r : Bool} (hp : (PF.impl_learned a0 a1) = some r) :
  Calls Tryz.prog 52 #[Value.agg #[Value.int .i64 a0.vars, v0_1], v1] wa (Sc Ha wa (Value.bool r)) := by
 unfold PF.impl_learned at hp
 have S0 := St.init hs
 refine calls_go (N := 14) (args := [Value.agg #[Value.int .i64 a0.vars, v0_1], v1]) Tryz.func52 rfl rfl rfl ?_
 refine FW.seq (FW.region ?_)
 obtain ⟨b21, w22, run23, S24⟩ := S0.box (P := Tryz.prog) 28 [Value.int .i64 a0.vars, v0_1] (v := Value.agg #[Value.int .i64 a0.vars, v0_1]) rfl (ones_cons rfl (ones_cons p0_1.one ones_nil))
 refine FL.v (E.box rfl run23) ?_
 obtain ⟨H25, S26, i27, at28⟩ := S24.sealBox (i := 0) (l' := []) rfl rfl
 refine FL.v (E.assign (v := Value.bool false) rfl) ?_
 refine FL.nil (FW.seq (FW.region ?_))
 refine FL.v (E.load rfl (run_loadA Tryz.isAgg28 Tryz.sizeOf28 (at28.now S26.sl) rfl)) ?_
 refine FL.v (E.move (v := v1) rfl) ?_
 obtain ⟨r29, hr30, hp⟩ := bnd hp
 refine FL.call rfl rfl rfl (E.call Tryz.call77 (A2 rfl rfl)) (w_impl_listOk S26.sl a0 v0_1 (p0_1.mono i27) v1 a1 (p1.mono i27) hr30) ?_
 rintro e w31 ⟨rfl, r32⟩
 refine ⟨_, rfl, ?_⟩
 have S33 := S26.call r32
 refine FL.v (E.move (v := Value.bool r29) rfl) ?_
 obtain ⟨t39, hqt39, hp⟩ := bnd hp
 refine FL.cut 5 (fun f w => ∃ H : GH, St Ha wa H w [] ∧ Inc H25 H ∧ f 13 = Value.bool t39) ?_ ?_
 ·
  clear hp; have hp := hqt39; clear hqt39
  rcases ifB hp with ⟨c45, hp⟩ | ⟨c45, hp⟩
  ·
   refine FL.val (wF_yes rfl rfl rfl c45) rfl rfl (E.load rfl (run_loadA Tryz.isAgg28 Tryz.sizeOf28 (at28.now S33.sl) rfl)) ?_
   refine FL.val (wF_yes rfl rfl rfl c45) rfl rfl (E.move (v := v1) rfl) ?_
   obtain ⟨r46, hr47, hp⟩ := bnd hp
   refine FL.call (wF_yes rfl rfl rfl c45) rfl rfl (E.call Tryz.call78 (A2 rfl rfl)) (w_impl_firstUnfollowed S33.sl a0 v0_1 (p0_1.mono i27) v1 a1 (p1.mono i27) hr47) ?_
   rintro e w48 ⟨rfl, r49⟩
   refine ⟨_, rfl, ?_⟩
   have S50 := S33.call r49
   refine FL.val (wF_yes rfl rfl rfl c45) rfl rfl (E.lss rfl rfl) ?_
   obtain rfl := Option.some.inj hp
   refine FL.v (E.pickT rfl c45 rfl) ?_
   exact FL.nil ⟨rfl, _, S50, (Inc.rfl _), rfl⟩
  ·
   refine FL.skip (wF_no rfl rfl rfl c45) rfl ?_
   refine FL.skip (wF_no rfl rfl rfl c45) rfl ?_
   refine FL.skip (wF_no rfl rfl rfl c45) rfl ?_
   refine FL.skip (wF_no rfl rfl rfl c45) rfl ?_
   obtain rfl := Option.some.inj hp
   refine FL.v (E.pickF rfl c45 rfl) ?_
   exact FL.nil ⟨rfl, _, S33, (Inc.rfl _), rfl⟩
 rintro f44 w43 ⟨H40, S41, i42, k51⟩
 refine FL.v (E.assign k51) ?_
 refine FL.nil ?_
 refine FW.ret ?_
 obtain rfl := Option.some.inj hp
 exact ⟨.inr rfl, res1 rfl rfl ⟨rfl, S41.back⟩⟩

@[reducible] def p_back55 (Ha : GH) (wa : World) (v : Value) : Ending → World → Prop :=
  fun e w' => ∃ H' b, e = .returned (.func (.func 83) #[] #[.pointer (some ⟨b, 0, none⟩)]) ∧ Run wa.heap.size Ha wa H' w' ∧ CAt H' ⟨b, 0, none⟩ [v]
theorem w_back55 {Ha : GH} {wa : World} (hs : Sl Ha wa) (v : Value) (xs : List (List Int)) (p : RSl Ha (eL eI 1) 1 v xs) :
    Calls Tryz.prog 55 #[v] wa (p_back55 Ha wa v) := by
  have S0 := St.init hs
  refine calls_go (N := 4) (args := [v]) Tryz.func55 rfl rfl rfl ?_
  refine FW.seq (FW.region ?_)
  obtain ⟨b, w1, run, S1⟩ := S0.box (P := Tryz.prog) 22 [v] (v := v) p.cells (ones_cons p.one ones_nil)
  refine FL.v (E.box rfl run) ?_
  refine FL.v (E.assign rfl) ?_
  refine FL.nil (FW.seq (FW.region ?_))
  refine FL.v (E.makeFunc A0 (A1 rfl)) ?_
  refine FL.v (E.assign rfl) ?_
  refine FL.nil ?_
  refine FW.ret ?_
  obtain ⟨H1, S2, i1, at1⟩ := S1.sealBox (i := 0) (l' := []) rfl rfl
  exact ⟨.inr rfl, res1 rfl rfl ⟨H1, b, rfl, S2.run, at1⟩⟩
theorem w_iter83 {Hs : GH} {b : Addr} {v : Value} {xs : List (List Int)} (hb : CAt Hs b [v]) (hv : RSl Hs (eL eI 1) 1 v xs) (L : List (Value × (List Int) × Nat)) (hn : L.map Prod.snd = xs.zipIdx.reverse)
    (hA : ∀ j a, L[j]? = some a → a.2.2 + j + 1 = xs.length ∧ ∃ p cs, PtrOf 1 v (a.2.2 : Int) p ∧ cs.length = 1 ∧ CAt Hs p cs ∧ (eL eI 1).rel Hs cs a.2.1 ∧ a.1 = (fun cs => cs.getD 0 undef) cs) :
    IterOk Tryz.prog Hs 83 #[.pointer (some b)] (fun a => [Value.int .i64 (a.2.2 : Int), a.1]) L := by
  have hL : L.length = xs.length := by simpa using congrArg List.length hn
  have hle := hv.le
  intro l K Kx W hsl hy h0
  refine calls_go (N := 19) (args := [Value.func (.yield l) #[] #[], Value.pointer (some b)]) Tryz.func83 rfl rfl rfl ?_
  refine FW.seq (FW.region ?_)
  refine FL.v (E.load rfl (run_load0 Tryz.isAgg22 (hb.now (hsl 0 W h0)) rfl)) ?_
  refine FL.v (E.lenP te22 rfl hv) ?_
  refine FL.v (E.sub rfl rfl) ?_
  refine FL.v (E.assign rfl) ?_
  refine FL.nil (FW.block ?_)
  refine FW.loopG (fun m f w => ∃ j, j ≤ xs.length ∧ m = xs.length - j ∧ K j w ∧ f 0 = Value.func (.yield l) #[] #[] ∧ f 1 = Value.pointer (some b) ∧ f 3 = Value.int .i64 ((xs.length : Int) - 1 - j)) ?_ (m := xs.length) ⟨0, Nat.zero_le _, rfl, h0, rfl, rfl, congrArg (Value.int .i64) (by
    rw [wr_of] <;> simp only [len, maxLen] at * <;> omega)⟩
  rintro m f w ⟨j, hj, rfl, hk, k0, k1, k3⟩
  refine FW.seq (FW.seq (FW.region ?_))
  refine FL.v (E.move k3) ?_
  refine FL.v (E.geq rfl rfl) ?_
  refine FL.nil ?_
  by_cases hlt : j < xs.length
  · refine FW.condT rfl (decide_eq_true (by omega)) ?_
    refine FW.skip (FW.seq (FW.block (FW.seq (FW.region ?_))))
    obtain ⟨a, ha⟩ : ∃ a, L[j]? = some a := ⟨_, List.getElem?_eq_getElem (by omega)⟩
    obtain ⟨hlen, p, cs, hp, hl, hc, hr, hu⟩ := hA j a ha
    have k3' : f 3 = Value.int .i64 ((a.2.2 : Nat) : Int) := by rw [k3]; exact congrArg _ (by omega)
    obtain ⟨c0, hcs⟩ : ∃ c0, cs = [c0] := by
        cases cs with
        | nil => cases hl
        | cons c0 r => cases r with
          | nil => exact ⟨c0, rfl⟩
          | cons _ _ => cases hl
    rw [hcs] at hu
    replace hu : a.1 = c0 := hu
    refine FL.v (E.move k0) ?_
    refine FL.v (E.move k3') ?_
    refine FL.v (E.load k1 (run_load0 Tryz.isAgg22 (hb.now (hsl j w hk)) rfl)) ?_
    refine FL.v (E.move k3') ?_
    refine FL.v (E.indexAddr te22 rfl rfl hp) ?_
    refine FL.v (E.load (v := c0) rfl (run_load0 Tryz.isAgg44 (hc.now (hsl j w hk)) (by rw [hcs]; rfl))) ?_
    refine FL.yield rfl rfl rfl (E.yield (args := #[Value.int .i64 ((a.2.2 : Nat) : Int), c0]) rfl (A2 rfl rfl)) (args := [Value.int .i64 ((a.2.2 : Nat) : Int), c0]) (fun n => by have h := hy j a w ha hk n; have e : a.1 = c0 := hu; rw [← e]; exact h) ?_
    rintro e w' (⟨rfl, hk'⟩ | ⟨rfl, hk'⟩)
    · refine ⟨_, rfl, ?_⟩
      refine FL.v (E.not rfl) ?_
      refine FL.nil ?_
      refine FW.condF rfl rfl ?_
      refine FW.skip (FW.region ?_)
      refine FL.v (E.move k3) ?_
      refine FL.v (E.sub rfl rfl) ?_
      refine FL.v (E.assign rfl) ?_
      refine FL.nil ?_
      refine ⟨xs.length - (j + 1), by omega, j + 1, hlt, rfl, hk', k0, k1, congrArg (Value.int .i64) ?_⟩
      simp only [maxLen] at *
      rw [wr_of] <;> omega
    · refine ⟨_, rfl, ?_⟩
      refine FL.v (E.not rfl) ?_
      refine FL.nil ?_
      refine FW.condT rfl rfl ?_
      refine FW.ret ?_
      exact ⟨.inr rfl, res0 rfl ⟨⟨_, rfl⟩, .inr hk'⟩⟩
  · refine FW.condF rfl (decide_eq_false (by omega)) ?_
    refine FW.exit ?_
    have e : j = L.length := by omega
    exact ⟨.inl rfl, res0 rfl ⟨⟨_, rfl⟩, .inl (e ▸ hk)⟩⟩

@[reducible] def p_impl_trail (Ha : GH) (wa : World) (r : ((List (Int × Int)) × Int)) : Ending → World → Prop :=
 fun e w' => ∃ H' : GH, ∃ v0 : Value, ∃ n0 : Nat, ∃ c0 : List Value, e = .returned (Value.tuple #[v0, Value.int .i64 r.2]) ∧ St Ha wa H' w' [.row 99 2 v0 n0 c0] ∧ Els (up wa.heap.size H') eI2 2 c0 r.1
theorem w_impl_trail {Ha : GH} {wa : World} (hs : Sl Ha wa) (a0 : Cnf) (v0_1 : Value) (p0_1 : RSl Ha (eL eI 1) 1 v0_1 a0.clauses) (v1 : Value) (a1 : List (List Int)) (p1 : RSl Ha (eL eI 1) 1 v1 a1) (a2 : Int) {r : ((List (Int × Int)) × Int)} (hp : (PF.impl_trail a0 a1 a2) = some r) :
  Calls Tryz.prog 87 #[Value.agg #[Value.int .i64 a0.vars, v0_1], v1, Value.int .i64 a2] wa (p_impl_trail Ha wa r) := by
 unfold PF.impl_trail at hp
 have S0 := St.init hs
 refine calls_go (N := 33) (args := [Value.agg #[Value.int .i64 a0.vars, v0_1], v1, Value.int .i64 a2]) Tryz.func87 rfl rfl rfl ?_
 refine FW.seq (FW.region ?_)
 obtain ⟨b21, w22, run23, S24⟩ := S0.box (P := Tryz.prog) 28 [Value.int .i64 a0.vars, v0_1] (v := Value.agg #[Value.int .i64 a0.vars, v0_1]) rfl (ones_cons rfl (ones_cons p0_1.one ones_nil))
 refine FL.v (E.box rfl run23) ?_
 obtain ⟨H25, S26, i27, at28⟩ := S24.sealBox (i := 0) (l' := []) rfl rfl
 refine FL.v (E.assign (v := Value.slice none 0 0) rfl) ?_
 refine FL.v (E.assign (v := Value.int .i64 0) rfl) ?_
 refine FL.nil (FW.seq (FW.region ?_))
 refine FL.v (E.load rfl (run_loadA Tryz.isAgg28 Tryz.sizeOf28 (at28.now S26.sl) rfl)) ?_
 refine FL.v (E.move (v := v1) rfl) ?_
 refine FL.v (E.move (v := Value.int .i64 a2) rfl) ?_
 obtain ⟨r29, hr30, hp⟩ := bnd hp
 refine FL.call rfl rfl rfl (E.call Tryz.call114 (A3 rfl rfl rfl)) (w_impl_before S26.sl a0 v0_1 (p0_1.mono i27) v1 a1 (p1.mono i27) a2 hr30) ?_
 rintro e w32 ⟨H31, v35, n36, cs37, rfl, r34, els38⟩
 refine ⟨_, rfl, ?_⟩
 have S33 := S26.join (l' := [.row 44 1 v35 n36 cs37]) r34 rfl
 refine FL.v (E.assign (v := v35) rfl) ?_
 refine FL.nil (FW.seq (FW.region ?_))
 refine FL.v (E.move (v := v35) rfl) ?_
 refine FL.v (E.move (v := v1) rfl) ?_
 refine FL.v (E.move (v := Value.int .i64 a2) rfl) ?_
 obtain ⟨x45, hx46, hp⟩ := bnd hp
 obtain ⟨p39, cs40, pt41, l42, at43, rel44⟩ := p1.at hx46
 obtain ⟨v47, rfl, h48⟩ := eL_open rel44
 refine FL.v (E.indexAddr te22 rfl rfl pt41) ?_
 refine FL.v (E.load rfl (run_load0 Tryz.isAgg44 ((at43.mono (i27.tr r34.run.inc)).now S33.sl) rfl)) ?_
 obtain ⟨r49, hr50, hp⟩ := bnd hp
 refine FL.call rfl rfl rfl (E.call Tryz.call122 (A1 rfl)) (w_impl_negated S33.sl v47 x45 (h48.mono (i27.tr r34.run.inc)) hr50) ?_
 rintro e w52 ⟨H51, v55, n56, cs57, rfl, r54, els58⟩
 refine ⟨_, rfl, ?_⟩
 have els58 := els58.mono (up_le S33.size)
 have S53 := S33.join (l' := [.row 3 1 v55 n56 cs57, .row 44 1 v35 n36 cs37]) r54 rfl
 obtain ⟨H59, S60, i61, h62⟩ := S53.sealRow (i := 1) (l' := [.row 3 1 v55 n56 cs57]) rfl (els38.mono r54.run.inc) (by decide) rfl
 obtain ⟨H64, S65, i66, h67, nv68⟩ := S60.sealRowU (i := 0) (l' := []) rfl (els58.mono (up_mono i61)) (by decide) rfl
 obtain ⟨r69, hr70, hp⟩ := bnd hp
 refine FL.call rfl rfl rfl (E.call Tryz.call121 (A2 rfl rfl)) (w_impl_propagate S65.sl v35 r29 (h62.mono i66) v55 r49 (h67.mono upI) hr70) ?_
 rintro e w72 ⟨H71, v77, v80, n81, cs82, rfl, r74, h78, els83⟩
 refine ⟨_, rfl, ?_⟩
 obtain ⟨H75, r74, hU76⟩ := St.lendX (i61.tr i66) S53.sl r74
 have nv79 : New H51 [v77] := New.of_up S53.sl h78.dom
 have h78 := h78.mono (hU76.tr (up_le S53.size))
 have els83 := els83.mono (hU76.tr (up_le S53.size))
 have S73 := S53.join (l' := [.row 99 2 v80 n81 cs82, .row 3 1 v55 n56 cs57, .row 44 1 v35 n36 cs37]) r74 rfl
 refine FL.v (E.move (v := Value.tuple #[v77, v80, Value.bool r69.2.2]) rfl) ?_
 refine FL.v (E.extract (i := 0) rfl rfl) ?_
 refine FL.v (E.extract (i := 1) rfl rfl) ?_
 refine FL.v (E.extract (i := 2) rfl rfl) ?_
 refine FL.v (E.assign (v := v77) rfl) ?_
 refine FL.v (E.assign (v := v80) rfl) ?_
 refine FL.v (E.assign (v := Value.bool r69.2.2) rfl) ?_
 refine FL.nil (FW.seq ?_)
 obtain ⟨r90, hr91, hp⟩ := bnd hp
 obtain ⟨x108, hx109, hp⟩ := bnd hp
 refine FW.drawB (Sl H75) (fun f w => ∃ H : GH, St Ha wa H w [.row 99 2 v80 n81 cs82] ∧ Inc H75 H ∧ f 6 = v80 ∧ f 7 = Value.int .i64 x108) (by kernel_rfl) S73.sl ?_ ?_
 ·
  intro w84 r85
  have S86 := S73.call r85
  refine FB.t (i := 0) (bs 8 1) rfl (SP.nil S86.sl) rfl (fun w' hw' => (E.move (v := v80) rfl)) ?_
  refine FB.t (i := 1) (bs 8 3) rfl (SP.nil S86.sl) rfl (fun w' hw' => (E.move (v := v35) rfl)) ?_
  refine FB.t (i := 2) (bs 8 7) rfl (SP.nil S86.sl) rfl (fun w' hw' => (E.move (v := v77) rfl)) ?_
  refine FB.all1 (i := 3) (by kernel_rfl) ?_
  ·
   obtain ⟨H63, S87, i88, h89⟩ := S86.sealRow (i := 2) (l' := [.row 99 2 v80 n81 cs82, .row 3 1 v55 n56 cs57]) rfl (els38.mono (r54.run.inc.tr r74.run.inc)) (by decide) rfl
   refine FC.call (l' := (bs 8 15)) rfl (by kernel_rfl) rfl rfl rfl (E.call Tryz.call123 (A2 rfl rfl)) (w_impl_falseClauses S87.sl v35 r29 h89 v77 r69.1 (h78.mono (upI.tr i88)) hr91) ?_
   rintro e w93 ⟨H92, v98, n99, cs100, rfl, r95, els101⟩
   refine ⟨_, rfl, ?_⟩
   obtain ⟨H96, r95, hU97⟩ := St.lendX i88 S86.sl r95
   have els101 := els101.mono (hU97.tr (up_le S86.size))
   have S94 := S86.join (l' := [.row 3 1 v98 n99 cs100, .row 99 2 v80 n81 cs82, .row 3 1 v55 n56 cs57, .row 44 1 v35 n36 cs37]) r95 rfl
   refine ⟨(SP.nil (Sl.of_inc r95.run.inc S94.sl)), ?_⟩
   obtain ⟨p102, cs103, pt104, l105, at106, rel107, hall110⟩ := S94.row_atA (i := 0) rfl els101 (by decide) hx109
   obtain rfl := eI_open rel107
   refine FB.t (i := 4) (bs 8 31) rfl (SP.nil (Sl.of_inc r95.run.inc S94.sl)) rfl (fun w' hw' => (E.indexAddr te44 rfl rfl pt104)) ?_
   refine FB.phase [] (fun w' => WAt w' p102 [Value.int .i64 x108]) ?_
   refine FB.p (i := 5) (bs 8 63) 0 [7] rfl (SP.on (hall110 _ _ _ 0 S94 rfl) (SP.nil (Sl.of_inc r95.run.inc S94.sl))) rfl rfl (fun w' hw' => (E.load rfl (run_load0 Tryz.isAgg3 hw' rfl))) ?_
   refine FB.t (i := 6) (bs 8 127) rfl (SP.on (hall110 _ _ _ 0 S94 rfl) (SP.nil (Sl.of_inc r95.run.inc S94.sl))) rfl (fun w' hw' => (E.assign (v := v80) rfl)) ?_
   refine FB.t (i := 7) (bs 8 255) rfl (SP.on (hall110 _ _ _ 0 S94 rfl) (SP.nil (Sl.of_inc r95.run.inc S94.sl))) rfl (fun w' hw' => (E.assign (v := Value.int .i64 x108) rfl)) ?_
   exact FB.done (by kernel_rfl) ⟨_, (S94.sel [1] (by decide) rfl), r95.run.inc, rfl, rfl⟩
 ·
  rintro f115 w114 ⟨H111, S112, i113, k116, k117⟩
  refine FW.ret ?_
  obtain rfl := Option.some.inj hp
  exact ⟨.inr rfl, res2 rfl k116 k117 ⟨_, _, _, _, rfl, S112, (els83.mono (up_mono i113))⟩⟩

@[reducible] def p_back115 (Ha : GH) (wa : World) (v : Value) : Ending → World → Prop :=
  fun e w' => ∃ H' b, e = .returned (.func (.func 142) #[] #[.pointer (some ⟨b, 0, none⟩)]) ∧ Run wa.heap.size Ha wa H' w' ∧ CAt H' ⟨b, 0, none⟩ [v]
theorem w_back115 {Ha : GH} {wa : World} (hs : Sl Ha wa) (v : Value) (xs : List (Int × Int)) (p : RSl Ha eI2 2 v xs) :
    Calls Tryz.prog 115 #[v] wa (p_back115 Ha wa v) := by
  have S0 := St.init hs
  refine calls_go (N := 4) (args := [v]) Tryz.func115 rfl rfl rfl ?_
  refine FW.seq (FW.region ?_)
  obtain ⟨b, w1, run, S1⟩ := S0.box (P := Tryz.prog) 95 [v] (v := v) p.cells (ones_cons p.one ones_nil)
  refine FL.v (E.box rfl run) ?_
  refine FL.v (E.assign rfl) ?_
  refine FL.nil (FW.seq (FW.region ?_))
  refine FL.v (E.makeFunc A0 (A1 rfl)) ?_
  refine FL.v (E.assign rfl) ?_
  refine FL.nil ?_
  refine FW.ret ?_
  obtain ⟨H1, S2, i1, at1⟩ := S1.sealBox (i := 0) (l' := []) rfl rfl
  exact ⟨.inr rfl, res1 rfl rfl ⟨H1, b, rfl, S2.run, at1⟩⟩
theorem w_iter142 {Hs : GH} {b : Addr} {v : Value} {xs : List (Int × Int)} (hb : CAt Hs b [v]) (hv : RSl Hs eI2 2 v xs) (L : List (Value × (Int × Int) × Nat)) (hn : L.map Prod.snd = xs.zipIdx.reverse)
    (hA : ∀ j a, L[j]? = some a → a.2.2 + j + 1 = xs.length ∧ ∃ p cs, PtrOf 2 v (a.2.2 : Int) p ∧ cs.length = 2 ∧ CAt Hs p cs ∧ eI2.rel Hs cs a.2.1 ∧ a.1 = (fun cs => Value.agg cs.toArray) cs) :
    IterOk Tryz.prog Hs 142 #[.pointer (some b)] (fun a => [Value.int .i64 (a.2.2 : Int), a.1]) L := by
  have hL : L.length = xs.length := by simpa using congrArg List.length hn
  have hle := hv.le
  intro l K Kx W hsl hy h0
  refine calls_go (N := 19) (args := [Value.func (.yield l) #[] #[], Value.pointer (some b)]) Tryz.func142 rfl rfl rfl ?_
  refine FW.seq (FW.region ?_)
  refine FL.v (E.load rfl (run_load0 Tryz.isAgg95 (hb.now (hsl 0 W h0)) rfl)) ?_
  refine FL.v (E.lenP te95 rfl hv) ?_
  refine FL.v (E.sub rfl rfl) ?_
  refine FL.v (E.assign rfl) ?_
  refine FL.nil (FW.block ?_)
  refine FW.loopG (fun m f w => ∃ j, j ≤ xs.length ∧ m = xs.length - j ∧ K j w ∧ f 0 = Value.func (.yield l) #[] #[] ∧ f 1 = Value.pointer (some b) ∧ f 3 = Value.int .i64 ((xs.length : Int) - 1 - j)) ?_ (m := xs.length) ⟨0, Nat.zero_le _, rfl, h0, rfl, rfl, congrArg (Value.int .i64) (by
    rw [wr_of] <;> simp only [len, maxLen] at * <;> omega)⟩
  rintro m f w ⟨j, hj, rfl, hk, k0, k1, k3⟩
  refine FW.seq (FW.seq (FW.region ?_))
  refine FL.v (E.move k3) ?_
  refine FL.v (E.geq rfl rfl) ?_
  refine FL.nil ?_
  by_cases hlt : j < xs.length
  · refine FW.condT rfl (decide_eq_true (by omega)) ?_
    refine FW.skip (FW.seq (FW.block (FW.seq (FW.region ?_))))
    obtain ⟨a, ha⟩ : ∃ a, L[j]? = some a := ⟨_, List.getElem?_eq_getElem (by omega)⟩
    obtain ⟨hlen, p, cs, hp, hl, hc, hr, hu⟩ := hA j a ha
    have k3' : f 3 = Value.int .i64 ((a.2.2 : Nat) : Int) := by rw [k3]; exact congrArg _ (by omega)
    refine FL.v (E.move k0) ?_
    refine FL.v (E.move k3') ?_
    refine FL.v (E.load k1 (run_load0 Tryz.isAgg95 (hb.now (hsl j w hk)) rfl)) ?_
    refine FL.v (E.move k3') ?_
    refine FL.v (E.indexAddr te95 rfl rfl hp) ?_
    refine FL.v (E.load (v := Value.agg cs.toArray) rfl (run_loadA Tryz.isAgg99 Tryz.sizeOf99 (hc.now (hsl j w hk)) hl)) ?_
    refine FL.yield rfl rfl rfl (E.yield (args := #[Value.int .i64 ((a.2.2 : Nat) : Int), Value.agg cs.toArray]) rfl (A2 rfl rfl)) (args := [Value.int .i64 ((a.2.2 : Nat) : Int), Value.agg cs.toArray]) (fun n => by have h := hy j a w ha hk n; have e : a.1 = Value.agg cs.toArray := hu; rw [← e]; exact h) ?_
    rintro e w' (⟨rfl, hk'⟩ | ⟨rfl, hk'⟩)
    · refine ⟨_, rfl, ?_⟩
      refine FL.v (E.not rfl) ?_
      refine FL.nil ?_
      refine FW.condF rfl rfl ?_
      refine FW.skip (FW.region ?_)
      refine FL.v (E.move k3) ?_
      refine FL.v (E.sub rfl rfl) ?_
      refine FL.v (E.assign rfl) ?_
      refine FL.nil ?_
      refine ⟨xs.length - (j + 1), by omega, j + 1, hlt, rfl, hk', k0, k1, congrArg (Value.int .i64) ?_⟩
      simp only [maxLen] at *
      rw [wr_of] <;> omega
    · refine ⟨_, rfl, ?_⟩
      refine FL.v (E.not rfl) ?_
      refine FL.nil ?_
      refine FW.condT rfl rfl ?_
      refine FW.ret ?_
      exact ⟨.inr rfl, res0 rfl ⟨⟨_, rfl⟩, .inr hk'⟩⟩
  · refine FW.condF rfl (decide_eq_false (by omega)) ?_
    refine FW.exit ?_
    have e : j = L.length := by omega
    exact ⟨.inl rfl, res0 rfl ⟨⟨_, rfl⟩, .inl (e ▸ hk)⟩⟩

@[reducible] def p_slices_Grow_int_int (Ha : GH) (wa : World) (r : List Int) : Ending → World → Prop :=
  fun e w' => ∃ H' : GH, ∃ v0 : Value, ∃ n0 : Nat, ∃ c0 : List Value, e = .returned (v0) ∧ St Ha wa H' w' [.row 3 1 v0 n0 c0] ∧ Els (up wa.heap.size H') eI 1 c0 r
theorem w_slices_Grow_int_int {Ha : GH} {wa : World} (hs : Sl Ha wa) (a1 : Int) {r : List Int} (hp : PF.slices_Grow_int_int a1 = some r) :
    Calls Tryz.prog 173 #[.slice none 0 0, .int .i64 a1] wa (p_slices_Grow_int_int Ha wa r) := by
  unfold PF.slices_Grow_int_int at hp
  split at hp
  · rename_i h
    cases hp
    refine (growNil (En := eI) te44 hs h.1 h.2 (fun w => Any8.slices_Grow_room (P := Tryz.prog) Tryz.grow173 none 0 0 0 w (Nat.le_refl _) (by decide) (by decide) (by decide))
      (fun n w h0 hl => ?_)).mono ?_
    · have h := Any8.slices_Grow_grow (P := Tryz.prog) Tryz.grow173 _ _ Tryz.type3 rfl (by decide) none 0 0 n [] w (Nat.le_refl _) (by omega) ?_ (by unfold lim at hl; omega) (by simp) (fun _ => rfl) (by simp)
      · refine h.mono ?_
        rintro _ _ ⟨rfl, rfl⟩
        refine ⟨by simp; rfl, ?_⟩
        simp
        rfl
      · rw [Nat.zero_add]; refine Nat.le_trans (Nat.mul_le_mul hl (show _ ≤ 4096 by decide)) (by decide)
    · rintro e w' ⟨v, n, c, rfl, h1, h2⟩
      exact ⟨_, _, _, _, rfl, h1, h2 _⟩
  · cases hp

@[reducible] def p_slices_Concat_int_int (Ha : GH) (wa : World) (r : (List Int)) : Ending → World → Prop :=
  fun e w' => ∃ H' : GH, ∃ v0 : Value, ∃ n0 : Nat, ∃ c0 : List Value, e = .returned (v0) ∧ St Ha wa H' w' [.row 3 1 v0 n0 c0] ∧ Els (up wa.heap.size H') eI 1 c0 r
theorem w_slices_Concat_int_int {Ha : GH} {wa : World} (hs : Sl Ha wa) (v0 : Value) (a0 : List (List Int)) (p0 : RSl Ha (eL eI 1) 1 v0 a0) {r : (List Int)} (hp : (PF.slices_Concat_int_int a0) = some r) :
    Calls Tryz.prog 144 #[v0] wa (p_slices_Concat_int_int Ha wa r) := by
  unfold PF.slices_Concat_int_int at hp
  have S0 := St.init hs
  refine calls_go (N := 36) (args := [v0]) Tryz.func144 rfl rfl rfl ?_
  refine FW.seq (FW.region ?_)
  refine FL.v (E.assign (v := Value.slice none 0 0) rfl) ?_
  refine FL.nil (FW.seq (FW.region ?_))
  refine FL.v (E.assign (v := Value.int .i64 0) rfl) ?_
  refine FL.nil (FW.seq (FW.seq (FW.region ?_)))
  refine FL.v (E.move (v := v0) rfl) ?_
  refine FL.v (E.lenP te22 rfl p0) ?_
  refine FL.v (E.move (v := Value.int .i64 0) rfl) ?_
  refine FL.nil ?_
  obtain ⟨q22, hq, hp⟩ := bndR hp
  refine FW.block ?_
  refine FW.mono (FW.forL (S := Int) (X := Empty) (fun (i22 : Nat) (s22 : Int) f w => ∃ H : GH, St Ha wa H w [] ∧ Inc Ha H ∧ f 11 = Value.int .i64 ((i22 : Nat) : Int) ∧ f 0 = v0 ∧ f 3 = Value.int .i64 s22 ∧ f 9 = v0 ∧ f 10 = Value.int .i64 (len a0)) (fun (q : Rs Int Empty) e f w => match q with | .go s22 => e = Exit.exit 0 ∧ (∃ H : GH, St Ha wa H w [] ∧ Inc Ha H ∧ f 0 = v0 ∧ f 3 = Value.int .i64 s22) | .rt x => x.elim) hq ⟨_, S0, (Inc.rfl _), rfl, rfl, rfl, rfl, rfl⟩ ?_ ?_) ?_
  ·
    clear hp hq
    rintro i22 y21 s22 f46 w45 ⟨H42, S43, i44, k47, k48, k49, k50, k51⟩ hx22 o61 hp
    refine FW.seq (FW.region ?_)
    refine FL.v (E.lssT k47 k51 (lss_len hx22)) ?_
    refine FL.nil (FW.seq ?_)
    refine FW.condT rfl rfl ?_
    refine FW.skip (FW.seq (FW.block (FW.seq (FW.region ?_))))
    obtain ⟨p52, cs53, pt54, l55, at56, rel57⟩ := p0.at (ix_nat hx22)
    obtain ⟨v58, rfl, h59⟩ := eL_open rel57
    refine FL.v (E.indexAddr te22 k50 k47 pt54) ?_
    refine FL.v (E.load rfl (run_load0 Tryz.isAgg44 ((at56.mono i44).now S43.sl) rfl)) ?_
    refine FL.v (E.assign (v := v58) rfl) ?_
    refine FL.nil (FW.seq (FW.region ?_))
    refine FL.v (E.move k49) ?_
    refine FL.v (E.move (v := v58) rfl) ?_
    refine FL.v (E.lenP te44 rfl h59) ?_
    refine FL.v (E.add rfl rfl) ?_
    refine FL.v (E.assign (v := Value.int .i64 (wr (s22 + (len y21)))) rfl) ?_
    refine FL.nil (FW.seq (FW.region ?_))
    refine FL.v (E.move (v := Value.int .i64 (wr (s22 + (len y21)))) rfl) ?_
    refine FL.v (E.lss rfl rfl) ?_
    refine FL.nil ?_
    rcases ifB hp with ⟨c60, hp⟩ | ⟨c60, hp⟩
    ·
      refine FW.condT rfl c60 ?_
      cases hp
    ·
      refine FW.condF rfl c60 ?_
      refine FW.skip (FW.region ?_)
      refine FL.v (E.add k47 rfl) ?_
      refine FL.v (E.move (v := Value.int .i64 (wr (((i22 : Nat) : Int) + 1))) rfl) ?_
      refine FL.nil ?_
      obtain rfl := Option.some.inj hp
      exact ⟨rfl, ⟨_, S43, i44, (nat_succ rfl (lt_of_get hx22) (p0.mono i44).le), k48, rfl, k50, k51⟩⟩
  ·
    clear hp hq
    rintro s22 f159 w158 ⟨H155, S156, i157, k160, k161, k162, k163, k164⟩
    refine FW.seq (FW.region ?_)
    refine FL.v (E.lss k160 k164) ?_
    refine FL.nil (FW.seq ?_)
    refine FW.condF rfl dlt_len ?_
    refine FW.exit ?_
    exact ⟨nofun, rfl, ⟨_, S156, i157, k161, k162⟩⟩
  ·
    clear hq
    intro e f66 w65 hD
    rcases q22 with s22 | x22
    ·
      obtain ⟨rfl, hD⟩ := hD
      obtain ⟨H62, S63, i64, k67, k68⟩ := hD
      replace hp := el_go hp
      refine FW.seq (FW.region ?_)
      refine FL.v (E.move k68) ?_
      obtain ⟨r69, hr70, hp⟩ := bnd hp
      refine FL.call rfl rfl rfl (E.call Tryz.call173 (A2 rfl rfl)) (w_slices_Grow_int_int S63.sl s22 hr70) ?_
      rintro e w72 ⟨H71, v75, n76, cs77, rfl, r74, els78⟩
      refine ⟨_, rfl, ?_⟩
      have els78 := els78.mono (up_le S63.size)
      have S73 := S63.join (l' := [.row 3 1 v75 n76 cs77]) r74 rfl
      refine FL.v (E.assign (v := v75) rfl) ?_
      refine FL.nil (FW.seq (FW.seq (FW.region ?_)))
      refine FL.v (E.move k67) ?_
      refine FL.v (E.lenP te22 rfl p0) ?_
      refine FL.v (E.move (v := Value.int .i64 0) rfl) ?_
      refine FL.nil ?_
      obtain ⟨q80, hq, hp⟩ := bndR hp
      refine FW.block ?_
      refine FW.mono (FW.forL (S := (List Int)) (X := Empty) (fun (i80 : Nat) (s80 : (List Int)) f w => ∃ H : GH, ∃ v81 : Value, ∃ n82 : Nat, ∃ cs83 : List Value, St Ha wa H w [.row 3 1 v81 n82 cs83] ∧ Inc H71 H ∧ Els (up wa.heap.size H) eI 1 cs83 s80 ∧ f 27 = Value.int .i64 ((i80 : Nat) : Int) ∧ f 6 = v81 ∧ f 25 = v0 ∧ f 26 = Value.int .i64 (len a0)) (fun (q : Rs (List Int) Empty) e f w => match q with | .go s80 => e = Exit.exit 2 ∧ (∃ H : GH, ∃ v81 : Value, ∃ n82 : Nat, ∃ cs83 : List Value, St Ha wa H w [.row 3 1 v81 n82 cs83] ∧ Inc H71 H ∧ Els (up wa.heap.size H) eI 1 cs83 s80 ∧ f 6 = v81) | .rt x => x.elim) hq ⟨_, _, _, _, S73, (Inc.rfl _), els78, rfl, rfl, rfl, rfl⟩ ?_ ?_) ?_
      ·
        clear hp hq
        rintro i80 y79 s80 f116 w115 ⟨H112, v81, n82, cs83, S113, i114, els84, k117, k118, k119, k120⟩ hx80 o139 hp
        refine FW.seq (FW.region ?_)
        refine FL.v (E.lssT k117 k120 (lss_len hx80)) ?_
        refine FL.nil (FW.seq ?_)
        refine FW.condT rfl rfl ?_
        refine FW.skip (FW.seq (FW.block (FW.seq (FW.region ?_))))
        obtain ⟨p121, cs122, pt123, l124, at125, rel126⟩ := p0.at (ix_nat hx80)
        obtain ⟨v127, rfl, h128⟩ := eL_open rel126
        refine FL.v (E.indexAddr te22 k119 k117 pt123) ?_
        refine FL.v (E.load rfl (run_load0 Tryz.isAgg44 ((at125.mono ((i64.tr r74.run.inc).tr i114)).now S113.sl) rfl)) ?_
        refine FL.v (E.assign (v := v127) rfl) ?_
        refine FL.nil (FW.region ?_)
        refine FL.v (E.move k118) ?_
        refine FL.v (E.move (v := v127) rfl) ?_
        obtain ⟨xs129, hz130, hp⟩ := bnd hp
        obtain ⟨v131, w134, n132, cs133, run135, S136, els137⟩ := S113.appendP (P := Tryz.prog) (Inc.rfl _) te44 (i := 0) rfl (els84.mono upI) (h128.mono ((i64.tr r74.run.inc).tr i114)) hz130
        have S136 : St Ha wa H112 w134 [.row 3 1 v131 n132 cs133] := S136
        have els137 : Els (up wa.heap.size H112) eI 1 cs133 xs129 := els137.any (fun _ _ _ _ h => h)
        refine FL.v (E.append rfl rfl run135) ?_
        refine FL.v (E.assign (v := v131) rfl) ?_
        refine FL.nil (FW.region ?_)
        refine FL.v (E.add k117 rfl) ?_
        refine FL.v (E.move (v := Value.int .i64 (wr (((i80 : Nat) : Int) + 1))) rfl) ?_
        refine FL.nil ?_
        obtain rfl := Option.some.inj hp
        exact ⟨rfl, ⟨_, _, _, _, S136, i114, els137, (nat_succ rfl (lt_of_get hx80) (p0.mono ((i64.tr r74.run.inc).tr i114)).le), rfl, k119, k120⟩⟩
      ·
        clear hp hq
        rintro s80 f150 w149 ⟨H146, v81, n82, cs83, S147, i148, els84, k151, k152, k153, k154⟩
        refine FW.seq (FW.region ?_)
        refine FL.v (E.lss k151 k154) ?_
        refine FL.nil (FW.seq ?_)
        refine FW.condF rfl dlt_len ?_
        refine FW.exit ?_
        exact ⟨nofun, rfl, ⟨_, _, _, _, S147, i148, els84, k152⟩⟩
      ·
        clear hq
        intro e f144 w143 hD
        rcases q80 with s80 | x80
        ·
          obtain ⟨rfl, hD⟩ := hD
          obtain ⟨H140, v81, n82, cs83, S141, i142, els84, k145⟩ := hD
          replace hp := el_go hp
          refine FW.seq (FW.region ?_)
          refine FL.v (E.move k145) ?_
          refine FL.v (E.assign (v := v81) rfl) ?_
          refine FL.nil ?_
          refine FW.ret ?_
          obtain rfl := Option.some.inj hp
          exact ⟨.inr rfl, res1 rfl rfl ⟨_, _, _, _, rfl, S141, els84⟩⟩
        · exact x80.elim
    · exact x22.elim

@[reducible] def p_impl_resolve (Ha : GH) (wa : World) (r : ((List Int) × Bool)) : Ending → World → Prop :=
 fun e w' => ∃ H' : GH, ∃ v0 : Value, ∃ n0 : Nat, ∃ c0 : List Value, e = .returned (Value.tuple #[v0, Value.bool r.2]) ∧ St Ha wa H' w' [.row 3 1 v0 n0 c0] ∧ Els (up wa.heap.size H') eI 1 c0 r.1
theorem w_impl_resolve {Ha : GH} {wa : World} (hs : Sl Ha wa) (v0 : Value) (a0 : List Int) (p0 : RSl Ha eI 1 v0 a0) (v1 : Value) (a1 : List Int) (p1 : RSl Ha eI 1 v1 a1) (a2 : Int) {r : ((List Int) × Bool)} (hp : (PF.impl_resolve a0 a1 a2) = some r) :
  Calls Tryz.prog 117 #[v0, v1, Value.int .i64 a2] wa (p_impl_resolve Ha wa r) := by
 unfold PF.impl_resolve at hp
 have S0 := St.init hs
 refine calls_go (N := 30) (args := [v0, v1, Value.int .i64 a2]) Tryz.func117 rfl rfl rfl ?_
 refine FW.seq (FW.region ?_)
 refine FL.v (E.assign (v := Value.slice none 0 0) rfl) ?_
 refine FL.v (E.assign (v := Value.bool false) rfl) ?_
 refine FL.nil (FW.seq (FW.seq (FW.region ?_)))
 refine FL.v (E.move (v := v0) rfl) ?_
 refine FL.v (E.move (v := Value.int .i64 a2) rfl) ?_
 obtain ⟨r21, hr22, hp⟩ := bnd hp
 refine FL.call rfl rfl rfl (E.call Tryz.call116 (A2 rfl rfl)) (w_slices_Contains_int_int S0.sl v0 a0 p0 a2 hr22) ?_
 rintro e w23 ⟨rfl, r24⟩
 refine ⟨_, rfl, ?_⟩
 have S25 := S0.call r24
 refine FL.v (E.not rfl) ?_
 refine FL.v (E.move (v := Value.bool (!r21)) rfl) ?_
 obtain ⟨t31, hqt31, hp⟩ := bnd hp
 refine FL.cut 6 (fun f w => ∃ H : GH, St Ha wa H w [] ∧ Inc Ha H ∧ f 0 = v0 ∧ f 1 = v1 ∧ f 2 = Value.int .i64 a2 ∧ f 18 = Value.bool t31) ?_ ?_
 ·
  clear hp; have hp := hqt31; clear hqt31
  rcases ifB hp with ⟨c37, hp⟩ | ⟨c37, hp⟩
  ·
   refine FL.skip (wF_no rfl rfl rfl c37) rfl ?_
   refine FL.skip (wF_no rfl rfl rfl c37) rfl ?_
   refine FL.skip (wF_no rfl rfl rfl c37) rfl ?_
   refine FL.skip (wF_no rfl rfl rfl c37) rfl ?_
   refine FL.skip (wF_no rfl rfl rfl c37) rfl ?_
   obtain rfl := Option.some.inj hp
   refine FL.v (E.pickT rfl c37 rfl) ?_
   exact FL.nil ⟨rfl, _, S25, (Inc.rfl _), rfl, rfl, rfl, rfl⟩
  ·
   refine FL.val (wF_yes rfl rfl rfl c37) rfl rfl (E.move (v := v1) rfl) ?_
   refine FL.val (wF_yes rfl rfl rfl c37) rfl rfl (E.move (v := Value.int .i64 a2) rfl) ?_
   refine FL.val (wF_yes rfl rfl rfl c37) rfl rfl (E.neg rfl) ?_
   obtain ⟨r38, hr39, hp⟩ := bnd hp
   refine FL.call (wF_yes rfl rfl rfl c37) rfl rfl (E.call Tryz.call116 (A2 rfl rfl)) (w_slices_Contains_int_int S25.sl v1 a1 p1 (wr (-a2)) hr39) ?_
   rintro e w40 ⟨rfl, r41⟩
   refine ⟨_, rfl, ?_⟩
   have S42 := S25.call r41
   refine FL.val (wF_yes rfl rfl rfl c37) rfl rfl (E.not rfl) ?_
   obtain rfl := Option.some.inj hp
   refine FL.v (E.pickF rfl c37 rfl) ?_
   exact FL.nil ⟨rfl, _, S42, (Inc.rfl _), rfl, rfl, rfl, rfl⟩
 rintro f36 w35 ⟨H32, S33, i34, k43, k44, k45, k46⟩
 refine FL.nil ?_
 rcases ifB hp with ⟨c47, hp⟩ | ⟨c47, hp⟩
 ·
  refine FW.condT k46 c47 ?_
  refine FW.seq (FW.region ?_)
  refine FL.v (E.assign (v := Value.slice none 0 0) rfl) ?_
  refine FL.v (E.assign (v := Value.bool false) rfl) ?_
  refine FL.nil ?_
  refine FW.ret ?_
  obtain rfl := Option.some.inj hp
  exact ⟨.inr rfl, res2 rfl rfl rfl ⟨_, _, _, _, rfl, (S33.nil 3 1), Els.nil⟩⟩
 ·
  refine FW.condF k46 c47 ?_
  refine FW.skip (FW.seq (FW.region ?_))
  refine FL.v (E.move k43) ?_
  refine FL.v (E.move k45) ?_
  obtain ⟨r48, hr49, hp⟩ := bnd hp
  refine FL.call rfl rfl rfl (E.call Tryz.call145 (A2 rfl rfl)) (w_impl_withoutVar S33.sl v0 a0 (p0.mono i34) a2 hr49) ?_
  rintro e w51 ⟨H50, v54, n55, cs56, rfl, r53, els57⟩
  refine ⟨_, rfl, ?_⟩
  have els57 := els57.mono (up_le S33.size)
  have S52 := S33.join (l' := [.row 3 1 v54 n55 cs56]) r53 rfl
  refine FL.v (E.move k44) ?_
  refine FL.v (E.move k45) ?_
  obtain ⟨r58, hr59, hp⟩ := bnd hp
  refine FL.call rfl rfl rfl (E.call Tryz.call145 (A2 rfl rfl)) (w_impl_withoutVar S52.sl v1 a1 (p1.mono (i34.tr r53.run.inc)) a2 hr59) ?_
  rintro e w61 ⟨H60, v64, n65, cs66, rfl, r63, els67⟩
  refine ⟨_, rfl, ?_⟩
  have els67 := els67.mono (up_le S52.size)
  have S62 := S52.join (l' := [.row 3 1 v64 n65 cs66, .row 3 1 v54 n55 cs56]) r63 rfl
  obtain ⟨H68, S69, i70, h71, nv72⟩ := S62.sealRowU (i := 1) (l' := [.row 3 1 v64 n65 cs66]) rfl (els57.mono (up_mono r63.run.inc)) (by decide) rfl
  obtain ⟨H73, S74, i75, h76, nv77⟩ := S69.sealRowU (i := 0) (l' := []) rfl (els67.mono (up_mono i70)) (by decide) rfl
  obtain ⟨v78, w79, run80, S81⟩ := S74.buildSlice (P := Tryz.prog) te22 [v54, v64] (parts := #[(0, v54), (1, v64)]) (cells := [v54, v64]) rfl (szs_cons (cells_size h71.cells) (szs_cons (cells_size h76.cells) szs_nil)) (fc_cons h71.cells (fc_cons h76.cells fc_nil)) (ones_cons h71.one (ones_cons h76.one ones_nil)) (Nat.le_of_ble_eq_true rfl)
  have els82 : Els (up wa.heap.size H73) (eL eI 1) 1 [v54, v64] [r48, r58] := (Els.snoc (H := (up wa.heap.size H73)) (E := (eL eI 1)) (k := 1) (c := [v64]) (x := r58) (Els.snoc (H := (up wa.heap.size H73)) (E := (eL eI 1)) (k := 1) (c := [v54]) (x := r48) Els.nil rfl ⟨_, rfl, (h71.mono (up_mono i75))⟩) rfl ⟨_, rfl, h76⟩)
  refine FL.v (E.buildSlice (B2 rfl rfl) run80) ?_
  obtain ⟨H83, S84, i85, h86, nv87⟩ := S81.sealRowU (i := 0) (l' := []) rfl els82 (by decide) rfl
  obtain ⟨r88, hr89, hp⟩ := bnd hp
  refine FL.call rfl rfl rfl (E.call Tryz.call144 (A1 rfl)) (w_slices_Concat_int_int S84.sl v78 [r48, r58] (h86.mono upI) hr89) ?_
  rintro e w91 ⟨H90, v96, n97, cs98, rfl, r93, els99⟩
  refine ⟨_, rfl, ?_⟩
  obtain ⟨H94, r93, hU95⟩ := St.lendX i85 S81.sl r93
  have els99 := els99.mono (hU95.tr (up_le S81.size))
  have S92 := S81.join (l' := [.row 3 1 v96 n97 cs98, .row 44 1 v78 2 [v54, v64]]) r93 rfl
  obtain ⟨H100, S101, i102, h103, nv104⟩ := S92.sealRowU (i := 0) (l' := [.row 44 1 v78 2 [v54, v64]]) rfl els99 (by decide) rfl
  obtain ⟨r105, hr106, hp⟩ := bnd hp
  refine FL.call rfl rfl rfl (E.call Tryz.call143 (A1 rfl)) (w_impl_clause S101.sl v96 r88 (h103.mono upI) hr106) ?_
  rintro e w108 ⟨H107, v113, n114, cs115, rfl, r110, els116⟩
  refine ⟨_, rfl, ?_⟩
  obtain ⟨H111, r110, hU112⟩ := St.lendX i102 S92.sl r110
  have els116 := els116.mono (hU112.tr (up_le S92.size))
  have S109 := S92.join (l' := [.row 3 1 v113 n114 cs115, .row 3 1 v96 n97 cs98, .row 44 1 v78 2 [v54, v64]]) r110 rfl
  refine FL.v (E.extract (i := 0) rfl rfl) ?_
  refine FL.v (E.extract (i := 1) rfl rfl) ?_
  refine FL.v (E.assign (v := v113) rfl) ?_
  refine FL.v (E.assign (v := Value.bool r105.2) rfl) ?_
  refine FL.nil ?_
  refine FW.ret ?_
  obtain rfl := Option.some.inj hp
  exact ⟨.inr rfl, res2 rfl rfl rfl ⟨_, _, _, _, rfl, (S109.sel [0] (by decide) rfl), els116⟩⟩

@[reducible] def p_slices_Sort_int_int (H0 : GH) (w0 : World) (Ha : GH) (L : List MO) (v0 : Value) (n0 : Nat) (r : (List Int)) : Ending → World → Prop :=
 fun e w' => ∃ H' : GH, ∃ c0k : List Value, e = .returned (Value.tuple #[]) ∧ (St H0 w0 H' w' (.row 3 1 v0 n0 c0k :: L) ∧ Inc Ha H') ∧ Els (up w0.heap.size H') eI 1 c0k r
theorem w_slices_Sort_int_int {H0 Ha : GH} {w0 wa : World} {L : List MO} {v0 : Value} {n0 : Nat} {k0 : List Value} (S0 : St H0 w0 Ha wa (.row 3 1 v0 n0 k0 :: L)) (a0 : List Int) (p0 : Els (up w0.heap.size Ha) eI 1 k0 a0) {r : (List Int)} (hp : (PF.slices_Sort_int_int a0) = some r) :
  Calls Tryz.prog 81 #[v0] wa (p_slices_Sort_int_int H0 w0 Ha L v0 n0 r) := by
 refine (St.sortInts (l := .row 3 1 v0 n0 k0 :: L) (i := 0) S0 rfl p0 (fun p cap w => Any.slices_Sort_int_none Tryz.sint81 p cap w) (fun blk off cap zs w hH hb hs => Any.slices_Sort_int Tryz.sint81 blk off cap zs w hH hb hs) hp).mono ?_
 rintro e w' ⟨rfl, c', h1, h2⟩
 exact ⟨_, _, rfl, ⟨h1, Inc.rfl _⟩, h2⟩

@[reducible] def p_impl_analysis (Ha : GH) (wa : World) (r : ((List Int) × (List Int))) : Ending → World → Prop :=
 fun e w' => ∃ H' : GH, ∃ v0 : Value, ∃ n0 : Nat, ∃ c0 : List Value, ∃ v1 : Value, ∃ n1 : Nat, ∃ c1 : List Value, e = .returned (Value.tuple #[v0, v1]) ∧ St Ha wa H' w' [.row 3 1 v0 n0 c0, .row 3 1 v1 n1 c1] ∧ Els (up wa.heap.size H') eI 1 c0 r.1 ∧ Els (up wa.heap.size H') eI 1 c1 r.2
set_option maxHeartbeats 4000000 in
theorem w_impl_analysis {Ha : GH} {wa : World} (hs : Sl Ha wa) (a0 : Cnf) (v0_1 : Value) (p0_1 : RSl Ha (eL eI 1) 1 v0_1 a0.clauses) (v1 : Value) (a1 : List (List Int)) (p1 : RSl Ha (eL eI 1) 1 v1 a1) (a2 : Int) {r : ((List Int) × (List Int))} (hp : (PF.impl_analysis a0 a1 a2) = some r) :
  Calls Tryz.prog 54 #[Value.agg #[Value.int .i64 a0.vars, v0_1], v1, Value.int .i64 a2] wa (p_impl_analysis Ha wa r) := by
 unfold PF.impl_analysis at hp
 have S0 := St.init hs
 refine calls_go (N := 29) (args := [Value.agg #[Value.int .i64 a0.vars, v0_1], v1, Value.int .i64 a2]) Tryz.func54 rfl rfl rfl ?_
 refine FW.seq (FW.region ?_)
 obtain ⟨b21, w22, run23, S24⟩ := S0.box (P := Tryz.prog) 28 [Value.int .i64 a0.vars, v0_1] (v := Value.agg #[Value.int .i64 a0.vars, v0_1]) rfl (ones_cons rfl (ones_cons p0_1.one ones_nil))
 refine FL.v (E.box rfl run23) ?_
 obtain ⟨H25, S26, i27, at28⟩ := S24.sealBox (i := 0) (l' := []) rfl rfl
 refine FL.v (E.assign (v := Value.slice none 0 0) rfl) ?_
 refine FL.v (E.assign (v := Value.slice none 0 0) rfl) ?_
 refine FL.nil (FW.seq (FW.region ?_))
 have S33 := S26.nil 3 1
 have els34 : Els (up wa.heap.size H25) eI 1 [] [] := Els.nil
 obtain ⟨b29, w30, run31, S32⟩ := S33.alloc (P := Tryz.prog) 44 [Value.slice none 0 0] Tryz.zeroValue44 rfl (ones_cons rfl ones_nil)
 refine FL.v (E.alloc run31) ?_
 refine FL.nil (FW.seq (FW.region ?_))
 refine FL.v (E.load rfl (run_loadA Tryz.isAgg28 Tryz.sizeOf28 (at28.now S32.sl) rfl)) ?_
 refine FL.v (E.move (v := v1) rfl) ?_
 refine FL.v (E.move (v := Value.int .i64 a2) rfl) ?_
 refine FL.v (E.makeFunc A0 (A1 rfl)) ?_
 obtain ⟨s35, hq35, hp⟩ := bnd hp
 obtain ⟨R35, hR35⟩ : ∃ R35 : ((List Int) × Int × (List Int)) → Ending → World → Prop, R35 = (fun s35 e w => ∃ H : GH, ∃ v36 : Value, ∃ n37 : Nat, ∃ cs38 : List Value, ∃ v40 : Value, e = Ending.returned (Value.tuple #[v40, Value.int .i64 s35.2.1]) ∧ St Ha wa H w [.box b29 44 [v36], .row 3 1 v36 n37 cs38] ∧ Inc H25 H ∧ Els (up wa.heap.size H) eI 1 cs38 s35.1 ∧ RSl H eI 1 v40 s35.2.2) := ⟨_, rfl⟩
 have hc35 : Calls Tryz.prog 79 #[Value.agg #[Value.int .i64 a0.vars, v0_1], v1, Value.int .i64 a2, Value.func (.func 80) #[] #[Value.pointer (some (⟨b29, 0, none⟩ : Addr))]] w30 (R35 s35) := by
  clear hp; have hp := hq35; clear hq35
  refine calls_goM (N := 78) (args := [Value.agg #[Value.int .i64 a0.vars, v0_1], v1, Value.int .i64 a2, Value.func (.func 80) #[] #[Value.pointer (some (⟨b29, 0, none⟩ : Addr))]]) Tryz.func79 rfl rfl rfl ?_
  refine FT.seq ?_
  refine FW.region ?_
  obtain ⟨b42, w43, run45, S46⟩ := S32.box (P := Tryz.prog) 28 [Value.int .i64 a0.vars, v0_1] (v := Value.agg #[Value.int .i64 a0.vars, v0_1]) rfl (ones_cons rfl (ones_cons p0_1.one ones_nil))
  refine FL.v (E.box rfl run45) ?_
  obtain ⟨H47, S48, i49, at50⟩ := S46.sealBox (i := 0) (l' := [.box b29 44 [(Value.slice none 0 0)], .row 3 1 (Value.slice none 0 0) 0 []]) rfl rfl
  obtain ⟨b51, w52, run53, S54⟩ := S48.box (P := Tryz.prog) 109 [Value.func (.func 80) #[] #[Value.pointer (some (⟨b29, 0, none⟩ : Addr))]] (v := Value.func (.func 80) #[] #[Value.pointer (some (⟨b29, 0, none⟩ : Addr))]) rfl (ones_cons rfl ones_nil)
  refine FL.v (E.box rfl run53) ?_
  obtain ⟨H55, S56, i57, at58⟩ := S54.sealBox (i := 0) (l' := [.box b29 44 [(Value.slice none 0 0)], .row 3 1 (Value.slice none 0 0) 0 []]) rfl rfl
  refine FL.v (E.assign (v := Value.slice none 0 0) rfl) ?_
  refine FL.v (E.assign (v := Value.int .i64 0) rfl) ?_
  refine FL.nil ?_
  refine FT.seq ?_
  refine FW.region ?_
  refine FL.v (E.load rfl (run_loadA Tryz.isAgg28 Tryz.sizeOf28 ((at50.mono i57).now S56.sl) rfl)) ?_
  refine FL.v (E.move (v := v1) rfl) ?_
  refine FL.v (E.move (v := Value.int .i64 a2) rfl) ?_
  obtain ⟨r59, hr60, hp⟩ := bnd hp
  refine FL.call rfl rfl rfl (E.call Tryz.call114 (A3 rfl rfl rfl)) (w_impl_before S56.sl a0 v0_1 (p0_1.mono ((i27.tr i49).tr i57)) v1 a1 (p1.mono ((i27.tr i49).tr i57)) a2 hr60) ?_
  rintro e w62 ⟨H61, v65, n66, cs67, rfl, r64, els68⟩
  refine ⟨_, rfl, ?_⟩
  have S63 := S56.join (l' := [.row 44 1 v65 n66 cs67, .box b29 44 [(Value.slice none 0 0)], .row 3 1 (Value.slice none 0 0) 0 []]) r64 rfl
  have S73 := S63.nil 44 1
  have els74 : Els (up wa.heap.size H61) (eL eI 1) 1 [] [] := Els.nil
  obtain ⟨b69, w70, run71, S72⟩ := S73.alloc (P := Tryz.prog) 22 [Value.slice none 0 0] Tryz.zeroValue22 rfl (ones_cons rfl ones_nil)
  refine FL.v (E.alloc run71) ?_
  obtain ⟨w75, run76, S77⟩ := S72.store0 (P := Tryz.prog) (t := 22) (i := 0) (cs' := [v65]) (l' := [.box b69 22 [v65], .row 44 1 (Value.slice none 0 0) 0 [], .row 44 1 v65 n66 cs67, .box b29 44 [(Value.slice none 0 0)], .row 3 1 (Value.slice none 0 0) 0 []]) (v := v65) (c := [v65]) rfl Tryz.sizeOf22 (Ln.cells (S72.row_ln (i := 2) rfl)) rfl (ones_cons (Ln.one (S72.row_ln (i := 2) rfl)) ones_nil) (Nat.le_of_ble_eq_true rfl) rfl rfl
  refine FL.act rfl rfl (E.store rfl rfl run76) ?_
  refine FL.nil ?_
  refine FT.seq ?_
  refine FW.region ?_
  refine FL.v (E.load rfl (run_loadA Tryz.isAgg28 Tryz.sizeOf28 ((at50.mono (i57.tr r64.run.inc)).now S77.sl) rfl)) ?_
  refine FL.v (E.move (v := v1) rfl) ?_
  refine FL.v (E.move (v := Value.int .i64 a2) rfl) ?_
  obtain ⟨r78, hr79, hp⟩ := bnd hp
  refine FL.call rfl rfl rfl (E.call Tryz.call87 (A3 rfl rfl rfl)) (w_impl_trail S77.sl a0 v0_1 (p0_1.mono (((i27.tr i49).tr i57).tr r64.run.inc)) v1 a1 (p1.mono (((i27.tr i49).tr i57).tr r64.run.inc)) a2 hr79) ?_
  rintro e w81 ⟨H80, v84, n85, cs86, rfl, r83, els87⟩
  refine ⟨_, rfl, ?_⟩
  have els87 := els87.mono (up_le S77.size)
  have S82 := S77.join (l' := [.row 99 2 v84 n85 cs86, .box b69 22 [v65], .row 44 1 (Value.slice none 0 0) 0 [], .row 44 1 v65 n66 cs67, .box b29 44 [(Value.slice none 0 0)], .row 3 1 (Value.slice none 0 0) 0 []]) r83 rfl
  refine FL.v (E.move (v := Value.tuple #[v84, Value.int .i64 r78.2]) rfl) ?_
  refine FL.v (E.extract (i := 0) rfl rfl) ?_
  refine FL.v (E.extract (i := 1) rfl rfl) ?_
  refine FL.v (E.assign (v := v84) rfl) ?_
  refine FL.v (E.assign (v := Value.int .i64 r78.2) rfl) ?_
  refine FL.nil ?_
  refine FT.seq ?_
  refine FW.region ?_
  refine FL.v (E.load rfl (run_load0 Tryz.isAgg22 (S82.box_now (i := 1) rfl) rfl)) ?_
  refine FL.v (E.move (v := Value.int .i64 r78.2) rfl) ?_
  obtain ⟨x94, hx95, hp⟩ := bnd hp
  obtain ⟨p88, cs89, pt90, l91, at92, rel93⟩ := S82.row_at (i := 3) rfl els68 (by decide) hx95
  obtain ⟨v96, rfl, h97⟩ := eL_open rel93
  refine FL.v (E.indexAddr te22 rfl rfl pt90) ?_
  refine FL.v (E.load rfl (run_load0 Tryz.isAgg44 at92 rfl)) ?_
  have S102 := S82.nil 3 1
  have els103 : Els (up wa.heap.size H80) eI 1 [] [] := Els.nil
  obtain ⟨b98, w99, run100, S101⟩ := S102.alloc (P := Tryz.prog) 44 [Value.slice none 0 0] Tryz.zeroValue44 rfl (ones_cons rfl ones_nil)
  refine FL.v (E.alloc run100) ?_
  obtain ⟨w104, run105, S106⟩ := S101.store0 (P := Tryz.prog) (t := 44) (i := 0) (cs' := [v96]) (l' := [.box b98 44 [v96], .row 3 1 (Value.slice none 0 0) 0 [], .row 99 2 v84 n85 cs86, .box b69 22 [v65], .row 44 1 (Value.slice none 0 0) 0 [], .row 44 1 v65 n66 cs67, .box b29 44 [(Value.slice none 0 0)], .row 3 1 (Value.slice none 0 0) 0 []]) (v := v96) (c := [v96]) rfl Tryz.sizeOf44 h97.cells rfl (ones_cons h97.one ones_nil) (Nat.le_of_ble_eq_true rfl) rfl rfl
  refine FL.act rfl rfl (E.store rfl rfl run105) ?_
  refine FL.nil ?_
  refine FT.seqT ?_
  refine FT.seq ?_
  refine FW.region ?_
  refine FL.v (E.move (v := v84) rfl) ?_
  obtain ⟨H107, S108, i109, h110, nv111⟩ := S106.sealRowU (i := 2) (l' := [.box b98 44 [v96], .row 3 1 (Value.slice none 0 0) 0 [], .box b69 22 [v65], .row 44 1 (Value.slice none 0 0) 0 [], .row 44 1 v65 n66 cs67, .box b29 44 [(Value.slice none 0 0)], .row 3 1 (Value.slice none 0 0) 0 []]) rfl els87 (by decide) rfl
  refine FL.call rfl rfl rfl (E.call Tryz.call115 (A1 rfl)) (w_back115 S108.sl v84 r78.1 (h110.mono upI)) ?_
  rintro e w113 ⟨H112, b115, rfl, r116, at117⟩
  refine ⟨_, rfl, ?_⟩
  have S114 := S108.call r116
  refine FL.nil ?_
  obtain ⟨q118, hq, hp⟩ := bndR hp
  obtain ⟨L118, hL118, hA118⟩ := back_list (h110.mono (upI.tr r116.inc)) (fun cs => Value.agg cs.toArray)
  replace hq := forB_eq hq hL118
  refine FT.range (S := ((List Int) × (List Int))) (X := Empty) (Hs := H112) (L := L118) (pj := Prod.snd) rfl Tryz.call142 (w_iter142 at117 (h110.mono (upI.tr r116.inc)) L118 hL118 hA118) rfl (fun _ => rfl) (fun (T118 : List MO) (s118 : ((List Int) × (List Int))) (w : World) => ∃ H : GH, ∃ v119 : Value, ∃ n120 : Nat, ∃ cs121 : List Value, ∃ v123 : Value, St Ha wa H w (.box b98 44 [v123] :: .box b69 22 [v65] :: .row 44 1 v65 n66 cs67 :: .box b29 44 [v119] :: .row 3 1 v119 n120 cs121 :: T118) ∧ Inc H112 H ∧ Els (up wa.heap.size H) eI 1 cs121 s118.1 ∧ RSl H eI 1 v123 s118.2) (fun _ _ _ => False) (fun s118 T118 w ⟨H, v119, n120, cs121, v123, S, i0, f0, f1⟩ => ⟨H, [.box b98 44 [v123], .box b69 22 [v65], .row 44 1 v65 n66 cs67, .box b29 44 [v119], .row 3 1 v119 n120 cs121], S, i0, fun T2 w2 S2 => ⟨H, v119, n120, cs121, v123, S2, i0, f0, f1⟩⟩) (fun x => x.elim) ⟨_, _, _, _, _, (S114.sel [0, 2, 4, 5, 6] (by decide) rfl), (Inc.rfl _), (els34.mono (up_mono (((((i49.tr i57).tr r64.run.inc).tr r83.run.inc).tr i109).tr r116.inc))), (h97.mono ((r83.run.inc.tr i109).tr r116.inc))⟩ hq ?_ ?_ (fun _ x => x.elim)
  ·
   clear hp hq
   rintro l118 i118 T118 T118' ⟨u118, y118, j118⟩ s118 w128 o118 ha118 ⟨H125, v119, n120, cs121, v123, S126, i127, els122, h124⟩ hp
   replace hp : bd (PF.slices_Contains_int_int s118.2 (wr (-y118.1))) (fun r149 => (bif (!r149) then some (Lp.nx (s118.1, s118.2)) else (bif (decide (0 < y118.1)) then bd (ix r59 y118.2) (fun x165 => bd (PF.impl_resolve x165 s118.2 y118.1) (fun r170 => bd (β := _) (bd (app s118.1 [y118.2]) (fun xs211 => some xs211) : Option (List Int)) (fun s201 => some (Lp.nx (s201, r170.1))))) else bd (ix r59 y118.2) (fun x238 => bd (PF.impl_resolve s118.2 x238 (wr (-y118.1))) (fun r243 => bd (β := _) (bd (app s118.1 [y118.2]) (fun xs284 => some xs284) : Option (List Int)) (fun s274 => some (Lp.nx (s274, r243.1)))))))) = some o118 := hp
   obtain ⟨l132, _, cs131, _, _, _, rel129, hu130⟩ := hA118 i118 _ ha118
   replace rel129 : eI2.rel H112 cs131 y118 := rel129
   obtain rfl := eI2_open rel129
   replace hu130 : Value.agg #[Value.int .i64 y118.1, Value.int .i64 y118.2] = u118 := Eq.symm hu130
   subst hu130
   change FW (ρ := some l118) (δ := []) Tryz.prog 78 _ _ (upd (upd _ 35 (Value.int .i64 ((j118 : Nat) : Int))) 36 (Value.agg #[Value.int .i64 y118.1, Value.int .i64 y118.2])) _
   refine FW.region ?_
   obtain ⟨b133, w134, run135, S136⟩ := S126.alloc (P := Tryz.prog) 99 [Value.int .i64 0, Value.int .i64 0] Tryz.zeroValue99 rfl (ones_cons rfl (ones_cons rfl ones_nil))
   refine FL.v (E.alloc run135) ?_
   obtain ⟨w137, run138, S139⟩ := S136.store0 (P := Tryz.prog) (t := 99) (i := 0) (cs' := [Value.int .i64 y118.1, Value.int .i64 y118.2]) (l' := (.box b133 99 [Value.int .i64 y118.1, Value.int .i64 y118.2] :: .box b98 44 [v123] :: .box b69 22 [v65] :: .row 44 1 v65 n66 cs67 :: .box b29 44 [v119] :: .row 3 1 v119 n120 cs121 :: T118)) (v := Value.agg #[Value.int .i64 y118.1, Value.int .i64 y118.2]) (c := [Value.int .i64 y118.1, Value.int .i64 y118.2]) rfl Tryz.sizeOf99 rfl rfl (ones_cons rfl (ones_cons rfl ones_nil)) (Nat.le_of_ble_eq_true rfl) rfl rfl
   refine FL.act rfl rfl (E.store rfl rfl run138) ?_
   obtain ⟨H140, S141, i142, at143⟩ := S139.sealBox (i := 0) (l' := (.box b98 44 [v123] :: .box b69 22 [v65] :: .row 44 1 v65 n66 cs67 :: .box b29 44 [v119] :: .row 3 1 v119 n120 cs121 :: T118)) rfl rfl
   refine FL.nil ?_
   refine ⟨rfl, _, [.box b98 44 [v123], .box b69 22 [v65], .row 44 1 v65 n66 cs67, .box b29 44 [v119], .row 3 1 v119 n120 cs121], S141, ?_⟩
   intro w144 S145
   replace S145 : St Ha wa H140 w144 (.box b98 44 [v123] :: .box b69 22 [v65] :: .row 44 1 v65 n66 cs67 :: .box b29 44 [v119] :: .row 3 1 v119 n120 cs121 :: T118') := S145
   refine FW.block (FW.seq ?_)
   refine FW.drawR (fun w' => Run w144.heap.size H140 w144 H140 w') (by kernel_rfl) (by kernel_rfl) (by kernel_rfl) (run_drew S145.sl) ?_
   refine FD.val rfl rfl rfl (fun w' hw' => (E.indexArr (j := 0) (k := 1) (off := 0) Tryz.runUnderlying99 Tryz.sizeOf3 rfl rfl (by decide) rfl)) ?_
   refine FD.val rfl rfl rfl (fun w' hw' => (E.load rfl (run_load1 Tryz.isAgg3 (at143.now (S145.call hw').sl) rfl))) ?_
   refine FD.val rfl rfl rfl (fun w' hw' => (E.indexArr (j := 1) (k := 1) (off := 1) Tryz.runUnderlying99 Tryz.sizeOf3 rfl rfl (by decide) rfl)) ?_
   refine FD.val rfl rfl rfl (fun w' hw' => (E.load rfl (run_load1 Tryz.isAgg3 (at143.now (S145.call hw').sl) rfl))) ?_
   refine FD.val rfl rfl rfl (fun w' hw' => (E.assign (v := Value.int .i64 y118.1) rfl)) ?_
   refine FD.val rfl rfl rfl (fun w' hw' => (E.assign (v := Value.int .i64 y118.2) rfl)) ?_
   refine FD.nil ?_
   intro w146 r148
   have S147 := S145.call r148
   refine FW.seq (FW.block (FW.seq (FW.region ?_)))
   refine FL.v (E.load rfl (run_load0 Tryz.isAgg44 (S147.box_now (i := 0) rfl) rfl)) ?_
   refine FL.v (E.move (v := Value.int .i64 y118.1) rfl) ?_
   refine FL.v (E.neg rfl) ?_
   obtain ⟨r149, hr150, hp⟩ := bnd hp
   refine FL.call rfl rfl rfl (E.call Tryz.call116 (A2 rfl rfl)) (w_slices_Contains_int_int S147.sl v123 s118.2 (h124.mono i142) (wr (-y118.1)) hr150) ?_
   rintro e w151 ⟨rfl, r152⟩
   refine ⟨_, rfl, ?_⟩
   have S153 := S147.call r152
   refine FL.v (E.not rfl) ?_
   refine FL.v (E.assign (v := Value.bool (!r149)) rfl) ?_
   refine FL.nil ?_
   rcases ifB hp with ⟨c154, hp⟩ | ⟨c154, hp⟩
   ·
    refine FW.condT rfl c154 ?_
    refine FW.exit ?_
    obtain rfl := Option.some.inj hp
    exact ⟨rfl, ⟨_, _, _, _, _, S153, (i127.tr i142), (els122.mono (up_mono i142)), (h124.mono i142)⟩⟩
   ·
    refine FW.condF rfl c154 ?_
    refine FW.seq (FW.region ?_)
    refine FL.v (E.move (v := Value.int .i64 y118.1) rfl) ?_
    refine FL.v (E.gtr rfl rfl) ?_
    refine FL.v (E.assign (v := Value.bool (decide (0 < y118.1))) rfl) ?_
    refine FL.nil ?_
    rcases ifB hp with ⟨c155, hp⟩ | ⟨c155, hp⟩
    ·
     refine FW.condT rfl c155 ?_
     obtain ⟨x165, hx166, hp⟩ := bnd hp
     obtain ⟨r170, hr171, hp⟩ := bnd hp
     refine FW.drawRB (SX Ha wa H140 (.box b69 22 [v65] :: .row 44 1 v65 n66 cs67 :: T118')) (fun f w => ∃ H : GH, ∃ v188 : Value, St Ha wa H w (.box b98 44 [v188] :: .box b69 22 [v65] :: .row 44 1 v65 n66 cs67 :: .box b29 44 [v119] :: .row 3 1 v119 n120 cs121 :: T118') ∧ Inc H140 H ∧ RSl H eI 1 v188 r170.1 ∧ f 7 = Value.pointer (some ⟨b51, 0, none⟩) ∧ f 10 = Value.pointer (some (⟨b69, 0, none⟩ : Addr)) ∧ f 12 = Value.int .i64 r78.2 ∧ f 13 = Value.pointer (some (⟨b98, 0, none⟩ : Addr)) ∧ f 16 = Value.int .i64 y118.1 ∧ f 17 = Value.int .i64 y118.2) (by kernel_rfl) (by kernel_rfl) S153.sl ?_ ?_
     ·
      intro w156 r157
      have S158 := S153.call r157
      refine FB.phase [10] (fun w => WAt w (⟨b98, 0, none⟩ : Addr) [v123]) ?_
      refine FB.t (i := 0) (bs 11 1) rfl (SP.on (S158.box_now (i := 0) rfl) (SP.nil ⟨_, (S158.selT (a := [.box b98 44 [v123], .box b69 22 [v65], .row 44 1 v65 n66 cs67, .box b29 44 [v119], .row 3 1 v119 n120 cs121]) (l' := [.box b69 22 [v65], .row 44 1 v65 n66 cs67]) [1, 2] (by decide) rfl), (Inc.rfl _)⟩)) rfl (fun w' hw' => (E.load rfl (run_load0 Tryz.isAgg22 (SX.box_now hw' (i := 0) rfl) rfl))) ?_
      refine FB.t (i := 1) (bs 11 3) rfl (SP.on (S158.box_now (i := 0) rfl) (SP.nil ⟨_, (S158.selT (a := [.box b98 44 [v123], .box b69 22 [v65], .row 44 1 v65 n66 cs67, .box b29 44 [v119], .row 3 1 v119 n120 cs121]) (l' := [.box b69 22 [v65], .row 44 1 v65 n66 cs67]) [1, 2] (by decide) rfl), (Inc.rfl _)⟩)) rfl (fun w' hw' => (E.move (v := Value.int .i64 y118.2) rfl)) ?_
      obtain ⟨p159, cs160, pt161, l162, at163, rel164, hall167⟩ := S158.row_atA (i := 2) rfl els68 (by decide) hx166
      obtain ⟨v168, rfl, h169⟩ := eL_open rel164
      refine FB.t (i := 2) (bs 11 7) rfl (SP.on (S158.box_now (i := 0) rfl) (SP.nil ⟨_, (S158.selT (a := [.box b98 44 [v123], .box b69 22 [v65], .row 44 1 v65 n66 cs67, .box b29 44 [v119], .row 3 1 v119 n120 cs121]) (l' := [.box b69 22 [v65], .row 44 1 v65 n66 cs67]) [1, 2] (by decide) rfl), (Inc.rfl _)⟩)) rfl (fun w' hw' => (E.indexAddr te22 rfl rfl pt161)) ?_
      refine FB.t (i := 3) (bs 11 15) rfl (SP.on (S158.box_now (i := 0) rfl) (SP.nil ⟨_, (S158.selT (a := [.box b98 44 [v123], .box b69 22 [v65], .row 44 1 v65 n66 cs67, .box b29 44 [v119], .row 3 1 v119 n120 cs121]) (l' := [.box b69 22 [v65], .row 44 1 v65 n66 cs67]) [1, 2] (by decide) rfl), (Inc.rfl _)⟩)) rfl (fun w' hw' => (E.load rfl (run_load0 Tryz.isAgg44 (hw'.use fun _ st => hall167 _ _ _ 1 st rfl) rfl))) ?_
      refine FB.p (i := 4) (bs 11 31) 0 [6, 7, 8, 9, 10] rfl (SP.on (S158.box_now (i := 0) rfl) (SP.nil ⟨_, (S158.selT (a := [.box b98 44 [v123], .box b69 22 [v65], .row 44 1 v65 n66 cs67, .box b29 44 [v119], .row 3 1 v119 n120 cs121]) (l' := [.box b69 22 [v65], .row 44 1 v65 n66 cs67]) [1, 2] (by decide) rfl), (Inc.rfl _)⟩)) rfl rfl (fun w' hw' => (E.load rfl (run_load0 Tryz.isAgg44 hw' rfl))) ?_
      refine FB.t (i := 5) (bs 11 63) rfl (SP.on (S158.box_now (i := 0) rfl) (SP.nil ⟨_, (S158.selT (a := [.box b98 44 [v123], .box b69 22 [v65], .row 44 1 v65 n66 cs67, .box b29 44 [v119], .row 3 1 v119 n120 cs121]) (l' := [.box b69 22 [v65], .row 44 1 v65 n66 cs67]) [1, 2] (by decide) rfl), (Inc.rfl _)⟩)) rfl (fun w' hw' => (E.move (v := Value.int .i64 y118.1) rfl)) ?_
      refine FB.all1 (i := 6) (by kernel_rfl) ?_
      ·
       refine FC.call (l' := (bs 11 127)) rfl (by kernel_rfl) rfl rfl rfl (E.call Tryz.call117 (A3 rfl rfl rfl)) (w_impl_resolve S158.sl v168 x165 (h169.mono ((((r83.run.inc.tr i109).tr r116.inc).tr i127).tr i142)) v123 s118.2 (h124.mono i142) y118.1 hr171) ?_
       rintro e w173 ⟨H172, v176, n177, cs178, rfl, r175, els179⟩
       refine ⟨_, rfl, ?_⟩
       have els179 := els179.mono (up_le S158.size)
       have S174 := S158.join (l' := (.row 3 1 v176 n177 cs178 :: .box b98 44 [v123] :: .box b69 22 [v65] :: .row 44 1 v65 n66 cs67 :: .box b29 44 [v119] :: .row 3 1 v119 n120 cs121 :: T118')) r175 rfl
       refine ⟨(SP.on (S174.box_now (i := 1) rfl) (SP.nil ⟨_, (S174.selT (a := [.row 3 1 v176 n177 cs178, .box b98 44 [v123], .box b69 22 [v65], .row 44 1 v65 n66 cs67, .box b29 44 [v119], .row 3 1 v119 n120 cs121]) (l' := [.box b69 22 [v65], .row 44 1 v65 n66 cs67]) [2, 3] (by decide) rfl), r175.run.inc⟩)), ?_⟩
       refine FB.t (i := 7) (bs 11 255) rfl (SP.on (S174.box_now (i := 1) rfl) (SP.nil ⟨_, (S174.selT (a := [.row 3 1 v176 n177 cs178, .box b98 44 [v123], .box b69 22 [v65], .row 44 1 v65 n66 cs67, .box b29 44 [v119], .row 3 1 v119 n120 cs121]) (l' := [.box b69 22 [v65], .row 44 1 v65 n66 cs67]) [2, 3] (by decide) rfl), r175.run.inc⟩)) rfl (fun w' hw' => (E.move (v := Value.tuple #[v176, Value.bool r170.2]) rfl)) ?_
       refine FB.t (i := 8) (bs 11 511) rfl (SP.on (S174.box_now (i := 1) rfl) (SP.nil ⟨_, (S174.selT (a := [.row 3 1 v176 n177 cs178, .box b98 44 [v123], .box b69 22 [v65], .row 44 1 v65 n66 cs67, .box b29 44 [v119], .row 3 1 v119 n120 cs121]) (l' := [.box b69 22 [v65], .row 44 1 v65 n66 cs67]) [2, 3] (by decide) rfl), r175.run.inc⟩)) rfl (fun w' hw' => (E.extract (i := 0) rfl rfl)) ?_
       refine FB.t (i := 9) (bs 11 1023) rfl (SP.on (S174.box_now (i := 1) rfl) (SP.nil ⟨_, (S174.selT (a := [.row 3 1 v176 n177 cs178, .box b98 44 [v123], .box b69 22 [v65], .row 44 1 v65 n66 cs67, .box b29 44 [v119], .row 3 1 v119 n120 cs121]) (l' := [.box b69 22 [v65], .row 44 1 v65 n66 cs67]) [2, 3] (by decide) rfl), r175.run.inc⟩)) rfl (fun w' hw' => (E.extract (i := 1) rfl rfl)) ?_
       refine FB.all1 (i := 10) (by kernel_rfl) ?_
       ·
        obtain ⟨w180, run181, S182⟩ := S174.store0 (P := Tryz.prog) (t := 44) (i := 1) (cs' := [v176]) (l' := (.row 3 1 v176 n177 cs178 :: .box b98 44 [v176] :: .box b69 22 [v65] :: .row 44 1 v65 n66 cs67 :: .box b29 44 [v119] :: .row 3 1 v119 n120 cs121 :: T118')) (v := v176) (c := [v176]) rfl Tryz.sizeOf44 (Ln.cells (S174.row_ln (i := 0) rfl)) rfl (ones_cons (Ln.one (S174.row_ln (i := 0) rfl)) ones_nil) (Nat.le_of_ble_eq_true rfl) rfl rfl
        refine FC.act (l' := (bs 11 2047)) rfl (by kernel_rfl) rfl rfl (E.store rfl rfl run181) ?_
        refine ⟨(SP.o (SP.nil ⟨_, (S182.selT (a := [.row 3 1 v176 n177 cs178, .box b98 44 [v176], .box b69 22 [v65], .row 44 1 v65 n66 cs67, .box b29 44 [v119], .row 3 1 v119 n120 cs121]) (l' := [.box b69 22 [v65], .row 44 1 v65 n66 cs67]) [2, 3] (by decide) rfl), r175.run.inc⟩)), ?_⟩
        obtain ⟨H183, S184, i185, h186, nv187⟩ := S182.sealRowU (i := 0) (l' := (.box b98 44 [v176] :: .box b69 22 [v65] :: .row 44 1 v65 n66 cs67 :: .box b29 44 [v119] :: .row 3 1 v119 n120 cs121 :: T118')) rfl els179 (by decide) rfl
        exact FB.done (by kernel_rfl) ⟨_, _, S184, (r175.run.inc.tr i185), (h186.mono upI), rfl, rfl, rfl, rfl, rfl, rfl⟩
     ·
      rintro f194 w193 ⟨H190, v188, S191, i192, h189, k195, k196, k197, k198, k199, k200⟩
      refine FW.region ?_
      refine FL.v (E.load k195 (run_load0 Tryz.isAgg109 ((at58.mono ((((((r64.run.inc.tr r83.run.inc).tr i109).tr r116.inc).tr i127).tr i142).tr i192)).now S191.sl) rfl)) ?_
      refine FL.v (E.move k199) ?_
      refine FL.v (E.move k200) ?_
      refine FL.v (E.load k198 (run_load0 Tryz.isAgg44 (S191.box_now (i := 0) rfl) rfl)) ?_
      obtain ⟨s201, hq201, hp⟩ := bnd hp
      obtain ⟨R201, hR201⟩ : ∃ R201 : (List Int) → Ending → World → Prop, R201 = (fun s201 e w => ∃ H : GH, ∃ v202 : Value, ∃ n203 : Nat, ∃ cs204 : List Value, e = Ending.returned (Value.tuple #[]) ∧ St Ha wa H w (.box b98 44 [v188] :: .box b69 22 [v65] :: .row 44 1 v65 n66 cs67 :: .box b29 44 [v202] :: .row 3 1 v202 n203 cs204 :: T118') ∧ Inc H190 H ∧ Els (up wa.heap.size H) eI 1 cs204 s201) := ⟨_, rfl⟩
      have hc201 : Calls Tryz.prog 80 #[Value.int .i64 y118.1, Value.int .i64 y118.2, v188, Value.pointer (some (⟨b29, 0, none⟩ : Addr))] w193 (R201 s201) := by
       clear hp; have hp := hq201; clear hq201
       refine calls_go (N := 11) (args := [Value.int .i64 y118.1, Value.int .i64 y118.2, v188, Value.pointer (some (⟨b29, 0, none⟩ : Addr))]) Tryz.func80 rfl rfl rfl ?_
       refine FW.region ?_
       refine FL.v (E.load rfl (run_load0 Tryz.isAgg44 (S191.box_now (i := 3) rfl) rfl)) ?_
       refine FL.v (E.move (v := Value.int .i64 y118.2) rfl) ?_
       obtain ⟨v206, w207, run208, S209⟩ := S191.buildSlice (P := Tryz.prog) te44 [Value.int .i64 y118.2] (parts := #[(0, Value.int .i64 y118.2)]) (cells := [Value.int .i64 y118.2]) rfl (szs_cons rfl szs_nil) (fc_cons rfl fc_nil) (ones_cons rfl ones_nil) (Nat.le_of_ble_eq_true rfl)
       have els210 : Els (up wa.heap.size H190) eI 1 [Value.int .i64 y118.2] [y118.2] := (Els.snoc (H := (up wa.heap.size H190)) (E := eI) (k := 1) (c := [Value.int .i64 y118.2]) (x := y118.2) Els.nil rfl rfl)
       refine FL.v (E.buildSlice (B1 rfl) run208) ?_
       obtain ⟨xs211, hz212, hp⟩ := bnd hp
       obtain ⟨v213, w216, n214, cs215, run217, S218, els219, ce220⟩ := S209.appendO (P := Tryz.prog) te44 (i := 5) (j := 0) rfl (els122.mono (up_mono (i142.tr i192))) rfl els210 hz212
       have S218 : St Ha wa H190 w216 (.row 3 1 v206 1 [Value.int .i64 y118.2] :: .box b98 44 [v188] :: .box b69 22 [v65] :: .row 44 1 v65 n66 cs67 :: .box b29 44 [v119] :: .row 3 1 v213 n214 cs215 :: T118') := S218
       have S221 : St Ha wa H190 w216 (.box b98 44 [v188] :: .box b69 22 [v65] :: .row 44 1 v65 n66 cs67 :: .box b29 44 [v119] :: .row 3 1 v213 n214 cs215 :: T118') := S218.drop 0
       refine FL.v (E.append rfl rfl run217) ?_
       obtain ⟨w222, run223, S224⟩ := S221.store0 (P := Tryz.prog) (t := 44) (i := 3) (cs' := [v213]) (l' := (.box b98 44 [v188] :: .box b69 22 [v65] :: .row 44 1 v65 n66 cs67 :: .box b29 44 [v213] :: .row 3 1 v213 n214 cs215 :: T118')) (v := v213) (c := [v213]) rfl Tryz.sizeOf44 (Ln.cells (S221.row_ln (i := 4) rfl)) rfl (ones_cons (Ln.one (S221.row_ln (i := 4) rfl)) ones_nil) (Nat.le_of_ble_eq_true rfl) rfl rfl
       refine FL.act rfl rfl (E.store rfl rfl run223) ?_
       refine FL.nil ?_
       obtain rfl := Option.some.inj hp
       exact ⟨.inl rfl, res0 rfl (by rw [hR201]; exact ⟨_, _, _, _, rfl, S224, (Inc.rfl _), els219⟩)⟩
      clear hq201
      refine FL.call rfl rfl rfl (E.callV Tryz.call80 rfl (appA (A3 rfl rfl rfl) #[Value.pointer (some (⟨b29, 0, none⟩ : Addr))])) hc201 ?_
      intro e w228 hQ201
      rw [hR201] at hQ201
      obtain ⟨H225, v202, n203, cs204, rfl, S226, i227, els205⟩ := hQ201
      refine ⟨_, rfl, ?_⟩
      refine FL.nil ?_
      obtain rfl := Option.some.inj hp
      exact ⟨rfl, ⟨_, _, _, _, _, S226, (((i127.tr i142).tr i192).tr i227), els205, (h189.mono i227)⟩⟩
    ·
     refine FW.condF rfl c155 ?_
     obtain ⟨x238, hx239, hp⟩ := bnd hp
     obtain ⟨r243, hr244, hp⟩ := bnd hp
     refine FW.drawRB (SX Ha wa H140 (.box b69 22 [v65] :: .row 44 1 v65 n66 cs67 :: T118')) (fun f w => ∃ H : GH, ∃ v261 : Value, St Ha wa H w (.box b98 44 [v261] :: .box b69 22 [v65] :: .row 44 1 v65 n66 cs67 :: .box b29 44 [v119] :: .row 3 1 v119 n120 cs121 :: T118') ∧ Inc H140 H ∧ RSl H eI 1 v261 r243.1 ∧ f 7 = Value.pointer (some ⟨b51, 0, none⟩) ∧ f 10 = Value.pointer (some (⟨b69, 0, none⟩ : Addr)) ∧ f 12 = Value.int .i64 r78.2 ∧ f 13 = Value.pointer (some (⟨b98, 0, none⟩ : Addr)) ∧ f 16 = Value.int .i64 y118.1 ∧ f 17 = Value.int .i64 y118.2) (by kernel_rfl) (by kernel_rfl) S153.sl ?_ ?_
     ·
      intro w229 r230
      have S231 := S153.call r230
      refine FB.phase [11] (fun w => WAt w (⟨b98, 0, none⟩ : Addr) [v123]) ?_
      refine FB.p (i := 0) (bs 12 1) 0 [7, 8, 9, 10, 11] rfl (SP.on (S231.box_now (i := 0) rfl) (SP.nil ⟨_, (S231.selT (a := [.box b98 44 [v123], .box b69 22 [v65], .row 44 1 v65 n66 cs67, .box b29 44 [v119], .row 3 1 v119 n120 cs121]) (l' := [.box b69 22 [v65], .row 44 1 v65 n66 cs67]) [1, 2] (by decide) rfl), (Inc.rfl _)⟩)) rfl rfl (fun w' hw' => (E.load rfl (run_load0 Tryz.isAgg44 hw' rfl))) ?_
      refine FB.t (i := 1) (bs 12 3) rfl (SP.on (S231.box_now (i := 0) rfl) (SP.nil ⟨_, (S231.selT (a := [.box b98 44 [v123], .box b69 22 [v65], .row 44 1 v65 n66 cs67, .box b29 44 [v119], .row 3 1 v119 n120 cs121]) (l' := [.box b69 22 [v65], .row 44 1 v65 n66 cs67]) [1, 2] (by decide) rfl), (Inc.rfl _)⟩)) rfl (fun w' hw' => (E.load rfl (run_load0 Tryz.isAgg22 (SX.box_now hw' (i := 0) rfl) rfl))) ?_
      refine FB.t (i := 2) (bs 12 7) rfl (SP.on (S231.box_now (i := 0) rfl) (SP.nil ⟨_, (S231.selT (a := [.box b98 44 [v123], .box b69 22 [v65], .row 44 1 v65 n66 cs67, .box b29 44 [v119], .row 3 1 v119 n120 cs121]) (l' := [.box b69 22 [v65], .row 44 1 v65 n66 cs67]) [1, 2] (by decide) rfl), (Inc.rfl _)⟩)) rfl (fun w' hw' => (E.move (v := Value.int .i64 y118.2) rfl)) ?_
      obtain ⟨p232, cs233, pt234, l235, at236, rel237, hall240⟩ := S231.row_atA (i := 2) rfl els68 (by decide) hx239
      obtain ⟨v241, rfl, h242⟩ := eL_open rel237
      refine FB.t (i := 3) (bs 12 15) rfl (SP.on (S231.box_now (i := 0) rfl) (SP.nil ⟨_, (S231.selT (a := [.box b98 44 [v123], .box b69 22 [v65], .row 44 1 v65 n66 cs67, .box b29 44 [v119], .row 3 1 v119 n120 cs121]) (l' := [.box b69 22 [v65], .row 44 1 v65 n66 cs67]) [1, 2] (by decide) rfl), (Inc.rfl _)⟩)) rfl (fun w' hw' => (E.indexAddr te22 rfl rfl pt234)) ?_
      refine FB.t (i := 4) (bs 12 31) rfl (SP.on (S231.box_now (i := 0) rfl) (SP.nil ⟨_, (S231.selT (a := [.box b98 44 [v123], .box b69 22 [v65], .row 44 1 v65 n66 cs67, .box b29 44 [v119], .row 3 1 v119 n120 cs121]) (l' := [.box b69 22 [v65], .row 44 1 v65 n66 cs67]) [1, 2] (by decide) rfl), (Inc.rfl _)⟩)) rfl (fun w' hw' => (E.load rfl (run_load0 Tryz.isAgg44 (hw'.use fun _ st => hall240 _ _ _ 1 st rfl) rfl))) ?_
      refine FB.t (i := 5) (bs 12 63) rfl (SP.on (S231.box_now (i := 0) rfl) (SP.nil ⟨_, (S231.selT (a := [.box b98 44 [v123], .box b69 22 [v65], .row 44 1 v65 n66 cs67, .box b29 44 [v119], .row 3 1 v119 n120 cs121]) (l' := [.box b69 22 [v65], .row 44 1 v65 n66 cs67]) [1, 2] (by decide) rfl), (Inc.rfl _)⟩)) rfl (fun w' hw' => (E.move (v := Value.int .i64 y118.1) rfl)) ?_
      refine FB.t (i := 6) (bs 12 127) rfl (SP.on (S231.box_now (i := 0) rfl) (SP.nil ⟨_, (S231.selT (a := [.box b98 44 [v123], .box b69 22 [v65], .row 44 1 v65 n66 cs67, .box b29 44 [v119], .row 3 1 v119 n120 cs121]) (l' := [.box b69 22 [v65], .row 44 1 v65 n66 cs67]) [1, 2] (by decide) rfl), (Inc.rfl _)⟩)) rfl (fun w' hw' => (E.neg rfl)) ?_
      refine FB.all1 (i := 7) (by kernel_rfl) ?_
      ·
       refine FC.call (l' := (bs 12 255)) rfl (by kernel_rfl) rfl rfl rfl (E.call Tryz.call117 (A3 rfl rfl rfl)) (w_impl_resolve S231.sl v123 s118.2 (h124.mono i142) v241 x238 (h242.mono ((((r83.run.inc.tr i109).tr r116.inc).tr i127).tr i142)) (wr (-y118.1)) hr244) ?_
       rintro e w246 ⟨H245, v249, n250, cs251, rfl, r248, els252⟩
       refine ⟨_, rfl, ?_⟩
       have els252 := els252.mono (up_le S231.size)
       have S247 := S231.join (l' := (.row 3 1 v249 n250 cs251 :: .box b98 44 [v123] :: .box b69 22 [v65] :: .row 44 1 v65 n66 cs67 :: .box b29 44 [v119] :: .row 3 1 v119 n120 cs121 :: T118')) r248 rfl
       refine ⟨(SP.on (S247.box_now (i := 1) rfl) (SP.nil ⟨_, (S247.selT (a := [.row 3 1 v249 n250 cs251, .box b98 44 [v123], .box b69 22 [v65], .row 44 1 v65 n66 cs67, .box b29 44 [v119], .row 3 1 v119 n120 cs121]) (l' := [.box b69 22 [v65], .row 44 1 v65 n66 cs67]) [2, 3] (by decide) rfl), r248.run.inc⟩)), ?_⟩
       refine FB.t (i := 8) (bs 12 511) rfl (SP.on (S247.box_now (i := 1) rfl) (SP.nil ⟨_, (S247.selT (a := [.row 3 1 v249 n250 cs251, .box b98 44 [v123], .box b69 22 [v65], .row 44 1 v65 n66 cs67, .box b29 44 [v119], .row 3 1 v119 n120 cs121]) (l' := [.box b69 22 [v65], .row 44 1 v65 n66 cs67]) [2, 3] (by decide) rfl), r248.run.inc⟩)) rfl (fun w' hw' => (E.move (v := Value.tuple #[v249, Value.bool r243.2]) rfl)) ?_
       refine FB.t (i := 9) (bs 12 1023) rfl (SP.on (S247.box_now (i := 1) rfl) (SP.nil ⟨_, (S247.selT (a := [.row 3 1 v249 n250 cs251, .box b98 44 [v123], .box b69 22 [v65], .row 44 1 v65 n66 cs67, .box b29 44 [v119], .row 3 1 v119 n120 cs121]) (l' := [.box b69 22 [v65], .row 44 1 v65 n66 cs67]) [2, 3] (by decide) rfl), r248.run.inc⟩)) rfl (fun w' hw' => (E.extract (i := 0) rfl rfl)) ?_
       refine FB.t (i := 10) (bs 12 2047) rfl (SP.on (S247.box_now (i := 1) rfl) (SP.nil ⟨_, (S247.selT (a := [.row 3 1 v249 n250 cs251, .box b98 44 [v123], .box b69 22 [v65], .row 44 1 v65 n66 cs67, .box b29 44 [v119], .row 3 1 v119 n120 cs121]) (l' := [.box b69 22 [v65], .row 44 1 v65 n66 cs67]) [2, 3] (by decide) rfl), r248.run.inc⟩)) rfl (fun w' hw' => (E.extract (i := 1) rfl rfl)) ?_
       refine FB.all1 (i := 11) (by kernel_rfl) ?_
       ·
        obtain ⟨w253, run254, S255⟩ := S247.store0 (P := Tryz.prog) (t := 44) (i := 1) (cs' := [v249]) (l' := (.row 3 1 v249 n250 cs251 :: .box b98 44 [v249] :: .box b69 22 [v65] :: .row 44 1 v65 n66 cs67 :: .box b29 44 [v119] :: .row 3 1 v119 n120 cs121 :: T118')) (v := v249) (c := [v249]) rfl Tryz.sizeOf44 (Ln.cells (S247.row_ln (i := 0) rfl)) rfl (ones_cons (Ln.one (S247.row_ln (i := 0) rfl)) ones_nil) (Nat.le_of_ble_eq_true rfl) rfl rfl
        refine FC.act (l' := (bs 12 4095)) rfl (by kernel_rfl) rfl rfl (E.store rfl rfl run254) ?_
        refine ⟨(SP.o (SP.nil ⟨_, (S255.selT (a := [.row 3 1 v249 n250 cs251, .box b98 44 [v249], .box b69 22 [v65], .row 44 1 v65 n66 cs67, .box b29 44 [v119], .row 3 1 v119 n120 cs121]) (l' := [.box b69 22 [v65], .row 44 1 v65 n66 cs67]) [2, 3] (by decide) rfl), r248.run.inc⟩)), ?_⟩
        obtain ⟨H256, S257, i258, h259, nv260⟩ := S255.sealRowU (i := 0) (l' := (.box b98 44 [v249] :: .box b69 22 [v65] :: .row 44 1 v65 n66 cs67 :: .box b29 44 [v119] :: .row 3 1 v119 n120 cs121 :: T118')) rfl els252 (by decide) rfl
        exact FB.done (by kernel_rfl) ⟨_, _, S257, (r248.run.inc.tr i258), (h259.mono upI), rfl, rfl, rfl, rfl, rfl, rfl⟩
     ·
      rintro f267 w266 ⟨H263, v261, S264, i265, h262, k268, k269, k270, k271, k272, k273⟩
      refine FW.region ?_
      refine FL.v (E.load k268 (run_load0 Tryz.isAgg109 ((at58.mono ((((((r64.run.inc.tr r83.run.inc).tr i109).tr r116.inc).tr i127).tr i142).tr i265)).now S264.sl) rfl)) ?_
      refine FL.v (E.move k272) ?_
      refine FL.v (E.move k273) ?_
      refine FL.v (E.load k271 (run_load0 Tryz.isAgg44 (S264.box_now (i := 0) rfl) rfl)) ?_
      obtain ⟨s274, hq274, hp⟩ := bnd hp
      obtain ⟨R274, hR274⟩ : ∃ R274 : (List Int) → Ending → World → Prop, R274 = (fun s274 e w => ∃ H : GH, ∃ v275 : Value, ∃ n276 : Nat, ∃ cs277 : List Value, e = Ending.returned (Value.tuple #[]) ∧ St Ha wa H w (.box b98 44 [v261] :: .box b69 22 [v65] :: .row 44 1 v65 n66 cs67 :: .box b29 44 [v275] :: .row 3 1 v275 n276 cs277 :: T118') ∧ Inc H263 H ∧ Els (up wa.heap.size H) eI 1 cs277 s274) := ⟨_, rfl⟩
      have hc274 : Calls Tryz.prog 80 #[Value.int .i64 y118.1, Value.int .i64 y118.2, v261, Value.pointer (some (⟨b29, 0, none⟩ : Addr))] w266 (R274 s274) := by
       clear hp; have hp := hq274; clear hq274
       refine calls_go (N := 11) (args := [Value.int .i64 y118.1, Value.int .i64 y118.2, v261, Value.pointer (some (⟨b29, 0, none⟩ : Addr))]) Tryz.func80 rfl rfl rfl ?_
       refine FW.region ?_
       refine FL.v (E.load rfl (run_load0 Tryz.isAgg44 (S264.box_now (i := 3) rfl) rfl)) ?_
       refine FL.v (E.move (v := Value.int .i64 y118.2) rfl) ?_
       obtain ⟨v279, w280, run281, S282⟩ := S264.buildSlice (P := Tryz.prog) te44 [Value.int .i64 y118.2] (parts := #[(0, Value.int .i64 y118.2)]) (cells := [Value.int .i64 y118.2]) rfl (szs_cons rfl szs_nil) (fc_cons rfl fc_nil) (ones_cons rfl ones_nil) (Nat.le_of_ble_eq_true rfl)
       have els283 : Els (up wa.heap.size H263) eI 1 [Value.int .i64 y118.2] [y118.2] := (Els.snoc (H := (up wa.heap.size H263)) (E := eI) (k := 1) (c := [Value.int .i64 y118.2]) (x := y118.2) Els.nil rfl rfl)
       refine FL.v (E.buildSlice (B1 rfl) run281) ?_
       obtain ⟨xs284, hz285, hp⟩ := bnd hp
       obtain ⟨v286, w289, n287, cs288, run290, S291, els292, ce293⟩ := S282.appendO (P := Tryz.prog) te44 (i := 5) (j := 0) rfl (els122.mono (up_mono (i142.tr i265))) rfl els283 hz285
       have S291 : St Ha wa H263 w289 (.row 3 1 v279 1 [Value.int .i64 y118.2] :: .box b98 44 [v261] :: .box b69 22 [v65] :: .row 44 1 v65 n66 cs67 :: .box b29 44 [v119] :: .row 3 1 v286 n287 cs288 :: T118') := S291
       have S294 : St Ha wa H263 w289 (.box b98 44 [v261] :: .box b69 22 [v65] :: .row 44 1 v65 n66 cs67 :: .box b29 44 [v119] :: .row 3 1 v286 n287 cs288 :: T118') := S291.drop 0
       refine FL.v (E.append rfl rfl run290) ?_
       obtain ⟨w295, run296, S297⟩ := S294.store0 (P := Tryz.prog) (t := 44) (i := 3) (cs' := [v286]) (l' := (.box b98 44 [v261] :: .box b69 22 [v65] :: .row 44 1 v65 n66 cs67 :: .box b29 44 [v286] :: .row 3 1 v286 n287 cs288 :: T118')) (v := v286) (c := [v286]) rfl Tryz.sizeOf44 (Ln.cells (S294.row_ln (i := 4) rfl)) rfl (ones_cons (Ln.one (S294.row_ln (i := 4) rfl)) ones_nil) (Nat.le_of_ble_eq_true rfl) rfl rfl
       refine FL.act rfl rfl (E.store rfl rfl run296) ?_
       refine FL.nil ?_
       obtain rfl := Option.some.inj hp
       exact ⟨.inl rfl, res0 rfl (by rw [hR274]; exact ⟨_, _, _, _, rfl, S297, (Inc.rfl _), els292⟩)⟩
      clear hq274
      refine FL.call rfl rfl rfl (E.callV Tryz.call80 rfl (appA (A3 rfl rfl rfl) #[Value.pointer (some (⟨b29, 0, none⟩ : Addr))])) hc274 ?_
      intro e w301 hQ274
      rw [hR274] at hQ274
      obtain ⟨H298, v275, n276, cs277, rfl, S299, i300, els278⟩ := hQ274
      refine ⟨_, rfl, ?_⟩
      refine FL.nil ?_
      obtain rfl := Option.some.inj hp
      exact ⟨rfl, ⟨_, _, _, _, _, S299, (((i127.tr i142).tr i265).tr i300), els278, (h262.mono i300)⟩⟩
  ·
   clear hq
   rintro D118 s118 rfl w305 ⟨H302, v119, n120, cs121, v123, S303, i304, els122, h124⟩
   replace hp := el_go hp
   refine FT.then_ ?_
   refine FT.seq ?_
   refine FW.region ?_
   refine FL.v (E.load rfl (run_load0 Tryz.isAgg44 (S303.box_now (i := 0) rfl) rfl)) ?_
   refine FL.v (E.move (v := Value.int .i64 r78.2) rfl) ?_
   refine FL.v (E.assign (v := v123) rfl) ?_
   refine FL.v (E.assign (v := Value.int .i64 r78.2) rfl) ?_
   refine FL.nil ?_
   refine FT.last ?_
   refine FW.ret ?_
   have hD306 := St.shutAt (l := [.box b98 44 [v123], .box b69 22 [v65], .row 44 1 v65 n66 cs67, .box b29 44 [v119], .row 3 1 v119 n120 cs121]) S303
   have S307 := St.shut (l := [.box b98 44 [v123], .box b69 22 [v65], .row 44 1 v65 n66 cs67, .box b29 44 [v119], .row 3 1 v119 n120 cs121]) S303 (.deferred none)
   obtain rfl := Option.some.inj hp
   exact ends1 hD306 (res2 rfl rfl rfl (by rw [hR35]; exact ⟨_, _, _, _, _, rfl, (S307.sel [3, 4] (by decide) rfl), ((((((i49.tr i57).tr r64.run.inc).tr r83.run.inc).tr i109).tr r116.inc).tr i304), els122, h124⟩)) (.inr rfl)
 clear hq35
 refine FL.call rfl rfl rfl (E.call Tryz.call79 (A4 rfl rfl rfl rfl)) hc35 ?_
 intro e w311 hQ35
 rw [hR35] at hQ35
 obtain ⟨H308, v36, n37, cs38, v40, rfl, S309, i310, els39, h41⟩ := hQ35
 refine ⟨_, rfl, ?_⟩
 refine FL.v (E.move (v := Value.tuple #[v40, Value.int .i64 s35.2.1]) rfl) ?_
 refine FL.v (E.extract (i := 0) rfl rfl) ?_
 refine FL.v (E.extract (i := 1) rfl rfl) ?_
 refine FL.v (E.assign (v := v40) rfl) ?_
 refine FL.v (E.assign (v := Value.int .i64 s35.2.1) rfl) ?_
 refine FL.nil (FW.seq (FW.region ?_))
 refine FL.v (E.load rfl (run_load0 Tryz.isAgg44 (S309.box_now (i := 0) rfl) rfl)) ?_
 refine FL.v (E.move (v := Value.int .i64 s35.2.1) rfl) ?_
 obtain ⟨v312, w313, run314, S315⟩ := S309.buildSlice (P := Tryz.prog) te44 [Value.int .i64 s35.2.1] (parts := #[(0, Value.int .i64 s35.2.1)]) (cells := [Value.int .i64 s35.2.1]) rfl (szs_cons rfl szs_nil) (fc_cons rfl fc_nil) (ones_cons rfl ones_nil) (Nat.le_of_ble_eq_true rfl)
 have els316 : Els (up wa.heap.size H308) eI 1 [Value.int .i64 s35.2.1] [s35.2.1] := (Els.snoc (H := (up wa.heap.size H308)) (E := eI) (k := 1) (c := [Value.int .i64 s35.2.1]) (x := s35.2.1) Els.nil rfl rfl)
 refine FL.v (E.buildSlice (B1 rfl) run314) ?_
 obtain ⟨xs317, hz318, hp⟩ := bnd hp
 obtain ⟨v319, w322, n320, cs321, run323, S324, els325, ce326⟩ := S315.appendO (P := Tryz.prog) te44 (i := 2) (j := 0) rfl els39 rfl els316 hz318
 have S324 : St Ha wa H308 w322 [.row 3 1 v312 1 [Value.int .i64 s35.2.1], .box b29 44 [v36], .row 3 1 v319 n320 cs321] := S324
 have S327 : St Ha wa H308 w322 [.box b29 44 [v36], .row 3 1 v319 n320 cs321] := S324.drop 0
 refine FL.v (E.append rfl rfl run323) ?_
 obtain ⟨w328, run329, S330⟩ := S327.store0 (P := Tryz.prog) (t := 44) (i := 0) (cs' := [v319]) (l' := [.box b29 44 [v319], .row 3 1 v319 n320 cs321]) (v := v319) (c := [v319]) rfl Tryz.sizeOf44 (Ln.cells (S327.row_ln (i := 1) rfl)) rfl (ones_cons (Ln.one (S327.row_ln (i := 1) rfl)) ones_nil) (Nat.le_of_ble_eq_true rfl) rfl rfl
 refine FL.act rfl rfl (E.store rfl rfl run329) ?_
 refine FL.nil (FW.seq (FW.region ?_))
 refine FL.v (E.load rfl (run_load0 Tryz.isAgg44 (S330.box_now (i := 0) rfl) rfl)) ?_
 obtain ⟨r331, hr332, hp⟩ := bnd hp
 have S333 : St Ha wa H308 w328 [.row 3 1 v319 n320 cs321, .box b29 44 [v319]] := S330.front 1 rfl rfl
 refine FL.call rfl rfl rfl (E.call Tryz.call81 (A1 rfl)) (w_slices_Sort_int_int (L := [.box b29 44 [v319]]) S333 xs317 els325 hr332) ?_
 rintro e w335 ⟨H334, cs338, rfl, ⟨S336, i337⟩, els339⟩
 refine ⟨_, rfl, ?_⟩
 have S336 : St Ha wa H334 w335 [.row 3 1 v319 n320 cs338, .box b29 44 [v319]] := S336
 refine FL.nil (FW.seq ?_)
 obtain ⟨r343, hr344, hp⟩ := bnd hp
 obtain ⟨r353, hr354, hp⟩ := bnd hp
 refine FW.drawB (SX Ha wa H334 [.box b29 44 [v319]]) (fun f w => ∃ H : GH, ∃ v364 : Value, ∃ n365 : Nat, ∃ cs366 : List Value, ∃ v368 : Value, ∃ n369 : Nat, ∃ cs370 : List Value, St Ha wa H w [.row 3 1 v364 n365 cs366, .row 3 1 v368 n369 cs370] ∧ Inc H334 H ∧ Els (up wa.heap.size H) eI 1 cs366 r353 ∧ Els (up wa.heap.size H) eI 1 cs370 r343 ∧ f 6 = v368 ∧ f 7 = v364) (by kernel_rfl) S336.sl ?_ ?_
 ·
  intro w340 r341
  have S342 := S336.call r341
  refine FB.t (i := 0) (bs 6 1) rfl (SP.nil ⟨_, (S342.sel [1] (by decide) rfl), (Inc.rfl _)⟩) rfl (fun w' hw' => (E.move (v := v40) rfl)) ?_
  refine FB.t (i := 2) (bs 6 5) rfl (SP.nil ⟨_, (S342.sel [1] (by decide) rfl), (Inc.rfl _)⟩) rfl (fun w' hw' => (E.load rfl (run_load0 Tryz.isAgg44 (SX.box_now hw' (i := 0) rfl) rfl))) ?_
  refine FB.all1 (i := 1) (by kernel_rfl) ?_
  ·
   refine FC.call (l' := (bs 6 7)) rfl (by kernel_rfl) rfl rfl rfl (E.call Tryz.call56 (A1 rfl)) (w_slices_Clone_int_int S342.sl v40 s35.2.2 (h41.mono i337) hr344) ?_
   rintro e w346 ⟨H345, v349, n350, cs351, rfl, r348, els352⟩
   refine ⟨_, rfl, ?_⟩
   have els352 := els352.mono (up_le S342.size)
   have S347 := S342.join (l' := [.row 3 1 v349 n350 cs351, .row 3 1 v319 n320 cs338, .box b29 44 [v319]]) r348 rfl
   refine ⟨(SP.nil ⟨_, (S347.sel [2] (by decide) rfl), r348.run.inc⟩), ?_⟩
   refine FB.all1 (i := 3) (by kernel_rfl) ?_
   ·
    have S355 : St Ha wa H345 w346 [.row 3 1 v319 n320 cs338, .row 3 1 v349 n350 cs351, .box b29 44 [v319]] := S347.front 1 rfl rfl
    refine FC.call (l' := (bs 6 15)) rfl (by kernel_rfl) rfl rfl rfl (E.call Tryz.call82 (A1 rfl)) (w_slices_Compact_int_int (L := [.row 3 1 v349 n350 cs351, .box b29 44 [v319]]) S355 r331 (els339.mono (up_mono r348.run.inc)) hr354) ?_
    rintro e w357 ⟨H356, v360, n361, cs362, rfl, ⟨S358, i359⟩, els363⟩
    refine ⟨_, rfl, ?_⟩
    have S358 : St Ha wa H356 w357 [.row 3 1 v360 n361 cs362, .row 3 1 v349 n350 cs351, .box b29 44 [v319]] := S358
    refine ⟨(SP.nil ⟨_, (S358.sel [2] (by decide) rfl), (r348.run.inc.tr i359)⟩), ?_⟩
    refine FB.t (i := 4) (bs 6 31) rfl (SP.nil ⟨_, (S358.sel [2] (by decide) rfl), (r348.run.inc.tr i359)⟩) rfl (fun w' hw' => (E.assign (v := v349) rfl)) ?_
    refine FB.t (i := 5) (bs 6 63) rfl (SP.nil ⟨_, (S358.sel [2] (by decide) rfl), (r348.run.inc.tr i359)⟩) rfl (fun w' hw' => (E.assign (v := v360) rfl)) ?_
    exact FB.done (by kernel_rfl) ⟨_, _, _, _, _, _, _, (S358.sel [0, 1] (by decide) rfl), (r348.run.inc.tr i359), els363, (els352.mono (up_mono i359)), rfl, rfl⟩
 ·
  rintro f376 w375 ⟨H372, v364, n365, cs366, v368, n369, cs370, S373, i374, els367, els371, k377, k378⟩
  refine FW.ret ?_
  obtain rfl := Option.some.inj hp
  exact ⟨.inr rfl, res2 rfl k377 k378 ⟨_, _, _, _, _, _, _, rfl, (S373.sel [1, 0] (by decide) rfl), els371, els367⟩⟩

@[reducible] def p_slices_Reverse_LLint_Lint (H0 : GH) (w0 : World) (Ha : GH) (L : List MO) (v0 : Value) (n0 : Nat) (r : (List (List Int))) : Ending → World → Prop :=
 fun e w' => ∃ H' : GH, ∃ c0k : List Value, e = .returned (Value.tuple #[]) ∧ (St H0 w0 H' w' (.row 44 1 v0 n0 c0k :: L) ∧ Inc Ha H') ∧ Els (up w0.heap.size H') (eL eI 1) 1 c0k r ∧ (bl c0k).Nodup
theorem w_slices_Reverse_LLint_Lint {H0 Ha : GH} {w0 wa : World} {L : List MO} {v0 : Value} {n0 : Nat} {k0 : List Value} (S0 : St H0 w0 Ha wa (.row 44 1 v0 n0 k0 :: L)) (a0 : List (List Int)) (p0 : Els (up w0.heap.size Ha) (eL eI 1) 1 k0 a0) (d0 : (bl k0).Nodup) {r : (List (List Int))} (hp : (PF.slices_Reverse_LLint_Lint a0) = some r) :
  Calls Tryz.prog 57 #[v0] wa (p_slices_Reverse_LLint_Lint H0 w0 Ha L v0 n0 r) := by
 cases hp
 refine (St.reverseF (l := .row 44 1 v0 n0 k0 :: L) (i := 0) S0 rfl p0 (fun p cap w => AnyE.slices_Reverse_empty Tryz.rev57 p cap w) (fun α _ enc h1 blk off cap zs w hH hs => AnyE.slices_Reverse Tryz.rev57 enc h1 blk off cap zs w hH hs)).mono ?_
 rintro e w' ⟨rfl, c', h1, h2, rfl⟩
 exact ⟨_, _, rfl, ⟨h1, Inc.rfl _⟩, h2, nd_reverse d0⟩

@[reducible] def p_impl_TrimLearned (Ha : GH) (wa : World) (r : ((List (List Int)) × Bool)) : Ending → World → Prop :=
  fun e w' => ∃ H' : GH, ∃ v0 : Value, ∃ n0 : Nat, ∃ c0 : List Value, e = .returned (Value.tuple #[v0, Value.bool r.2]) ∧ St Ha wa H' w' [.row 44 1 v0 n0 c0] ∧ Els (up wa.heap.size H') (eL eI 1) 1 c0 r.1 ∧ (bl c0).Nodup
set_option maxHeartbeats 4000000 in
theorem w_impl_TrimLearned {Ha : GH} {wa : World} (hs : Sl Ha wa) (a0 : Cnf) (v0_1 : Value) (p0_1 : RSl Ha (eL eI 1) 1 v0_1 a0.clauses) (v1 : Value) (a1 : List (List Int)) (p1 : RSl Ha (eL eI 1) 1 v1 a1) {r : ((List (List Int)) × Bool)} (hp : (PF.impl_TrimLearned a0 a1) = some r) :
    Calls Tryz.prog 30 #[Value.agg #[Value.int .i64 a0.vars, v0_1], v1] wa (p_impl_TrimLearned Ha wa r) := by
  unfold PF.impl_TrimLearned at hp
  have S0 := St.init hs
  refine calls_goM (N := 74) (args := [Value.agg #[Value.int .i64 a0.vars, v0_1], v1]) Tryz.func30 rfl rfl rfl ?_
  refine FT.seq ?_
  refine FW.region ?_
  obtain ⟨b21, w22, run23, S24⟩ := S0.box (P := Tryz.prog) 28 [Value.int .i64 a0.vars, v0_1] (v := Value.agg #[Value.int .i64 a0.vars, v0_1]) rfl (ones_cons rfl (ones_cons p0_1.one ones_nil))
  refine FL.v (E.box rfl run23) ?_
  obtain ⟨H25, S26, i27, at28⟩ := S24.sealBox (i := 0) (l' := []) rfl rfl
  obtain ⟨b29, w30, run31, S32⟩ := S26.box (P := Tryz.prog) 22 [v1] (v := v1) p1.cells (ones_cons p1.one ones_nil)
  refine FL.v (E.box rfl run31) ?_
  obtain ⟨H33, S34, i35, at36⟩ := S32.sealBox (i := 0) (l' := []) rfl rfl
  refine FL.v (E.assign (v := Value.slice none 0 0) rfl) ?_
  refine FL.v (E.assign (v := Value.bool false) rfl) ?_
  refine FL.nil ?_
  refine FT.seq ?_
  refine FW.seq (FW.region ?_)
  refine FL.v (E.load rfl (run_loadA Tryz.isAgg28 Tryz.sizeOf28 ((at28.mono i35).now S34.sl) rfl)) ?_
  refine FL.v (E.load rfl (run_load0 Tryz.isAgg22 (at36.now S34.sl) rfl)) ?_
  obtain ⟨r37, hr38, hp⟩ := bnd hp
  refine FL.call rfl rfl rfl (E.call Tryz.call52 (A2 rfl rfl)) (w_impl_learned S34.sl a0 v0_1 (p0_1.mono (i27.tr i35)) v1 a1 (p1.mono (i27.tr i35)) hr38) ?_
  rintro e w39 ⟨rfl, r40⟩
  refine ⟨_, rfl, ?_⟩
  have S41 := S34.call r40
  refine FL.v (E.not rfl) ?_
  refine FL.v (E.move (v := Value.bool (!r37)) rfl) ?_
  refine FL.cut 4 (fun f w => ∃ H : GH, St Ha wa H w [] ∧ Inc H33 H ∧ f 2 = Value.pointer (some ⟨b21, 0, none⟩) ∧ f 3 = Value.pointer (some ⟨b29, 0, none⟩) ∧ f 22 = Value.bool (bif (!r37) then true else ((len a1) == 0))) ?_ ?_
  ·
    rcases bcase (!r37) with c48 | c48
    ·
      refine FL.skip (wF_no rfl rfl rfl c48) rfl ?_
      refine FL.skip (wF_no rfl rfl rfl c48) rfl ?_
      refine FL.skip (wF_no rfl rfl rfl c48) rfl ?_
      refine FL.v (E.pickT rfl c48 rfl) ?_
      exact FL.nil ⟨rfl, _, S41, (Inc.rfl _), rfl, rfl, (congrArg Value.bool (bifT c48).symm)⟩
    ·
      refine FL.val (wF_yes rfl rfl rfl c48) rfl rfl (E.load rfl (run_load0 Tryz.isAgg22 (at36.now S41.sl) rfl)) ?_
      refine FL.val (wF_yes rfl rfl rfl c48) rfl rfl (E.lenP te22 rfl p1) ?_
      refine FL.val (wF_yes rfl rfl rfl c48) rfl rfl (E.eql rfl rfl) ?_
      refine FL.v (E.pickF rfl c48 rfl) ?_
      exact FL.nil ⟨rfl, _, S41, (Inc.rfl _), rfl, rfl, (congrArg Value.bool (bifF c48).symm)⟩
  rintro f47 w46 ⟨H43, S44, i45, k49, k50, k51⟩
  refine FL.nil ?_
  rcases ifB hp with ⟨c52, hp⟩ | ⟨c52, hp⟩
  ·
    refine FW.condT k51 c52 ?_
    refine FW.seq (FW.region ?_)
    refine FL.v (E.assign (v := Value.slice none 0 0) rfl) ?_
    refine FL.v (E.assign (v := Value.bool false) rfl) ?_
    refine FL.nil ?_
    refine FW.ret ?_
    obtain rfl := Option.some.inj hp
    exact ends0 (res2 rfl rfl rfl ⟨_, _, _, _, rfl, (S44.nil 44 1), Els.nil, List.nodup_nil⟩) (.inr rfl)
  ·
    refine FW.condF k51 c52 ?_
    refine FW.skip ?_
    refine FT.seq ?_
    refine FW.region ?_
    refine FL.v (E.load k50 (run_load0 Tryz.isAgg22 ((at36.mono i45).now S44.sl) rfl)) ?_
    refine FL.v (E.lenP te22 rfl p1) ?_
    obtain ⟨xs53, hm54, hp⟩ := bnd hp
    obtain ⟨v55, w56, n60, cs61, run57, S58, els59, hbl62⟩ := S44.makeEls (P := Tryz.prog) te77 (G := (up wa.heap.size H43)) (En := eB) (x0 := (false : Bool)) hm54 rfl (ones_cons rfl ones_nil) .i64 .i64
    refine FL.v (E.makeSlice rfl rfl run57) ?_
    obtain ⟨b63, w64, run65, S66⟩ := S58.alloc (P := Tryz.prog) 77 [Value.slice none 0 0] Tryz.zeroValue77 rfl (ones_cons rfl ones_nil)
    refine FL.v (E.alloc run65) ?_
    obtain ⟨w67, run68, S69⟩ := S66.store0 (P := Tryz.prog) (t := 77) (i := 0) (cs' := [v55]) (l' := [.box b63 77 [v55], .row 4 1 v55 n60 cs61]) (v := v55) (c := [v55]) rfl Tryz.sizeOf77 (Ln.cells (S66.row_ln (i := 1) rfl)) rfl (ones_cons (Ln.one (S66.row_ln (i := 1) rfl)) ones_nil) (Nat.le_of_ble_eq_true rfl) rfl rfl
    refine FL.act rfl rfl (E.store rfl rfl run68) ?_
    refine FL.nil ?_
    refine FT.seq ?_
    refine FW.region ?_
    refine FL.v (E.load rfl (run_load0 Tryz.isAgg77 (S69.box_now (i := 0) rfl) rfl)) ?_
    refine FL.v (E.load k50 (run_load0 Tryz.isAgg22 ((at36.mono i45).now S69.sl) rfl)) ?_
    refine FL.v (E.lenP te22 rfl p1) ?_
    refine FL.v (E.sub rfl rfl) ?_
    obtain ⟨x76, hx77, hp⟩ := bnd hp
    obtain ⟨p70, cs71, pt72, l73, at74, rel75⟩ := S69.row_at (i := 1) rfl els59 (by decide) hx77
    obtain rfl := eB_open rel75
    refine FL.v (E.indexAddr te77 rfl rfl pt72) ?_
    obtain ⟨xs81, hput82, hp⟩ := bnd hp
    obtain ⟨w78, cs84, run79, S80, els83, ce85⟩ := S69.putEls (P := Tryz.prog) (t := 4) (i := 1) rfl els59 hput82 pt72 Tryz.sizeOf4 (u := Value.bool true) (c := [Value.bool true]) rfl rfl (ones_cons rfl ones_nil) rfl
    have S80 : St Ha wa H43 w78 [.box b63 77 [v55], .row 4 1 v55 n60 cs84] := S80
    refine FL.act rfl rfl (E.store rfl rfl run79) ?_
    refine FL.nil ?_
    refine FT.seq ?_
    refine FW.region ?_
    have S90 := S80.nil 44 1
    have els91 : Els (up wa.heap.size H43) (eL eI 1) 1 [] [] := Els.nil
    obtain ⟨b86, w87, run88, S89⟩ := S90.alloc (P := Tryz.prog) 22 [Value.slice none 0 0] Tryz.zeroValue22 rfl (ones_cons rfl ones_nil)
    refine FL.v (E.alloc run88) ?_
    refine FL.nil ?_
    refine FT.seqT ?_
    refine FT.seq ?_
    refine FW.region ?_
    refine FL.v (E.load k50 (run_load0 Tryz.isAgg22 ((at36.mono i45).now S89.sl) rfl)) ?_
    refine FL.call rfl rfl rfl (E.call Tryz.call55 (A1 rfl)) (w_back55 S89.sl v1 a1 (p1.mono ((i27.tr i35).tr i45))) ?_
    rintro e w93 ⟨H92, b95, rfl, r96, at97⟩
    refine ⟨_, rfl, ?_⟩
    have S94 := S89.call r96
    refine FL.nil ?_
    obtain ⟨q98, hq, hp⟩ := bndR hp
    obtain ⟨L98, hL98, hA98⟩ := back_list (p1.mono (((i27.tr i35).tr i45).tr r96.inc)) (fun cs => cs.getD 0 undef)
    replace hq := forB_eq hq hL98
    refine FT.range (S := ((List (List Int)) × (List Bool))) (X := Empty) (Hs := H92) (L := L98) (pj := Prod.snd) rfl Tryz.call83 (w_iter83 at97 (p1.mono (((i27.tr i35).tr i45).tr r96.inc)) L98 hL98 hA98) rfl (fun _ => rfl) (fun (T98 : List MO) (s98 : ((List (List Int)) × (List Bool))) (w : World) => ∃ H : GH, ∃ v42 : Value, ∃ n99 : Nat, ∃ cs100 : List Value, ∃ v103 : Value, ∃ n104 : Nat, ∃ cs105 : List Value, St Ha wa H w (.box b86 22 [v42] :: .row 44 1 v42 n99 cs100 :: .box b63 77 [v103] :: .row 4 1 v103 n104 cs105 :: T98) ∧ Inc H92 H ∧ Els (up wa.heap.size H) (eL eI 1) 1 cs100 s98.1 ∧ Els (up wa.heap.size H) eB 1 cs105 s98.2 ∧ (bl cs100).Nodup) (fun _ _ _ => False) (fun s98 T98 w ⟨H, v42, n99, cs100, v103, n104, cs105, S, i0, f0, f1, f2⟩ => ⟨H, [.box b86 22 [v42], .row 44 1 v42 n99 cs100, .box b63 77 [v103], .row 4 1 v103 n104 cs105], S, i0, fun T2 w2 S2 => ⟨H, v42, n99, cs100, v103, n104, cs105, S2, i0, f0, f1, f2⟩⟩) (fun x => x.elim) ⟨_, _, _, _, _, _, _, S94, (Inc.rfl _), (els91.mono (up_mono r96.inc)), (els83.mono (up_mono r96.inc)), (show (bl []).Nodup from List.nodup_nil)⟩ hq ?_ ?_ (fun _ x => x.elim)
    ·
      clear hp hq
      rintro l98 i98 T98 T98' ⟨u98, y98, j98⟩ s98 w110 o98 ha98 ⟨H107, v42, n99, cs100, v103, n104, cs105, S108, i109, els101, els106, nd102⟩ hp
      replace hp : bd (ix s98.2 ((j98 : Nat) : Int)) (fun x125 => (bif (!x125) then some (Lp.nx (s98.1, s98.2)) else bd (PF.slices_Clone_int_int y98) (fun r131 => bd (app s98.1 [r131]) (fun xs152 => bd (PF.impl_analysis a0 a1 ((j98 : Nat) : Int)) (fun r182 => bd (chk (len r182.2)) (fun m196 => bdR (forR (S := (List Bool)) (X := Empty) 0 m196 (fun i197 s197 => bd (ix r182.2 ((i197 : Nat) : Int)) (fun x220 => (bif (decide ((len a0.clauses) ≤ x220)) then bd (ix s197 (wr (x220 - (len a0.clauses)))) (fun x229 => bd (put s197 (wr (x220 - (len a0.clauses))) true) (fun xs234 => some (Lp.nx xs234))) else some (Lp.nx s197)))) s98.2) (fun s197 => some (Lp.nx (xs152, s197))) (fun x197 => nomatch x197))))))) = some o98 := hp
      obtain ⟨l114, _, cs113, _, _, _, rel111, hu112⟩ := hA98 i98 _ ha98
      replace rel111 : (eL eI 1).rel H92 cs113 y98 := rel111
      obtain ⟨v115, rfl, h116⟩ := eL_open rel111
      replace hu112 : v115 = u98 := Eq.symm hu112
      subst hu112
      change FW (ρ := some l98) (δ := []) Tryz.prog 74 _ _ (upd (upd _ 33 (Value.int .i64 ((j98 : Nat) : Int))) 34 (v115)) _
      refine FW.seq (FW.region ?_)
      refine FL.v (E.assign (v := Value.int .i64 ((j98 : Nat) : Int)) rfl) ?_
      refine FL.nil (FW.region ?_)
      refine FL.v (E.assign (v := v115) rfl) ?_
      refine FL.nil ?_
      refine ⟨rfl, _, [.box b86 22 [v42], .row 44 1 v42 n99 cs100, .box b63 77 [v103], .row 4 1 v103 n104 cs105], S108, ?_⟩
      intro w117 S118
      replace S118 : St Ha wa H107 w117 (.box b86 22 [v42] :: .row 44 1 v42 n99 cs100 :: .box b63 77 [v103] :: .row 4 1 v103 n104 cs105 :: T98') := S118
      refine FW.block (FW.seq (FW.seq (FW.region ?_)))
      refine FL.v (E.load rfl (run_load0 Tryz.isAgg77 (S118.box_now (i := 2) rfl) rfl)) ?_
      refine FL.v (E.move (v := Value.int .i64 ((j98 : Nat) : Int)) rfl) ?_
      obtain ⟨x125, hx126, hp⟩ := bnd hp
      obtain ⟨p119, cs120, pt121, l122, at123, rel124⟩ := S118.row_at (i := 3) rfl els106 (by decide) hx126
      obtain rfl := eB_open rel124
      refine FL.v (E.indexAddr te77 rfl rfl pt121) ?_
      refine FL.v (E.load rfl (run_load0 Tryz.isAgg4 at123 rfl)) ?_
      refine FL.v (E.not rfl) ?_
      refine FL.nil ?_
      rcases ifB hp with ⟨c127, hp⟩ | ⟨c127, hp⟩
      ·
        refine FW.condT rfl c127 ?_
        refine FW.exit ?_
        obtain rfl := Option.some.inj hp
        exact ⟨rfl, ⟨_, _, _, _, _, _, _, S118, i109, els101, els106, nd102⟩⟩
      ·
        refine FW.condF rfl c127 ?_
        refine FW.skip (FW.seq ?_)
        obtain ⟨r131, hr132, hp⟩ := bnd hp
        obtain ⟨xs152, hz153, hp⟩ := bnd hp
        refine FW.drawRB (Sl H107) (fun f w => ∃ H : GH, ∃ v167 : Value, ∃ n168 : Nat, ∃ cs169 : List Value, St Ha wa H w (.box b86 22 [v167] :: .row 44 1 v167 n168 cs169 :: .box b63 77 [v103] :: .row 4 1 v103 n104 cs105 :: T98') ∧ Inc H107 H ∧ Els (up wa.heap.size H) (eL eI 1) 1 cs169 xs152 ∧ (bl cs169).Nodup ∧ f 2 = Value.pointer (some ⟨b21, 0, none⟩) ∧ f 3 = Value.pointer (some ⟨b29, 0, none⟩) ∧ f 6 = Value.pointer (some (⟨b63, 0, none⟩ : Addr)) ∧ f 7 = Value.pointer (some (⟨b86, 0, none⟩ : Addr)) ∧ f 8 = Value.int .i64 ((j98 : Nat) : Int)) (by kernel_rfl) (by kernel_rfl) S118.sl ?_ ?_
        ·
          intro w128 r129
          have S130 := S118.call r129
          refine FB.phase [5] (fun w => WAt w (⟨b86, 0, none⟩ : Addr) [v42]) ?_
          refine FB.p (i := 0) (bs 6 1) 0 [4, 5] rfl (SP.on (S130.box_now (i := 0) rfl) (SP.nil S130.sl)) rfl rfl (fun w' hw' => (E.load rfl (run_load0 Tryz.isAgg22 hw' rfl))) ?_
          refine FB.t (i := 1) (bs 6 3) rfl (SP.on (S130.box_now (i := 0) rfl) (SP.nil S130.sl)) rfl (fun w' hw' => (E.move (v := v115) rfl)) ?_
          refine FB.all1 (i := 2) (by kernel_rfl) ?_
          ·
            refine FC.call (l' := (bs 6 7)) rfl (by kernel_rfl) rfl rfl rfl (E.call Tryz.call56 (A1 rfl)) (w_slices_Clone_int_int S130.sl v115 y98 (h116.mono i109) hr132) ?_
            rintro e w134 ⟨H133, v137, n138, cs139, rfl, r136, els140⟩
            refine ⟨_, rfl, ?_⟩
            have els140 := els140.mono (up_le S130.size)
            have S135 := S130.join (l' := (.row 3 1 v137 n138 cs139 :: .box b86 22 [v42] :: .row 44 1 v42 n99 cs100 :: .box b63 77 [v103] :: .row 4 1 v103 n104 cs105 :: T98')) r136 rfl
            refine ⟨(SP.on (S135.box_now (i := 1) rfl) (SP.nil (Sl.of_inc r136.run.inc S135.sl))), ?_⟩
            refine FB.all1 (i := 3) (by kernel_rfl) ?_
            ·
              obtain ⟨H141, S142, i143, h144, nv145⟩ := S135.sealRowU (i := 0) (l' := (.box b86 22 [v42] :: .row 44 1 v42 n99 cs100 :: .box b63 77 [v103] :: .row 4 1 v103 n104 cs105 :: T98')) rfl els140 (by decide) rfl
              obtain ⟨v146, w147, run148, S149⟩ := S142.buildSlice (P := Tryz.prog) te22 [v137] (parts := #[(0, v137)]) (cells := [v137]) rfl (szs_cons (cells_size h144.cells) szs_nil) (fc_cons h144.cells fc_nil) (ones_cons h144.one ones_nil) (Nat.le_of_ble_eq_true rfl)
              have els150 : Els (up wa.heap.size H141) (eL eI 1) 1 [v137] [r131] := (Els.snoc (H := (up wa.heap.size H141)) (E := (eL eI 1)) (k := 1) (c := [v137]) (x := r131) Els.nil rfl ⟨_, rfl, h144⟩)
              have nd151 : (bl [v137]).Nodup := by exact nd_one v137
              refine FC.val (l' := (bs 6 15)) rfl (by kernel_rfl) rfl rfl rfl (E.buildSlice (B1 rfl) run148) ?_
              refine ⟨(SP.on (S149.box_now (i := 1) rfl) (SP.nil (Sl.of_inc (r136.run.inc.tr i143) S149.sl))), ?_⟩
              refine FB.all1 (i := 4) (by kernel_rfl) ?_
              ·
                obtain ⟨v154, w157, n155, cs156, run158, S159, els160, ce161⟩ := S149.appendO (P := Tryz.prog) te22 (i := 2) (j := 0) rfl (els101.mono (up_mono (r136.run.inc.tr i143))) rfl els150 hz153
                have S159 : St Ha wa H141 w157 (.row 44 1 v146 1 [v137] :: .box b86 22 [v42] :: .row 44 1 v154 n155 cs156 :: .box b63 77 [v103] :: .row 4 1 v103 n104 cs105 :: T98') := S159
                have nd162 : (bl cs156).Nodup := by rw [ce161]; exact nd_app nd102 nd151 (Els.dom (els101.mono (upI.tr r136.run.inc))) (by exact nv145)
                have S163 : St Ha wa H141 w157 (.box b86 22 [v42] :: .row 44 1 v154 n155 cs156 :: .box b63 77 [v103] :: .row 4 1 v103 n104 cs105 :: T98') := S159.drop 0
                refine FC.val (l' := (bs 6 31)) rfl (by kernel_rfl) rfl rfl rfl (E.append rfl rfl run158) ?_
                refine ⟨(SP.on (S163.box_now (i := 0) rfl) (SP.nil (Sl.of_inc (r136.run.inc.tr i143) S163.sl))), ?_⟩
                refine FB.all1 (i := 5) (by kernel_rfl) ?_
                ·
                  obtain ⟨w164, run165, S166⟩ := S163.store0 (P := Tryz.prog) (t := 22) (i := 0) (cs' := [v154]) (l' := (.box b86 22 [v154] :: .row 44 1 v154 n155 cs156 :: .box b63 77 [v103] :: .row 4 1 v103 n104 cs105 :: T98')) (v := v154) (c := [v154]) rfl Tryz.sizeOf22 (Ln.cells (S163.row_ln (i := 1) rfl)) rfl (ones_cons (Ln.one (S163.row_ln (i := 1) rfl)) ones_nil) (Nat.le_of_ble_eq_true rfl) rfl rfl
                  refine FC.act (l' := (bs 6 63)) rfl (by kernel_rfl) rfl rfl (E.store rfl rfl run165) ?_
                  refine ⟨(SP.o (SP.nil (Sl.of_inc (r136.run.inc.tr i143) S166.sl))), ?_⟩
                  exact FB.done (by kernel_rfl) ⟨_, _, _, _, S166, (r136.run.inc.tr i143), els160, nd162, k49, k50, rfl, rfl, rfl⟩
        ·
          rintro f176 w175 ⟨H172, v167, n168, cs169, S173, i174, els170, nd171, k177, k178, k179, k180, k181⟩
          refine FW.seq (FW.region ?_)
          refine FL.v (E.load k177 (run_loadA Tryz.isAgg28 Tryz.sizeOf28 ((at28.mono ((((i35.tr i45).tr r96.inc).tr i109).tr i174)).now S173.sl) rfl)) ?_
          refine FL.v (E.load k178 (run_load0 Tryz.isAgg22 ((at36.mono (((i45.tr r96.inc).tr i109).tr i174)).now S173.sl) rfl)) ?_
          refine FL.v (E.move k181) ?_
          obtain ⟨r182, hr183, hp⟩ := bnd hp
          refine FL.call rfl rfl rfl (E.call Tryz.call54 (A3 rfl rfl rfl)) (w_impl_analysis S173.sl a0 v0_1 (p0_1.mono (((((i27.tr i35).tr i45).tr r96.inc).tr i109).tr i174)) v1 a1 (p1.mono (((((i27.tr i35).tr i45).tr r96.inc).tr i109).tr i174)) ((j98 : Nat) : Int) hr183) ?_
          rintro e w185 ⟨H184, v188, n189, cs190, v192, n193, cs194, rfl, r187, els191, els195⟩
          refine ⟨_, rfl, ?_⟩
          have els191 := els191.mono (up_le S173.size)
          have els195 := els195.mono (up_le S173.size)
          have S186 := S173.join (l' := (.row 3 1 v188 n189 cs190 :: .row 3 1 v192 n193 cs194 :: .box b86 22 [v167] :: .row 44 1 v167 n168 cs169 :: .box b63 77 [v103] :: .row 4 1 v103 n104 cs105 :: T98')) r187 rfl
          refine FL.v (E.move (v := Value.tuple #[v188, v192]) rfl) ?_
          refine FL.v (E.extract (i := 0) rfl rfl) ?_
          refine FL.v (E.extract (i := 1) rfl rfl) ?_
          refine FL.v (E.assign (v := v188) rfl) ?_
          refine FL.v (E.assign (v := v192) rfl) ?_
          refine FL.nil (FW.seq (FW.region ?_))
          refine FL.v (E.move (v := v192) rfl) ?_
          refine FL.v (E.lenO te44 rfl S186 (i := 1) rfl els195 (by decide)) ?_
          refine FL.v (E.move (v := Value.int .i64 0) rfl) ?_
          refine FL.nil ?_
          obtain ⟨m196, hchk197, hp⟩ := bnd hp
          obtain ⟨q197, hq, hp⟩ := bndR hp
          refine FW.block ?_
          refine FW.mono (FW.forR (S := (List Bool)) (X := Empty) (fun (i197 : Nat) (s197 : (List Bool)) f w => ∃ H : GH, ∃ v198 : Value, ∃ n199 : Nat, ∃ cs200 : List Value, St Ha wa H w (.row 3 1 v192 n193 cs194 :: .box b86 22 [v167] :: .row 44 1 v167 n168 cs169 :: .box b63 77 [v198] :: .row 4 1 v198 n199 cs200 :: T98') ∧ Inc H184 H ∧ Els (up wa.heap.size H) eB 1 cs200 s197 ∧ f 54 = Value.int .i64 ((i197 : Nat) : Int) ∧ f 2 = Value.pointer (some ⟨b21, 0, none⟩) ∧ f 3 = Value.pointer (some ⟨b29, 0, none⟩) ∧ f 6 = Value.pointer (some (⟨b63, 0, none⟩ : Addr)) ∧ f 7 = Value.pointer (some (⟨b86, 0, none⟩ : Addr)) ∧ f 52 = v192 ∧ f 53 = Value.int .i64 (len r182.2)) (fun (q : Rs (List Bool) Empty) e f w => match q with | .go s197 => e = Exit.exit 2 ∧ (∃ H : GH, ∃ v198 : Value, ∃ n199 : Nat, ∃ cs200 : List Value, St Ha wa H w (.row 3 1 v192 n193 cs194 :: .box b86 22 [v167] :: .row 44 1 v167 n168 cs169 :: .box b63 77 [v198] :: .row 4 1 v198 n199 cs200 :: T98') ∧ Inc H184 H ∧ Els (up wa.heap.size H) eB 1 cs200 s197 ∧ f 2 = Value.pointer (some ⟨b21, 0, none⟩) ∧ f 3 = Value.pointer (some ⟨b29, 0, none⟩) ∧ f 6 = Value.pointer (some (⟨b63, 0, none⟩ : Addr)) ∧ f 7 = Value.pointer (some (⟨b86, 0, none⟩ : Addr))) | .rt x => x.elim) hq ⟨_, _, _, _, (S186.selT (a := [.row 3 1 v188 n189 cs190, .row 3 1 v192 n193 cs194, .box b86 22 [v167], .row 44 1 v167 n168 cs169, .box b63 77 [v103], .row 4 1 v103 n104 cs105]) (l' := [.row 3 1 v192 n193 cs194, .box b86 22 [v167], .row 44 1 v167 n168 cs169, .box b63 77 [v103], .row 4 1 v103 n104 cs105]) [1, 2, 3, 4, 5] (by decide) rfl), (Inc.rfl _), (els106.mono (up_mono (i174.tr r187.run.inc))), rfl, k177, k178, k179, k180, rfl, rfl⟩ ?_ ?_) ?_
          ·
            clear hp hq
            rintro i197 s197 f206 w205 ⟨H202, v198, n199, cs200, S203, i204, els201, k207, k208, k209, k210, k211, k212, k213⟩ hi197 hj197 o239 hp
            refine FW.seq (FW.region ?_)
            refine FL.v (E.lssT k207 k213 (lss_chk hj197 hchk197)) ?_
            refine FL.nil (FW.seq ?_)
            refine FW.condT rfl rfl ?_
            refine FW.skip (FW.seq (FW.block (FW.seq (FW.region ?_))))
            obtain ⟨x220, hx221, hp⟩ := bnd hp
            obtain ⟨p214, cs215, pt216, l217, at218, rel219⟩ := S203.row_at (i := 0) rfl els195 (by decide) hx221
            obtain rfl := eI_open rel219
            refine FL.v (E.indexAddr te44 k212 k207 pt216) ?_
            refine FL.v (E.load rfl (run_load0 Tryz.isAgg3 at218 rfl)) ?_
            refine FL.v (E.assign (v := Value.int .i64 x220) rfl) ?_
            refine FL.nil (FW.seq (FW.region ?_))
            refine FL.v (E.move (v := Value.int .i64 x220) rfl) ?_
            refine FL.v (E.fieldAddr tf28_1 k208) ?_
            refine FL.v (E.load rfl (run_load1 Tryz.isAgg22 ((at28.mono ((((((i35.tr i45).tr r96.inc).tr i109).tr i174).tr r187.run.inc).tr i204)).now S203.sl) rfl)) ?_
            refine FL.v (E.lenP te22 rfl p0_1) ?_
            refine FL.v (E.geq rfl rfl) ?_
            refine FL.nil ?_
            rcases ifB hp with ⟨c222, hp⟩ | ⟨c222, hp⟩
            ·
              refine FW.condT rfl c222 ?_
              refine FW.region ?_
              refine FL.v (E.load k210 (run_load0 Tryz.isAgg77 (S203.box_now (i := 3) rfl) rfl)) ?_
              refine FL.v (E.move (v := Value.int .i64 x220) rfl) ?_
              refine FL.v (E.fieldAddr tf28_1 k208) ?_
              refine FL.v (E.load rfl (run_load1 Tryz.isAgg22 ((at28.mono ((((((i35.tr i45).tr r96.inc).tr i109).tr i174).tr r187.run.inc).tr i204)).now S203.sl) rfl)) ?_
              refine FL.v (E.lenP te22 rfl p0_1) ?_
              refine FL.v (E.sub rfl rfl) ?_
              obtain ⟨x229, hx230, hp⟩ := bnd hp
              obtain ⟨p223, cs224, pt225, l226, at227, rel228⟩ := S203.row_at (i := 4) rfl els201 (by decide) hx230
              obtain rfl := eB_open rel228
              refine FL.v (E.indexAddr te77 rfl rfl pt225) ?_
              obtain ⟨xs234, hput235, hp⟩ := bnd hp
              obtain ⟨w231, cs237, run232, S233, els236, ce238⟩ := S203.putEls (P := Tryz.prog) (t := 4) (i := 4) rfl els201 hput235 pt225 Tryz.sizeOf4 (u := Value.bool true) (c := [Value.bool true]) rfl rfl (ones_cons rfl ones_nil) rfl
              have S233 : St Ha wa H202 w231 (.row 3 1 v192 n193 cs194 :: .box b86 22 [v167] :: .row 44 1 v167 n168 cs169 :: .box b63 77 [v198] :: .row 4 1 v198 n199 cs237 :: T98') := S233
              refine FL.act rfl rfl (E.store rfl rfl run232) ?_
              refine FL.nil (FW.region ?_)
              refine FL.v (E.add k207 rfl) ?_
              refine FL.v (E.move (v := Value.int .i64 (wr (((i197 : Nat) : Int) + 1))) rfl) ?_
              refine FL.nil ?_
              obtain rfl := Option.some.inj hp
              exact ⟨rfl, ⟨_, _, _, _, S233, i204, els236, (nat_succ rfl hj197 (chk_le hchk197)), k208, k209, k210, k211, k212, k213⟩⟩
            ·
              refine FW.condF rfl c222 ?_
              refine FW.skip (FW.region ?_)
              refine FL.v (E.add k207 rfl) ?_
              refine FL.v (E.move (v := Value.int .i64 (wr (((i197 : Nat) : Int) + 1))) rfl) ?_
              refine FL.nil ?_
              obtain rfl := Option.some.inj hp
              exact ⟨rfl, ⟨_, _, _, _, S203, i204, els201, (nat_succ rfl hj197 (chk_le hchk197)), k208, k209, k210, k211, k212, k213⟩⟩
          ·
            clear hp hq
            rintro s197 f253 w252 ⟨H249, v198, n199, cs200, S250, i251, els201, k254, k255, k256, k257, k258, k259, k260⟩
            refine FW.seq (FW.region ?_)
            refine FL.v (E.lss k254 k260) ?_
            refine FL.nil (FW.seq ?_)
            refine FW.condF rfl (dlt_maxchk hchk197) ?_
            refine FW.exit ?_
            exact ⟨nofun, rfl, ⟨_, _, _, _, S250, i251, els201, k255, k256, k257, k258⟩⟩
          ·
            clear hq
            intro e f244 w243 hD
            rcases q197 with s197 | x197
            ·
              obtain ⟨rfl, hD⟩ := hD
              obtain ⟨H240, v198, n199, cs200, S241, i242, els201, k245, k246, k247, k248⟩ := hD
              replace hp := el_go hp
              obtain rfl := Option.some.inj hp
              exact ⟨rfl, ⟨_, _, _, _, _, _, _, (S241.selT (a := [.row 3 1 v192 n193 cs194, .box b86 22 [v167], .row 44 1 v167 n168 cs169, .box b63 77 [v198], .row 4 1 v198 n199 cs200]) (l' := [.box b86 22 [v167], .row 44 1 v167 n168 cs169, .box b63 77 [v198], .row 4 1 v198 n199 cs200]) [1, 2, 3, 4] (by decide) rfl), (((i109.tr i174).tr r187.run.inc).tr i242), (els170.mono (up_mono (r187.run.inc.tr i242))), els201, nd171⟩⟩
            · exact x197.elim
    ·
      clear hq
      rintro D98 s98 rfl w264 ⟨H261, v42, n99, cs100, v103, n104, cs105, S262, i263, els101, els106, nd102⟩
      replace hp := el_go hp
      refine FT.then_ ?_
      refine FT.seq ?_
      refine FW.region ?_
      refine FL.v (E.load rfl (run_load0 Tryz.isAgg22 (S262.box_now (i := 0) rfl) rfl)) ?_
      obtain ⟨r265, hr266, hp⟩ := bnd hp
      have S267 : St Ha wa H261 w264 (.row 44 1 v42 n99 cs100 :: .box b86 22 [v42] :: .box b63 77 [v103] :: .row 4 1 v103 n104 cs105 :: [.raw D98 (.deferred (some []))]) := S262.front 1 rfl rfl
      refine FL.call rfl rfl rfl (E.call Tryz.call57 (A1 rfl)) (w_slices_Reverse_LLint_Lint (L := (.box b86 22 [v42] :: .box b63 77 [v103] :: .row 4 1 v103 n104 cs105 :: [.raw D98 (.deferred (some []))])) S267 s98.1 els101 nd102 hr266) ?_
      rintro e w269 ⟨H268, cs272, rfl, ⟨S270, i271⟩, els273, nd274⟩
      refine ⟨_, rfl, ?_⟩
      have S270 : St Ha wa H268 w269 (.row 44 1 v42 n99 cs272 :: .box b86 22 [v42] :: .box b63 77 [v103] :: .row 4 1 v103 n104 cs105 :: [.raw D98 (.deferred (some []))]) := S270
      refine FL.nil ?_
      refine FT.seq ?_
      refine FW.region ?_
      refine FL.v (E.load rfl (run_load0 Tryz.isAgg22 (S270.box_now (i := 1) rfl) rfl)) ?_
      refine FL.v (E.assign (v := v42) rfl) ?_
      refine FL.v (E.assign (v := Value.bool true) rfl) ?_
      refine FL.nil ?_
      refine FT.last ?_
      refine FW.ret ?_
      have hD275 := St.shutAt (l := [.row 44 1 v42 n99 cs272, .box b86 22 [v42], .box b63 77 [v103], .row 4 1 v103 n104 cs105]) S270
      have S276 := St.shut (l := [.row 44 1 v42 n99 cs272, .box b86 22 [v42], .box b63 77 [v103], .row 4 1 v103 n104 cs105]) S270 (.deferred none)
      obtain rfl := Option.some.inj hp
      exact ends1 hD275 (res2 rfl rfl rfl ⟨_, _, _, _, rfl, (S276.sel [0] (by decide) rfl), els273, nd274⟩) (.inr rfl)

theorem w_laws_eqIntS {Ha : GH} {wa : World} (hs : Sl Ha wa) (v0 : Value) (a0 : List Int) (p0 : RSl Ha eI 1 v0 a0) (v1 : Value) (a1 : List Int) (p1 : RSl Ha eI 1 v1 a1) {r : Bool} (hp : (PF.laws_eqIntS a0 a1) = some r) :
  Calls Tryz.prog 24 #[v0, v1] wa (Sc Ha wa (Value.bool r)) := by
 unfold PF.laws_eqIntS at hp
 have S0 := St.init hs
 refine calls_go (N := 26) (args := [v0, v1]) Tryz.func24 rfl rfl rfl ?_
 refine FW.seq (FW.region ?_)
 refine FL.v (E.assign (v := Value.bool false) rfl) ?_
 refine FL.nil (FW.seq (FW.seq (FW.region ?_)))
 refine FL.v (E.move (v := v0) rfl) ?_
 refine FL.v (E.lenP te44 rfl p0) ?_
 refine FL.v (E.move (v := v1) rfl) ?_
 refine FL.v (E.lenP te44 rfl p1) ?_
 refine FL.v (E.neq rfl rfl) ?_
 refine FL.nil ?_
 rcases ifB hp with ⟨c21, hp⟩ | ⟨c21, hp⟩
 ·
  refine FW.condT rfl c21 ?_
  refine FW.seq (FW.region ?_)
  refine FL.v (E.assign (v := Value.bool false) rfl) ?_
  refine FL.nil ?_
  refine FW.ret ?_
  obtain rfl := Option.some.inj hp
  exact ⟨.inr rfl, res1 rfl rfl ⟨rfl, S0.back⟩⟩
 ·
  refine FW.condF rfl c21 ?_
  refine FW.skip (FW.seq (FW.seq (FW.region ?_)))
  refine FL.v (E.assign (v := Value.int .i64 0) rfl) ?_
  refine FL.nil ?_
  obtain ⟨q23, hq, hp⟩ := bndR hp
  refine FW.block ?_
  refine FW.mono (FW.forL (S := Unit) (X := Bool) (fun (i23 : Nat) (s23 : Unit) f w => ∃ H : GH, St Ha wa H w [] ∧ Inc Ha H ∧ f 5 = Value.int .i64 ((i23 : Nat) : Int) ∧ f 0 = v0 ∧ f 1 = v1) (fun q e f w => match q with | .go s23 => e = Exit.exit 0 ∧ (∃ H : GH, St Ha wa H w [] ∧ Inc Ha H) | .rt x => ((e = Exit.ret) ∧ (fun e f w => (e = Exit.normal ∨ e = Exit.ret) ∧ ∀ a, Fr (δ := []) 26 a f → ∃ v, (results Tryz.f24 a.tmps).run Tryz.prog w = .ok v w ∧ (Sc Ha wa (Value.bool x)) (.returned v) w) e f w)) hq ⟨_, S0, (Inc.rfl _), rfl, rfl, rfl⟩ ?_ ?_) ?_
  ·
   clear hp hq
   rintro i23 y22 s23 f55 w54 ⟨H51, S52, i53, k56, k57, k58⟩ hx23 o78 hp
   refine FW.seq (FW.seq (FW.region ?_))
   refine FL.v (E.move k56) ?_
   refine FL.v (E.move k57) ?_
   refine FL.v (E.lenP te44 rfl p0) ?_
   refine FL.v (E.lssT rfl rfl (lss_len hx23)) ?_
   refine FL.nil ?_
   refine FW.condT rfl rfl ?_
   refine FW.skip (FW.seq (FW.block (FW.seq ?_)))
   refine FW.draw (fun w' => Run w54.heap.size H51 w54 H51 w') (by kernel_rfl) (by kernel_rfl) (run_drew S52.sl) ?_
   refine FD.val rfl rfl rfl (fun w' hw' => (E.move k57)) ?_
   refine FD.val rfl rfl rfl (fun w' hw' => (E.move k56)) ?_
   obtain ⟨p60, cs61, pt62, l63, at64, rel65⟩ := p0.at (ix_nat hx23)
   obtain rfl := eI_open rel65
   refine FD.val rfl rfl rfl (fun w' hw' => (E.indexAddr te44 rfl rfl pt62)) ?_
   refine FD.val rfl rfl rfl (fun w' hw' => (E.load rfl (run_load0 Tryz.isAgg3 ((at64.mono i53).now (S52.call hw').sl) rfl))) ?_
   refine FD.val rfl rfl rfl (fun w' hw' => (E.move k58)) ?_
   refine FD.val rfl rfl rfl (fun w' hw' => (E.move k56)) ?_
   obtain ⟨x72, hx73, hp⟩ := bnd hp
   obtain ⟨p66, cs67, pt68, l69, at70, rel71⟩ := p1.at hx73
   obtain rfl := eI_open rel71
   refine FD.val rfl rfl rfl (fun w' hw' => (E.indexAddr te44 rfl rfl pt68)) ?_
   refine FD.val rfl rfl rfl (fun w' hw' => (E.load rfl (run_load0 Tryz.isAgg3 ((at70.mono i53).now (S52.call hw').sl) rfl))) ?_
   refine FD.val rfl rfl rfl (fun w' hw' => (E.neq rfl rfl)) ?_
   refine FD.nil ?_
   intro w74 r76
   have S75 := S52.call r76
   rcases ifB hp with ⟨c77, hp⟩ | ⟨c77, hp⟩
   ·
    refine FW.condT rfl c77 ?_
    refine FW.seq (FW.region ?_)
    refine FL.v (E.assign (v := Value.bool false) rfl) ?_
    refine FL.nil ?_
    refine FW.ret ?_
    obtain rfl := Option.some.inj hp
    exact ⟨nofun, rfl, ⟨.inr rfl, res1 rfl rfl ⟨rfl, S75.back⟩⟩⟩
   ·
    refine FW.condF rfl c77 ?_
    refine FW.skip (FW.region ?_)
    refine FL.v (E.move k56) ?_
    refine FL.v (E.add rfl rfl) ?_
    refine FL.v (E.assign (v := Value.int .i64 (wr (((i23 : Nat) : Int) + 1))) rfl) ?_
    refine FL.nil ?_
    obtain rfl := Option.some.inj hp
    exact ⟨rfl, ⟨_, S75, i53, (nat_succ rfl (lt_of_get hx23) (p0.mono i53).le), k57, k58⟩⟩
  ·
   clear hp hq
   rintro s23 f88 w87 ⟨H84, S85, i86, k89, k90, k91⟩
   refine FW.seq (FW.seq (FW.region ?_))
   refine FL.v (E.move k89) ?_
   refine FL.v (E.move k90) ?_
   refine FL.v (E.lenP te44 rfl p0) ?_
   refine FL.v (E.lss rfl rfl) ?_
   refine FL.nil ?_
   refine FW.condF rfl dlt_len ?_
   refine FW.exit ?_
   exact ⟨nofun, rfl, ⟨_, S85, i86⟩⟩
  ·
   clear hq
   intro e f83 w82 hD
   rcases q23 with s23 | x23
   ·
    obtain ⟨rfl, hD⟩ := hD
    obtain ⟨H79, S80, i81⟩ := hD
    replace hp := el_go hp
    refine FW.seq (FW.region ?_)
    refine FL.v (E.assign (v := Value.bool true) rfl) ?_
    refine FL.nil ?_
    refine FW.ret ?_
    obtain rfl := Option.some.inj hp
    exact ⟨.inr rfl, res1 rfl rfl ⟨rfl, S80.back⟩⟩
   ·
    obtain ⟨he, hL⟩ := hD
    replace hp := el_rt hp
    obtain rfl := Option.some.inj hp
    subst he
    exact hL

theorem w_laws_eqIntSS {Ha : GH} {wa : World} (hs : Sl Ha wa) (v0 : Value) (a0 : List (List Int)) (p0 : RSl Ha (eL eI 1) 1 v0 a0) (v1 : Value) (a1 : List (List Int)) (p1 : RSl Ha (eL eI 1) 1 v1 a1) {r : Bool} (hp : (PF.laws_eqIntSS a0 a1) = some r) :
  Calls Tryz.prog 25 #[v0, v1] wa (Sc Ha wa (Value.bool r)) := by
 unfold PF.laws_eqIntSS at hp
 have S0 := St.init hs
 refine calls_go (N := 27) (args := [v0, v1]) Tryz.func25 rfl rfl rfl ?_
 refine FW.seq (FW.region ?_)
 refine FL.v (E.assign (v := Value.bool false) rfl) ?_
 refine FL.nil (FW.seq (FW.seq (FW.region ?_)))
 refine FL.v (E.move (v := v0) rfl) ?_
 refine FL.v (E.lenP te22 rfl p0) ?_
 refine FL.v (E.move (v := v1) rfl) ?_
 refine FL.v (E.lenP te22 rfl p1) ?_
 refine FL.v (E.neq rfl rfl) ?_
 refine FL.nil ?_
 rcases ifB hp with ⟨c21, hp⟩ | ⟨c21, hp⟩
 ·
  refine FW.condT rfl c21 ?_
  refine FW.seq (FW.region ?_)
  refine FL.v (E.assign (v := Value.bool false) rfl) ?_
  refine FL.nil ?_
  refine FW.ret ?_
  obtain rfl := Option.some.inj hp
  exact ⟨.inr rfl, res1 rfl rfl ⟨rfl, S0.back⟩⟩
 ·
  refine FW.condF rfl c21 ?_
  refine FW.skip (FW.seq (FW.seq (FW.region ?_)))
  refine FL.v (E.assign (v := Value.int .i64 0) rfl) ?_
  refine FL.nil ?_
  obtain ⟨q23, hq, hp⟩ := bndR hp
  refine FW.block ?_
  refine FW.mono (FW.forL (S := Unit) (X := Bool) (fun (i23 : Nat) (s23 : Unit) f w => ∃ H : GH, St Ha wa H w [] ∧ Inc Ha H ∧ f 5 = Value.int .i64 ((i23 : Nat) : Int) ∧ f 0 = v0 ∧ f 1 = v1) (fun q e f w => match q with | .go s23 => e = Exit.exit 0 ∧ (∃ H : GH, St Ha wa H w [] ∧ Inc Ha H) | .rt x => ((e = Exit.ret) ∧ (fun e f w => (e = Exit.normal ∨ e = Exit.ret) ∧ ∀ a, Fr (δ := []) 27 a f → ∃ v, (results Tryz.f25 a.tmps).run Tryz.prog w = .ok v w ∧ (Sc Ha wa (Value.bool x)) (.returned v) w) e f w)) hq ⟨_, S0, (Inc.rfl _), rfl, rfl, rfl⟩ ?_ ?_) ?_
  ·
   clear hp hq
   rintro i23 y22 s23 f61 w60 ⟨H57, S58, i59, k62, k63, k64⟩ hx23 o90 hp
   refine FW.seq (FW.seq (FW.region ?_))
   refine FL.v (E.move k62) ?_
   refine FL.v (E.move k63) ?_
   refine FL.v (E.lenP te22 rfl p0) ?_
   refine FL.v (E.lssT rfl rfl (lss_len hx23)) ?_
   refine FL.nil ?_
   refine FW.condT rfl rfl ?_
   refine FW.skip (FW.seq (FW.block (FW.seq ?_)))
   refine FW.draw (fun w' => Run w60.heap.size H57 w60 H57 w') (by kernel_rfl) (by kernel_rfl) (run_drew S58.sl) ?_
   refine FD.val rfl rfl rfl (fun w' hw' => (E.move k63)) ?_
   refine FD.val rfl rfl rfl (fun w' hw' => (E.move k62)) ?_
   obtain ⟨p66, cs67, pt68, l69, at70, rel71⟩ := p0.at (ix_nat hx23)
   obtain ⟨v72, rfl, h73⟩ := eL_open rel71
   refine FD.val rfl rfl rfl (fun w' hw' => (E.indexAddr te22 rfl rfl pt68)) ?_
   refine FD.val rfl rfl rfl (fun w' hw' => (E.load rfl (run_load0 Tryz.isAgg44 ((at70.mono i59).now (S58.call hw').sl) rfl))) ?_
   refine FD.val rfl rfl rfl (fun w' hw' => (E.move k64)) ?_
   refine FD.val rfl rfl rfl (fun w' hw' => (E.move k62)) ?_
   obtain ⟨x80, hx81, hp⟩ := bnd hp
   obtain ⟨p74, cs75, pt76, l77, at78, rel79⟩ := p1.at hx81
   obtain ⟨v82, rfl, h83⟩ := eL_open rel79
   refine FD.val rfl rfl rfl (fun w' hw' => (E.indexAddr te22 rfl rfl pt76)) ?_
   refine FD.val rfl rfl rfl (fun w' hw' => (E.load rfl (run_load0 Tryz.isAgg44 ((at78.mono i59).now (S58.call hw').sl) rfl))) ?_
   obtain ⟨r84, hr85, hp⟩ := bnd hp
   refine FD.call rfl rfl rfl (fun w' hw' => (E.call Tryz.call24 (A2 rfl rfl))) (fun w' hw' => Calls.cls hw' (w_laws_eqIntS (S58.call hw').sl v72 y22 (h73.mono i59) v82 x80 (h83.mono i59) hr85)) ?_
   refine FD.val rfl rfl rfl (fun w' hw' => (E.not rfl)) ?_
   refine FD.nil ?_
   intro w86 r88
   have S87 := S58.call r88
   rcases ifB hp with ⟨c89, hp⟩ | ⟨c89, hp⟩
   ·
    refine FW.condT rfl c89 ?_
    refine FW.seq (FW.region ?_)
    refine FL.v (E.assign (v := Value.bool false) rfl) ?_
    refine FL.nil ?_
    refine FW.ret ?_
    obtain rfl := Option.some.inj hp
    exact ⟨nofun, rfl, ⟨.inr rfl, res1 rfl rfl ⟨rfl, S87.back⟩⟩⟩
   ·
    refine FW.condF rfl c89 ?_
    refine FW.skip (FW.region ?_)
    refine FL.v (E.move k62) ?_
    refine FL.v (E.add rfl rfl) ?_
    refine FL.v (E.assign (v := Value.int .i64 (wr (((i23 : Nat) : Int) + 1))) rfl) ?_
    refine FL.nil ?_
    obtain rfl := Option.some.inj hp
    exact ⟨rfl, ⟨_, S87, i59, (nat_succ rfl (lt_of_get hx23) (p0.mono i59).le), k63, k64⟩⟩
  ·
   clear hp hq
   rintro s23 f100 w99 ⟨H96, S97, i98, k101, k102, k103⟩
   refine FW.seq (FW.seq (FW.region ?_))
   refine FL.v (E.move k101) ?_
   refine FL.v (E.move k102) ?_
   refine FL.v (E.lenP te22 rfl p0) ?_
   refine FL.v (E.lss rfl rfl) ?_
   refine FL.nil ?_
   refine FW.condF rfl dlt_len ?_
   refine FW.exit ?_
   exact ⟨nofun, rfl, ⟨_, S97, i98⟩⟩
  ·
   clear hq
   intro e f95 w94 hD
   rcases q23 with s23 | x23
   ·
    obtain ⟨rfl, hD⟩ := hD
    obtain ⟨H91, S92, i93⟩ := hD
    replace hp := el_go hp
    refine FW.seq (FW.region ?_)
    refine FL.v (E.assign (v := Value.bool true) rfl) ?_
    refine FL.nil ?_
    refine FW.ret ?_
    obtain rfl := Option.some.inj hp
    exact ⟨.inr rfl, res1 rfl rfl ⟨rfl, S92.back⟩⟩
   ·
    obtain ⟨he, hL⟩ := hD
    replace hp := el_rt hp
    obtain rfl := Option.some.inj hp
    subst he
    exact hL

theorem w_laws_eqCnf {Ha : GH} {wa : World} (hs : Sl Ha wa) (a0 : Cnf) (v0_1 : Value) (p0_1 : RSl Ha (eL eI 1) 1 v0_1 a0.clauses) (a1 : Cnf) (v1_1 : Value) (p1_1 : RSl Ha (eL eI 1) 1 v1_1 a1.clauses) {r : Bool} (hp : (PF.laws_eqCnf a0 a1) = some r) :
  Calls Tryz.prog 14 #[Value.agg #[Value.int .i64 a0.vars, v0_1], Value.agg #[Value.int .i64 a1.vars, v1_1]] wa (Sc Ha wa (Value.bool r)) := by
 unfold PF.laws_eqCnf at hp
 have S0 := St.init hs
 refine calls_go (N := 16) (args := [Value.agg #[Value.int .i64 a0.vars, v0_1], Value.agg #[Value.int .i64 a1.vars, v1_1]]) Tryz.func14 rfl rfl rfl ?_
 refine FW.seq (FW.region ?_)
 obtain ⟨b21, w22, run23, S24⟩ := S0.box (P := Tryz.prog) 28 [Value.int .i64 a0.vars, v0_1] (v := Value.agg #[Value.int .i64 a0.vars, v0_1]) rfl (ones_cons rfl (ones_cons p0_1.one ones_nil))
 refine FL.v (E.box rfl run23) ?_
 obtain ⟨H25, S26, i27, at28⟩ := S24.sealBox (i := 0) (l' := []) rfl rfl
 obtain ⟨b29, w30, run31, S32⟩ := S26.box (P := Tryz.prog) 28 [Value.int .i64 a1.vars, v1_1] (v := Value.agg #[Value.int .i64 a1.vars, v1_1]) rfl (ones_cons rfl (ones_cons p1_1.one ones_nil))
 refine FL.v (E.box rfl run31) ?_
 obtain ⟨H33, S34, i35, at36⟩ := S32.sealBox (i := 0) (l' := []) rfl rfl
 refine FL.v (E.assign (v := Value.bool false) rfl) ?_
 refine FL.nil (FW.seq (FW.seq (FW.region ?_)))
 refine FL.v (E.fieldAddr tf28_0 rfl) ?_
 refine FL.v (E.load rfl (run_load1 Tryz.isAgg3 ((at28.mono i35).now S34.sl) rfl)) ?_
 refine FL.v (E.fieldAddr tf28_0 rfl) ?_
 refine FL.v (E.load rfl (run_load1 Tryz.isAgg3 (at36.now S34.sl) rfl)) ?_
 refine FL.v (E.neq rfl rfl) ?_
 refine FL.nil ?_
 rcases ifB hp with ⟨c37, hp⟩ | ⟨c37, hp⟩
 ·
  refine FW.condT rfl c37 ?_
  refine FW.seq (FW.region ?_)
  refine FL.v (E.assign (v := Value.bool false) rfl) ?_
  refine FL.nil ?_
  refine FW.ret ?_
  obtain rfl := Option.some.inj hp
  exact ⟨.inr rfl, res1 rfl rfl ⟨rfl, S34.back⟩⟩
 ·
  refine FW.condF rfl c37 ?_
  refine FW.skip (FW.seq (FW.seq (FW.region ?_)))
  refine FL.v (E.fieldAddr tf28_1 rfl) ?_
  refine FL.v (E.load rfl (run_load1 Tryz.isAgg22 ((at28.mono i35).now S34.sl) rfl)) ?_
  refine FL.v (E.fieldAddr tf28_1 rfl) ?_
  refine FL.v (E.load rfl (run_load1 Tryz.isAgg22 (at36.now S34.sl) rfl)) ?_
  obtain ⟨r38, hr39, hp⟩ := bnd hp
  refine FL.call rfl rfl rfl (E.call Tryz.call25 (A2 rfl rfl)) (w_laws_eqIntSS S34.sl v0_1 a0.clauses (p0_1.mono (i27.tr i35)) v1_1 a1.clauses (p1_1.mono (i27.tr i35)) hr39) ?_
  rintro e w40 ⟨rfl, r41⟩
  refine ⟨_, rfl, ?_⟩
  have S42 := S34.call r41
  refine FL.v (E.not rfl) ?_
  refine FL.nil ?_
  rcases ifB hp with ⟨c43, hp⟩ | ⟨c43, hp⟩
  ·
   refine FW.condT rfl c43 ?_
   refine FW.seq (FW.region ?_)
   refine FL.v (E.assign (v := Value.bool false) rfl) ?_
   refine FL.nil ?_
   refine FW.ret ?_
   obtain rfl := Option.some.inj hp
   exact ⟨.inr rfl, res1 rfl rfl ⟨rfl, S42.back⟩⟩
  ·
   refine FW.condF rfl c43 ?_
   refine FW.skip (FW.seq (FW.region ?_))
   refine FL.v (E.assign (v := Value.bool true) rfl) ?_
   refine FL.nil ?_
   refine FW.ret ?_
   obtain rfl := Option.some.inj hp
   exact ⟨.inr rfl, res1 rfl rfl ⟨rfl, S42.back⟩⟩

theorem w_laws_markIntS {H0 Ha : GH} {w0 wa : World} {l : List MO} (S0 : St H0 w0 Ha wa l) (hs0 : Sl H0 w0) (v0 : Value) (a0 : List Int) (p0 : RSl (up w0.heap.size Ha) eI 1 v0 a0) (a1 : Int) :
  Calls Tryz.prog 27 #[v0, Value.int .i64 a1] wa (M1 H0 w0 Ha l eI 1 v0 (PF.laws_markIntS a0 a1)) := by
 obtain ⟨c0, n0, hc0⟩ := p0.nest eI_flat (by decide)
 have hln := p0.ln
 have hle := p0.le
 refine calls_go (N := 19) (args := [v0, Value.int .i64 a1]) Tryz.func27 rfl rfl rfl ?_
 refine FW.seq (FW.region ?_)
 refine FL.v (E.assign (v := Value.int .i64 0) rfl) ?_
 refine FL.nil (FW.seq (FW.seq (FW.region ?_)))
 refine FL.v (E.assign (v := Value.int .i64 0) rfl) ?_
 refine FL.nil (FW.block ?_)
 refine FW.mono (FW.mark (F := fun y m => (m, (wr (m + 1)))) (a0 := a0) (k0 := a1) (fun (i : Nat) (xs : List Int) (k : Int) f w => ∃ (H : GH) (c : List Value), St H0 w0 H w l ∧ Nest (up w0.heap.size H) eI 1 v0 xs c ∧ bl c = bl c0 ∧ (∀ b, b ∉ bl [v0] → b ∉ bl c0 → H b = Ha b) ∧ f 0 = v0 ∧ f 1 = Value.int .i64 k ∧ f 5 = Value.int .i64 ((i : Nat) : Int)) (fun e f w => e = Exit.exit 0 ∧ ∃ (H : GH) (c : List Value), St H0 w0 H w l ∧ Nest (up w0.heap.size H) eI 1 v0 (markFrom (fun y m => (m, (wr (m + 1)))) a0 a1).1 c ∧ bl c = bl c0 ∧ (∀ b, b ∉ bl [v0] → b ∉ bl c0 → H b = Ha b) ∧ f 0 = v0 ∧ f 1 = Value.int .i64 (markFrom (fun y m => (m, (wr (m + 1)))) a0 a1).2) ⟨_, _, S0, n0, rfl, fun _ _ _ => rfl, rfl, rfl, rfl⟩ ?_ ?_) ?_
 ·
  rintro i y xs m f1 w1 ⟨H1, c1, S1, n1, hb, ho, kv, kk, kc⟩ hx hy
  obtain ⟨p, hpt, wr0, hB, hr, nd⟩ := n1.begin hy (by decide)
  have hci := eI_open hr
  have rd := wr0.opens hci
  refine FW.seq (FW.seq (FW.region ?_))
  refine FL.v (E.move kc) ?_
  refine FL.v (E.move kv) ?_
  refine FL.v (E.len te44 rfl hln) ?_
  refine FL.v (E.lssT rfl rfl (lss_len hx)) ?_
  refine FL.nil ?_
  refine FW.condT rfl rfl ?_
  refine FW.skip (FW.seq (FW.block (FW.seq (FW.region ?_))))
  refine FL.v (E.move kv) ?_
  refine FL.v (E.move kc) ?_
  refine FL.v (E.move kk) ?_
  refine FL.v (E.indexAddr te44 rfl rfl hpt) ?_
  obtain ⟨w21, H22, run24, S23, wr25, o26⟩ := rd.poke0 (P := Tryz.prog) (t := 3) (u := Value.int .i64 m) S1 hs0 hB rfl rfl rfl Tryz.sizeOf3 rfl rfl (c2 := [Value.int .i64 m]) rfl
  refine FL.act rfl rfl (E.store rfl rfl run24) ?_
  refine FL.nil (FW.region ?_)
  refine FL.v (E.move kk) ?_
  refine FL.v (E.add rfl rfl) ?_
  refine FL.v (E.assign (v := Value.int .i64 (wr (m + 1))) rfl) ?_
  refine FL.nil (FW.region ?_)
  refine FL.v (E.move kc) ?_
  refine FL.v (E.add rfl rfl) ?_
  refine FL.v (E.assign (v := Value.int .i64 (wr (((i : Nat) : Int) + 1))) rfl) ?_
  refine FL.nil ?_
  obtain ⟨c2, n2, hb2, ho2⟩ := n1.round eI_flat.loc hy (by decide) hpt wr25 (y' := m) rfl
  exact ⟨rfl, _, _, S23, n2, hb2.trans hb, fun b q1 q2 => (ho2 b q1 (by rw [hb]; exact q2)).trans (ho b q1 q2), kv, rfl, nat_succ rfl (lt_of_get hx) hle⟩
 ·
  rintro f1 w1 ⟨H1, c1, S1, n1, hb, ho, kv, kk, kc⟩
  refine FW.seq (FW.seq (FW.region ?_))
  refine FL.v (E.move kc) ?_
  refine FL.v (E.move kv) ?_
  refine FL.v (E.len te44 rfl hln) ?_
  refine FL.v (E.lss rfl rfl) ?_
  refine FL.nil ?_
  refine FW.condF rfl dlt_len ?_
  refine FW.exit ?_
  exact ⟨nofun, rfl, _, _, S1, n1, hb, ho, kv, kk⟩
 ·
  rintro e f2 w2 ⟨rfl, H2, c2, S2, n2, hb, ho, kv, kk⟩
  refine FW.seq (FW.region ?_)
  refine FL.v (E.move kk) ?_
  refine FL.v (E.assign (v := Value.int .i64 ((markFrom (fun y m => (m, (wr (m + 1)))) a0 a1).2)) rfl) ?_
  refine FL.nil ?_
  refine FW.ret ?_
  exact ⟨.inr rfl, res1 rfl rfl ⟨_, rfl, S2, n2.rsl, fun b q => ho b q (by rw [hc0]; simp)⟩⟩

theorem w_laws_markIntSS {H0 Ha : GH} {w0 wa : World} {l : List MO} (S0 : St H0 w0 Ha wa l) (hs0 : Sl H0 w0) (v0 : Value) (a0 : List (List Int)) (c0 : List Value) (n0 : Nest (up w0.heap.size Ha) (eL eI 1) 1 v0 a0 c0) (a1 : Int) :
  Calls Tryz.prog 26 #[v0, Value.int .i64 a1] wa (M2 H0 w0 Ha l (eL eI 1) 1 v0 c0 (PF.laws_markIntSS a0 a1)) := by
 have hln := n0.rsl.ln
 have hle := n0.rsl.le
 refine calls_go (N := 19) (args := [v0, Value.int .i64 a1]) Tryz.func26 rfl rfl rfl ?_
 refine FW.seq (FW.region ?_)
 refine FL.v (E.assign (v := Value.int .i64 0) rfl) ?_
 refine FL.nil (FW.seq (FW.seq (FW.region ?_)))
 refine FL.v (E.assign (v := Value.int .i64 0) rfl) ?_
 refine FL.nil (FW.block ?_)
 refine FW.mono (FW.mark (F := fun y m => ((PF.laws_markIntS y m).1, (PF.laws_markIntS y m).2)) (a0 := a0) (k0 := a1) (fun (i : Nat) (xs : List (List Int)) (k : Int) f w => ∃ (H : GH) (c : List Value), St H0 w0 H w l ∧ Nest (up w0.heap.size H) (eL eI 1) 1 v0 xs c ∧ bl c = bl c0 ∧ (∀ b, b ∉ bl [v0] → b ∉ bl c0 → H b = Ha b) ∧ f 0 = v0 ∧ f 1 = Value.int .i64 k ∧ f 5 = Value.int .i64 ((i : Nat) : Int)) (fun e f w => e = Exit.exit 0 ∧ ∃ (H : GH) (c : List Value), St H0 w0 H w l ∧ Nest (up w0.heap.size H) (eL eI 1) 1 v0 (markFrom (fun y m => ((PF.laws_markIntS y m).1, (PF.laws_markIntS y m).2)) a0 a1).1 c ∧ bl c = bl c0 ∧ (∀ b, b ∉ bl [v0] → b ∉ bl c0 → H b = Ha b) ∧ f 0 = v0 ∧ f 1 = Value.int .i64 (markFrom (fun y m => ((PF.laws_markIntS y m).1, (PF.laws_markIntS y m).2)) a0 a1).2) ⟨_, _, S0, n0, rfl, fun _ _ _ => rfl, rfl, rfl, rfl⟩ ?_ ?_) ?_
 ·
  rintro i y xs m f1 w1 ⟨H1, c1, S1, n1, hb, ho, kv, kk, kc⟩ hx hy
  obtain ⟨p, hpt, wr0, hB, hr, nd⟩ := n1.begin hy (by decide)
  obtain ⟨u0, hci, hu0⟩ := eL_open hr
  have rd := wr0.opens hci
  refine FW.seq (FW.seq (FW.region ?_))
  refine FL.v (E.move kc) ?_
  refine FL.v (E.move kv) ?_
  refine FL.v (E.len te22 rfl hln) ?_
  refine FL.v (E.lssT rfl rfl (lss_len hx)) ?_
  refine FL.nil ?_
  refine FW.condT rfl rfl ?_
  refine FW.skip (FW.seq (FW.block (FW.region ?_)))
  refine FL.v (E.move kv) ?_
  refine FL.v (E.move kc) ?_
  refine FL.v (E.indexAddr te22 rfl rfl hpt) ?_
  refine FL.v (E.load rfl (run_load0 Tryz.isAgg44 (rd.now S1.sl) rfl)) ?_
  refine FL.v (E.move kk) ?_
  refine FL.call rfl rfl rfl (E.call Tryz.call27 (A2 rfl rfl)) (w_laws_markIntS S1 hs0 u0 y hu0 m) ?_
  rintro e w22 ⟨H21, rfl, S23, h24, o25⟩
  refine ⟨_, rfl, ?_⟩
  have wr26 := rd.inner (j := 0) rfl o25
  refine FL.v (E.assign (v := Value.int .i64 ((PF.laws_markIntS y m).2)) rfl) ?_
  refine FL.nil (FW.region ?_)
  refine FL.v (E.move kc) ?_
  refine FL.v (E.add rfl rfl) ?_
  refine FL.v (E.assign (v := Value.int .i64 (wr (((i : Nat) : Int) + 1))) rfl) ?_
  refine FL.nil ?_
  obtain ⟨c2, n2, hb2, ho2⟩ := n1.round (eL_loc eI_flat) hy (by decide) hpt wr26 (y' := (PF.laws_markIntS y m).1) ⟨_, rfl, h24⟩
  exact ⟨rfl, _, _, S23, n2, hb2.trans hb, fun b q1 q2 => (ho2 b q1 (by rw [hb]; exact q2)).trans (ho b q1 q2), kv, rfl, nat_succ rfl (lt_of_get hx) hle⟩
 ·
  rintro f1 w1 ⟨H1, c1, S1, n1, hb, ho, kv, kk, kc⟩
  refine FW.seq (FW.seq (FW.region ?_))
  refine FL.v (E.move kc) ?_
  refine FL.v (E.move kv) ?_
  refine FL.v (E.len te22 rfl hln) ?_
  refine FL.v (E.lss rfl rfl) ?_
  refine FL.nil ?_
  refine FW.condF rfl dlt_len ?_
  refine FW.exit ?_
  exact ⟨nofun, rfl, _, _, S1, n1, hb, ho, kv, kk⟩
 ·
  rintro e f2 w2 ⟨rfl, H2, c2, S2, n2, hb, ho, kv, kk⟩
  refine FW.seq (FW.region ?_)
  refine FL.v (E.move kk) ?_
  refine FL.v (E.assign (v := Value.int .i64 ((markFrom (fun y m => ((PF.laws_markIntS y m).1, (PF.laws_markIntS y m).2)) a0 a1).2)) rfl) ?_
  refine FL.nil ?_
  refine FW.ret ?_
  exact ⟨.inr rfl, res1 rfl rfl ⟨_, _, rfl, S2, n2, hb, fun b q1 q2 => weak (F := fun b => b ∉ bl [v0] ∧ b ∉ bl c0) (fun b q => ho b q.1 q.2) b ⟨q1, q2⟩⟩⟩

@[reducible] def p_laws_markCnf (H0 : GH) (w0 : World) (Ha : GH) (l : List MO) (v0 : Value) (c0 : List Value) (r : Cnf × Int) : Ending → World → Prop := fun e w' =>
 ∃ (H' : GH) (c' : List Value), e = .returned (.int .i64 r.2) ∧ St H0 w0 H' w' l ∧ Nest (up w0.heap.size H') (eL eI 1) 1 v0 r.1.clauses c' ∧ bl c' = bl c0 ∧ ∀ b, b ∉ bl [v0] → b ∉ bl c0 → ∀ o, Ha b = some o → H' b = some o
theorem w_laws_markCnf {H0 Ha : GH} {w0 wa : World} {l : List MO} (S0 : St H0 w0 Ha wa l) (hs0 : Sl H0 w0) (a0 : Cnf) (v0 : Value) (c0 : List Value) (n0 : Nest (up w0.heap.size Ha) (eL eI 1) 1 v0 a0.clauses c0) (a1 : Int) :
  Calls Tryz.prog 16 #[.agg #[Value.int .i64 a0.vars, v0], Value.int .i64 a1] wa (p_laws_markCnf H0 w0 Ha l v0 c0 (PF.laws_markCnf a0 a1)) := by
 refine calls_go (N := 10) (args := [.agg #[Value.int .i64 a0.vars, v0], Value.int .i64 a1]) Tryz.func16 rfl rfl rfl ?_
 refine FW.seq (FW.region ?_)
 obtain ⟨b21, w22, run23, S24⟩ := S0.box (P := Tryz.prog) 28 [Value.int .i64 a0.vars, v0] (v := Value.agg #[Value.int .i64 a0.vars, v0]) rfl (ones_cons rfl (ones_cons n0.rsl.one ones_nil))
 refine FL.v (E.box rfl run23) ?_
 obtain ⟨H25, S26, i27, at28⟩ := S24.sealBox (i := 0) (l' := l) rfl rfl
 refine FL.v (E.assign (v := Value.int .i64 0) rfl) ?_
 refine FL.nil (FW.seq (FW.region ?_))
 refine FL.v (E.fieldAddr tf28_1 rfl) ?_
 refine FL.v (E.load rfl (run_load1 Tryz.isAgg22 (at28.now S26.sl) rfl)) ?_
 refine FL.v (E.move (v := Value.int .i64 a1) rfl) ?_
 refine FL.call rfl rfl rfl (E.call Tryz.call26 (A2 rfl rfl)) (w_laws_markIntSS S26 hs0 v0 a0.clauses c0 (n0.mono (up_mono i27)) a1) ?_
 rintro e w30 ⟨H29, c34, rfl, S31, h32, hb35, o33⟩
 refine ⟨_, rfl, ?_⟩
 refine FL.v (E.assign (v := Value.int .i64 ((PF.laws_markIntSS a0.clauses a1).2)) rfl) ?_
 refine FL.nil (FW.seq (FW.region ?_))
 refine FL.v (E.move (v := Value.int .i64 ((PF.laws_markIntSS a0.clauses a1).2)) rfl) ?_
 refine FL.v (E.assign (v := Value.int .i64 ((PF.laws_markIntSS a0.clauses a1).2)) rfl) ?_
 refine FL.nil ?_
 refine FW.ret ?_
 exact ⟨.inr rfl, res1 rfl rfl ⟨_, _, rfl, S31, h32, hb35, fun b q1 q2 o ho => o33 b q1 q2 o (i27 b o ho)⟩⟩

theorem w_laws_heldIntS {Ha : GH} {wa : World} (hs : Sl Ha wa) (v0 : Value) (a0 : List Int) (p0 : RSl Ha eI 1 v0 a0) (a1 : Int) {r : Int} (hp : (PF.laws_heldIntS a0 a1) = some r) :
  Calls Tryz.prog 28 #[v0, Value.int .i64 a1] wa (Sc Ha wa (Value.int .i64 r)) := by
 unfold PF.laws_heldIntS at hp
 have S0 := St.init hs
 refine calls_go (N := 21) (args := [v0, Value.int .i64 a1]) Tryz.func28 rfl rfl rfl ?_
 refine FW.seq (FW.region ?_)
 refine FL.v (E.assign (v := Value.int .i64 0) rfl) ?_
 refine FL.nil (FW.seq (FW.seq (FW.region ?_)))
 refine FL.v (E.assign (v := Value.int .i64 0) rfl) ?_
 refine FL.nil ?_
 obtain ⟨q22, hq, hp⟩ := bndR hp
 refine FW.block ?_
 refine FW.mono (FW.forL (S := Int) (X := Int) (fun (i22 : Nat) (s22 : Int) f w => ∃ H : GH, St Ha wa H w [] ∧ Inc Ha H ∧ f 5 = Value.int .i64 ((i22 : Nat) : Int) ∧ f 0 = v0 ∧ f 1 = Value.int .i64 s22) (fun q e f w => match q with | .go s22 => e = Exit.exit 0 ∧ (∃ H : GH, St Ha wa H w [] ∧ Inc Ha H ∧ f 1 = Value.int .i64 s22) | .rt x => ((e = Exit.ret) ∧ (fun e f w => (e = Exit.normal ∨ e = Exit.ret) ∧ ∀ a, Fr (δ := []) 21 a f → ∃ v, (results Tryz.f28 a.tmps).run Tryz.prog w = .ok v w ∧ (Sc Ha wa (Value.int .i64 x)) (.returned v) w) e f w)) hq ⟨_, S0, (Inc.rfl _), rfl, rfl, rfl⟩ ?_ ?_) ?_
 ·
  clear hp hq
  rintro i22 y21 s22 f42 w41 ⟨H38, S39, i40, k43, k44, k45⟩ hx22 o53 hp
  refine FW.seq (FW.seq (FW.region ?_))
  refine FL.v (E.move k43) ?_
  refine FL.v (E.move k44) ?_
  refine FL.v (E.lenP te44 rfl p0) ?_
  refine FL.v (E.lssT rfl rfl (lss_len hx22)) ?_
  refine FL.nil ?_
  refine FW.condT rfl rfl ?_
  refine FW.skip (FW.seq (FW.block (FW.seq (FW.seq (FW.region ?_)))))
  refine FL.v (E.move k44) ?_
  refine FL.v (E.move k43) ?_
  obtain ⟨p46, cs47, pt48, l49, at50, rel51⟩ := p0.at (ix_nat hx22)
  obtain rfl := eI_open rel51
  refine FL.v (E.indexAddr te44 rfl rfl pt48) ?_
  refine FL.v (E.load rfl (run_load0 Tryz.isAgg3 ((at50.mono i40).now S39.sl) rfl)) ?_
  refine FL.v (E.move k45) ?_
  refine FL.v (E.neq rfl rfl) ?_
  refine FL.nil ?_
  rcases ifB hp with ⟨c52, hp⟩ | ⟨c52, hp⟩
  ·
   refine FW.condT rfl c52 ?_
   refine FW.seq (FW.region ?_)
   refine FL.v (E.assign (v := Value.int .i64 (-1)) rfl) ?_
   refine FL.nil ?_
   refine FW.ret ?_
   obtain rfl := Option.some.inj hp
   exact ⟨nofun, rfl, ⟨.inr rfl, res1 rfl rfl ⟨rfl, S39.back⟩⟩⟩
  ·
   refine FW.condF rfl c52 ?_
   refine FW.skip (FW.region ?_)
   refine FL.v (E.move k45) ?_
   refine FL.v (E.add rfl rfl) ?_
   refine FL.v (E.assign (v := Value.int .i64 (wr (s22 + 1))) rfl) ?_
   refine FL.nil (FW.region ?_)
   refine FL.v (E.move k43) ?_
   refine FL.v (E.add rfl rfl) ?_
   refine FL.v (E.assign (v := Value.int .i64 (wr (((i22 : Nat) : Int) + 1))) rfl) ?_
   refine FL.nil ?_
   obtain rfl := Option.some.inj hp
   exact ⟨rfl, ⟨_, S39, i40, (nat_succ rfl (lt_of_get hx22) (p0.mono i40).le), k44, rfl⟩⟩
 ·
  clear hp hq
  rintro s22 f64 w63 ⟨H60, S61, i62, k65, k66, k67⟩
  refine FW.seq (FW.seq (FW.region ?_))
  refine FL.v (E.move k65) ?_
  refine FL.v (E.move k66) ?_
  refine FL.v (E.lenP te44 rfl p0) ?_
  refine FL.v (E.lss rfl rfl) ?_
  refine FL.nil ?_
  refine FW.condF rfl dlt_len ?_
  refine FW.exit ?_
  exact ⟨nofun, rfl, ⟨_, S61, i62, k67⟩⟩
 ·
  clear hq
  intro e f58 w57 hD
  rcases q22 with s22 | x22
  ·
   obtain ⟨rfl, hD⟩ := hD
   obtain ⟨H54, S55, i56, k59⟩ := hD
   replace hp := el_go hp
   refine FW.seq (FW.region ?_)
   refine FL.v (E.move k59) ?_
   refine FL.v (E.assign (v := Value.int .i64 s22) rfl) ?_
   refine FL.nil ?_
   refine FW.ret ?_
   obtain rfl := Option.some.inj hp
   exact ⟨.inr rfl, res1 rfl rfl ⟨rfl, S55.back⟩⟩
  ·
   obtain ⟨he, hL⟩ := hD
   replace hp := el_rt hp
   obtain rfl := Option.some.inj hp
   subst he
   exact hL

theorem w_laws_heldIntSS {Ha : GH} {wa : World} (hs : Sl Ha wa) (v0 : Value) (a0 : List (List Int)) (p0 : RSl Ha (eL eI 1) 1 v0 a0) (a1 : Int) {r : Int} (hp : (PF.laws_heldIntSS a0 a1) = some r) :
  Calls Tryz.prog 31 #[v0, Value.int .i64 a1] wa (Sc Ha wa (Value.int .i64 r)) := by
 unfold PF.laws_heldIntSS at hp
 have S0 := St.init hs
 refine calls_go (N := 21) (args := [v0, Value.int .i64 a1]) Tryz.func31 rfl rfl rfl ?_
 refine FW.seq (FW.region ?_)
 refine FL.v (E.assign (v := Value.int .i64 0) rfl) ?_
 refine FL.nil (FW.seq (FW.seq (FW.region ?_)))
 refine FL.v (E.assign (v := Value.int .i64 0) rfl) ?_
 refine FL.nil ?_
 obtain ⟨q22, hq, hp⟩ := bndR hp
 refine FW.block ?_
 refine FW.mono (FW.forL (S := Int) (X := Int) (fun (i22 : Nat) (s22 : Int) f w => ∃ H : GH, St Ha wa H w [] ∧ Inc Ha H ∧ f 5 = Value.int .i64 ((i22 : Nat) : Int) ∧ f 0 = v0 ∧ f 1 = Value.int .i64 s22) (fun q e f w => match q with | .go s22 => e = Exit.exit 0 ∧ (∃ H : GH, St Ha wa H w [] ∧ Inc Ha H ∧ f 1 = Value.int .i64 s22) | .rt x => ((e = Exit.ret) ∧ (fun e f w => (e = Exit.normal ∨ e = Exit.ret) ∧ ∀ a, Fr (δ := []) 21 a f → ∃ v, (results Tryz.f31 a.tmps).run Tryz.prog w = .ok v w ∧ (Sc Ha wa (Value.int .i64 x)) (.returned v) w) e f w)) hq ⟨_, S0, (Inc.rfl _), rfl, rfl, rfl⟩ ?_ ?_) ?_
 ·
  clear hp hq
  rintro i22 y21 s22 f49 w48 ⟨H45, S46, i47, k50, k51, k52⟩ hx22 o67 hp
  refine FW.seq (FW.seq (FW.region ?_))
  refine FL.v (E.move k50) ?_
  refine FL.v (E.move k51) ?_
  refine FL.v (E.lenP te22 rfl p0) ?_
  refine FL.v (E.lssT rfl rfl (lss_len hx22)) ?_
  refine FL.nil ?_
  refine FW.condT rfl rfl ?_
  refine FW.skip (FW.seq (FW.block (FW.seq (FW.region ?_))))
  refine FL.v (E.move k51) ?_
  refine FL.v (E.move k50) ?_
  obtain ⟨p53, cs54, pt55, l56, at57, rel58⟩ := p0.at (ix_nat hx22)
  obtain ⟨v59, rfl, h60⟩ := eL_open rel58
  refine FL.v (E.indexAddr te22 rfl rfl pt55) ?_
  refine FL.v (E.load rfl (run_load0 Tryz.isAgg44 ((at57.mono i47).now S46.sl) rfl)) ?_
  refine FL.v (E.move k52) ?_
  obtain ⟨r61, hr62, hp⟩ := bnd hp
  refine FL.call rfl rfl rfl (E.call Tryz.call28 (A2 rfl rfl)) (w_laws_heldIntS S46.sl v59 y21 (h60.mono i47) s22 hr62) ?_
  rintro e w63 ⟨rfl, r64⟩
  refine ⟨_, rfl, ?_⟩
  have S65 := S46.call r64
  refine FL.v (E.assign (v := Value.int .i64 r61) rfl) ?_
  refine FL.nil (FW.seq (FW.region ?_))
  refine FL.v (E.move (v := Value.int .i64 r61) rfl) ?_
  refine FL.v (E.lss rfl rfl) ?_
  refine FL.nil ?_
  rcases ifB hp with ⟨c66, hp⟩ | ⟨c66, hp⟩
  ·
   refine FW.condT rfl c66 ?_
   refine FW.seq (FW.region ?_)
   refine FL.v (E.assign (v := Value.int .i64 (-1)) rfl) ?_
   refine FL.nil ?_
   refine FW.ret ?_
   obtain rfl := Option.some.inj hp
   exact ⟨nofun, rfl, ⟨.inr rfl, res1 rfl rfl ⟨rfl, S65.back⟩⟩⟩
  ·
   refine FW.condF rfl c66 ?_
   refine FW.skip (FW.region ?_)
   refine FL.v (E.move k50) ?_
   refine FL.v (E.add rfl rfl) ?_
   refine FL.v (E.assign (v := Value.int .i64 (wr (((i22 : Nat) : Int) + 1))) rfl) ?_
   refine FL.nil ?_
   obtain rfl := Option.some.inj hp
   exact ⟨rfl, ⟨_, S65, i47, (nat_succ rfl (lt_of_get hx22) (p0.mono i47).le), k51, rfl⟩⟩
 ·
  clear hp hq
  rintro s22 f78 w77 ⟨H74, S75, i76, k79, k80, k81⟩
  refine FW.seq (FW.seq (FW.region ?_))
  refine FL.v (E.move k79) ?_
  refine FL.v (E.move k80) ?_
  refine FL.v (E.lenP te22 rfl p0) ?_
  refine FL.v (E.lss rfl rfl) ?_
  refine FL.nil ?_
  refine FW.condF rfl dlt_len ?_
  refine FW.exit ?_
  exact ⟨nofun, rfl, ⟨_, S75, i76, k81⟩⟩
 ·
  clear hq
  intro e f72 w71 hD
  rcases q22 with s22 | x22
  ·
   obtain ⟨rfl, hD⟩ := hD
   obtain ⟨H68, S69, i70, k73⟩ := hD
   replace hp := el_go hp
   refine FW.seq (FW.region ?_)
   refine FL.v (E.move k73) ?_
   refine FL.v (E.assign (v := Value.int .i64 s22) rfl) ?_
   refine FL.nil ?_
   refine FW.ret ?_
   obtain rfl := Option.some.inj hp
   exact ⟨.inr rfl, res1 rfl rfl ⟨rfl, S69.back⟩⟩
  ·
   obtain ⟨he, hL⟩ := hD
   replace hp := el_rt hp
   obtain rfl := Option.some.inj hp
   subst he
   exact hL

end Go.Proofs
