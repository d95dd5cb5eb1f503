/- Part of the walks and plain laws behind the claim: it proves helpers, under no condition beyond their own. -/
import Derived.Test.YtmpfnnkmplkfoaaGreatCrWk1
set_option linter.unusedVariables false
set_option maxRecDepth 100000
namespace Go.Proofs
open Go.Mr Go.Pu Go.PF Go.RowKit

@[reducible] def p_impl_withoutVar (Ha : GH) (wa : World) (r : (List Int)) : Ending → World → Prop :=
 fun e w' => ∃ H' : GH, ∃ v0 : Value, ∃ n0 : Nat, ∃ c0 : List Value, e = .returned (v0) ∧ St Ha wa H' w' [.row 3 1 v0 n0 c0] ∧ Els (up wa.heap.size H') eI 1 c0 r
theorem w_impl_withoutVar {Ha : GH} {wa : World} (hs : Sl Ha wa) (v0 : Value) (a0 : List Int) (p0 : RSl Ha eI 1 v0 a0) (a1 : Int) {r : (List Int)} (hp : (PF.impl_withoutVar a0 a1) = some r) :
  Calls Tryz.prog 182 #[v0, Value.int .i64 a1] wa (p_impl_withoutVar Ha wa r) := by
 unfold PF.impl_withoutVar at hp
 have S0 := St.init hs
 refine calls_go (N := 9) (args := [v0, Value.int .i64 a1]) Tryz.func182 rfl rfl rfl ?_
 refine FW.seq (FW.region ?_)
 obtain ⟨b21, w22, run23, S24⟩ := S0.box (P := Tryz.prog) 3 [Value.int .i64 a1] (v := Value.int .i64 a1) rfl (ones_cons rfl ones_nil)
 refine FL.v (E.box rfl run23) ?_
 obtain ⟨H25, S26, i27, at28⟩ := S24.sealBox (i := 0) (l' := []) rfl rfl
 refine FL.v (E.assign (v := Value.slice none 0 0) rfl) ?_
 refine FL.nil (FW.seq (FW.region ?_))
 refine FL.v (E.move (v := v0) rfl) ?_
 obtain ⟨r29, hr30, hp⟩ := bnd hp
 refine FL.call rfl rfl rfl (E.call Tryz.call62 (A1 rfl)) (w_slices_Clone_int_int S26.sl v0 a0 (p0.mono i27) hr30) ?_
 rintro e w32 ⟨H31, v35, n36, cs37, rfl, r34, els38⟩
 refine ⟨_, rfl, ?_⟩
 have els38 := els38.mono (up_le S26.size)
 have S33 := S26.join (l' := [.row 3 1 v35 n36 cs37]) r34 rfl
 refine FL.v (E.makeFunc A0 (A1 rfl)) ?_
 obtain ⟨r39, hr40, hp⟩ := bnd hp
 refine FL.call rfl rfl rfl (E.call Tryz.call222 (A2 rfl rfl)) (w_slices_DeleteFunc_int_int (L := []) S33 r29 els38 (Value.func (.func 223) #[] #[Value.pointer (some ⟨b21, 0, none⟩)]) (fun x0 => some (PF.impl_withoutVar_1 x0 a1)) (fun H2 w2 hi2 hs2 x0 r hr => ⟨223, #[Value.pointer (some ⟨b21, 0, none⟩)], rfl, Tryz.call223, by cases hr; exact w_impl_withoutVar_1 hs2 x0 ⟨b21, 0, none⟩ a1 ((at28.mono r34.run.inc).mono hi2)⟩) hr40) ?_
 rintro e w42 ⟨H41, v45, n46, cs47, rfl, ⟨S43, i44⟩, els48⟩
 refine ⟨_, rfl, ?_⟩
 have S43 : St Ha wa H41 w42 [.row 3 1 v45 n46 cs47] := S43
 refine FL.v (E.assign (v := v45) rfl) ?_
 refine FL.nil ?_
 refine FW.ret ?_
 obtain rfl := Option.some.inj hp
 exact ⟨.inr rfl, res1 rfl rfl ⟨_, _, _, _, rfl, S43, els48⟩⟩

@[reducible] def p_slices_Grow_int_int (Ha : GH) (wa : World) (r : List Int) : Ending → World → Prop :=
  fun e w' => ∃ H' : GH, ∃ v0 : Value, ∃ n0 : Nat, ∃ c0 : List Value, e = .returned (v0) ∧ St Ha wa H' w' [.row 3 1 v0 n0 c0] ∧ Els (up wa.heap.size H') eI 1 c0 r
theorem w_slices_Grow_int_int {Ha : GH} {wa : World} (hs : Sl Ha wa) (a1 : Int) {r : List Int} (hp : PF.slices_Grow_int_int a1 = some r) :
    Calls Tryz.prog 237 #[.slice none 0 0, .int .i64 a1] wa (p_slices_Grow_int_int Ha wa r) := by
  unfold PF.slices_Grow_int_int at hp
  split at hp
  · rename_i h
    cases hp
    refine (growNil (En := eI) te84 hs h.1 h.2 (fun w => Any8.slices_Grow_room (P := Tryz.prog) Tryz.grow237 none 0 0 0 w (Nat.le_refl _) (by decide) (by decide) (by decide))
      (fun n w h0 hl => ?_)).mono ?_
    · have h := Any8.slices_Grow_grow (P := Tryz.prog) Tryz.grow237 _ _ Tryz.type3 rfl (by decide) none 0 0 n [] w (Nat.le_refl _) (by omega) ?_ (by unfold lim at hl; omega) (by simp) (fun _ => rfl) (by simp)
      · refine h.mono ?_
        rintro _ _ ⟨rfl, rfl⟩
        refine ⟨by simp; rfl, ?_⟩
        simp
        rfl
      · rw [Nat.zero_add]; refine Nat.le_trans (Nat.mul_le_mul hl (show _ ≤ 4096 by decide)) (by decide)
    · rintro e w' ⟨v, n, c, rfl, h1, h2⟩
      exact ⟨_, _, _, _, rfl, h1, h2 _⟩
  · cases hp

@[reducible] def p_slices_Concat_int_int (Ha : GH) (wa : World) (r : (List Int)) : Ending → World → Prop :=
  fun e w' => ∃ H' : GH, ∃ v0 : Value, ∃ n0 : Nat, ∃ c0 : List Value, e = .returned (v0) ∧ St Ha wa H' w' [.row 3 1 v0 n0 c0] ∧ Els (up wa.heap.size H') eI 1 c0 r
theorem w_slices_Concat_int_int {Ha : GH} {wa : World} (hs : Sl Ha wa) (v0 : Value) (a0 : List (List Int)) (p0 : RSl Ha (eL eI 1) 1 v0 a0) {r : (List Int)} (hp : (PF.slices_Concat_int_int a0) = some r) :
    Calls Tryz.prog 221 #[v0] wa (p_slices_Concat_int_int Ha wa r) := by
  unfold PF.slices_Concat_int_int at hp
  have S0 := St.init hs
  refine calls_go (N := 36) (args := [v0]) Tryz.func221 rfl rfl rfl ?_
  refine FW.seq (FW.region ?_)
  refine FL.v (E.assign (v := Value.slice none 0 0) rfl) ?_
  refine FL.nil (FW.seq (FW.region ?_))
  refine FL.v (E.assign (v := Value.int .i64 0) rfl) ?_
  refine FL.nil (FW.seq (FW.seq (FW.region ?_)))
  refine FL.v (E.move (v := v0) rfl) ?_
  refine FL.v (E.lenP te22 rfl p0) ?_
  refine FL.v (E.move (v := Value.int .i64 0) rfl) ?_
  refine FL.nil ?_
  obtain ⟨q22, hq, hp⟩ := bndR hp
  refine FW.block ?_
  refine FW.mono (FW.forL (S := Int) (X := Empty) (fun (i22 : Nat) (s22 : Int) f w => ∃ H : GH, St Ha wa H w [] ∧ Inc Ha H ∧ f 11 = Value.int .i64 ((i22 : Nat) : Int) ∧ f 0 = v0 ∧ f 3 = Value.int .i64 s22 ∧ f 9 = v0 ∧ f 10 = Value.int .i64 (len a0)) (fun (q : Rs Int Empty) e f w => match q with | .go s22 => e = Exit.exit 0 ∧ (∃ H : GH, St Ha wa H w [] ∧ Inc Ha H ∧ f 0 = v0 ∧ f 3 = Value.int .i64 s22) | .rt x => x.elim) hq ⟨_, S0, (Inc.rfl _), rfl, rfl, rfl, rfl, rfl⟩ ?_ ?_) ?_
  ·
    clear hp hq
    rintro i22 y21 s22 f46 w45 ⟨H42, S43, i44, k47, k48, k49, k50, k51⟩ hx22 o61 hp
    refine FW.seq (FW.region ?_)
    refine FL.v (E.lssT k47 k51 (lss_len hx22)) ?_
    refine FL.nil (FW.seq ?_)
    refine FW.condT rfl rfl ?_
    refine FW.skip (FW.seq (FW.block (FW.seq (FW.region ?_))))
    obtain ⟨p52, cs53, pt54, l55, at56, rel57⟩ := p0.at (ix_nat hx22)
    obtain ⟨v58, rfl, h59⟩ := eL_open rel57
    refine FL.v (E.indexAddr te22 k50 k47 pt54) ?_
    refine FL.v (E.load rfl (run_load0 Tryz.isAgg84 ((at56.mono i44).now S43.sl) rfl)) ?_
    refine FL.v (E.assign (v := v58) rfl) ?_
    refine FL.nil (FW.seq (FW.region ?_))
    refine FL.v (E.move k49) ?_
    refine FL.v (E.move (v := v58) rfl) ?_
    refine FL.v (E.lenP te84 rfl h59) ?_
    refine FL.v (E.add rfl rfl) ?_
    refine FL.v (E.assign (v := Value.int .i64 (wr (s22 + (len y21)))) rfl) ?_
    refine FL.nil (FW.seq (FW.region ?_))
    refine FL.v (E.move (v := Value.int .i64 (wr (s22 + (len y21)))) rfl) ?_
    refine FL.v (E.lss rfl rfl) ?_
    refine FL.nil ?_
    rcases ifB hp with ⟨c60, hp⟩ | ⟨c60, hp⟩
    ·
      refine FW.condT rfl c60 ?_
      cases hp
    ·
      refine FW.condF rfl c60 ?_
      refine FW.skip (FW.region ?_)
      refine FL.v (E.add k47 rfl) ?_
      refine FL.v (E.move (v := Value.int .i64 (wr (((i22 : Nat) : Int) + 1))) rfl) ?_
      refine FL.nil ?_
      obtain rfl := Option.some.inj hp
      exact ⟨rfl, ⟨_, S43, i44, (nat_succ rfl (lt_of_get hx22) (p0.mono i44).le), k48, rfl, k50, k51⟩⟩
  ·
    clear hp hq
    rintro s22 f159 w158 ⟨H155, S156, i157, k160, k161, k162, k163, k164⟩
    refine FW.seq (FW.region ?_)
    refine FL.v (E.lss k160 k164) ?_
    refine FL.nil (FW.seq ?_)
    refine FW.condF rfl dlt_len ?_
    refine FW.exit ?_
    exact ⟨nofun, rfl, ⟨_, S156, i157, k161, k162⟩⟩
  ·
    clear hq
    intro e f66 w65 hD
    rcases q22 with s22 | x22
    ·
      obtain ⟨rfl, hD⟩ := hD
      obtain ⟨H62, S63, i64, k67, k68⟩ := hD
      replace hp := el_go hp
      refine FW.seq (FW.region ?_)
      refine FL.v (E.move k68) ?_
      obtain ⟨r69, hr70, hp⟩ := bnd hp
      refine FL.call rfl rfl rfl (E.call Tryz.call237 (A2 rfl rfl)) (w_slices_Grow_int_int S63.sl s22 hr70) ?_
      rintro e w72 ⟨H71, v75, n76, cs77, rfl, r74, els78⟩
      refine ⟨_, rfl, ?_⟩
      have els78 := els78.mono (up_le S63.size)
      have S73 := S63.join (l' := [.row 3 1 v75 n76 cs77]) r74 rfl
      refine FL.v (E.assign (v := v75) rfl) ?_
      refine FL.nil (FW.seq (FW.seq (FW.region ?_)))
      refine FL.v (E.move k67) ?_
      refine FL.v (E.lenP te22 rfl p0) ?_
      refine FL.v (E.move (v := Value.int .i64 0) rfl) ?_
      refine FL.nil ?_
      obtain ⟨q80, hq, hp⟩ := bndR hp
      refine FW.block ?_
      refine FW.mono (FW.forL (S := (List Int)) (X := Empty) (fun (i80 : Nat) (s80 : (List Int)) f w => ∃ H : GH, ∃ v81 : Value, ∃ n82 : Nat, ∃ cs83 : List Value, St Ha wa H w [.row 3 1 v81 n82 cs83] ∧ Inc H71 H ∧ Els (up wa.heap.size H) eI 1 cs83 s80 ∧ f 27 = Value.int .i64 ((i80 : Nat) : Int) ∧ f 6 = v81 ∧ f 25 = v0 ∧ f 26 = Value.int .i64 (len a0)) (fun (q : Rs (List Int) Empty) e f w => match q with | .go s80 => e = Exit.exit 2 ∧ (∃ H : GH, ∃ v81 : Value, ∃ n82 : Nat, ∃ cs83 : List Value, St Ha wa H w [.row 3 1 v81 n82 cs83] ∧ Inc H71 H ∧ Els (up wa.heap.size H) eI 1 cs83 s80 ∧ f 6 = v81) | .rt x => x.elim) hq ⟨_, _, _, _, S73, (Inc.rfl _), els78, rfl, rfl, rfl, rfl⟩ ?_ ?_) ?_
      ·
        clear hp hq
        rintro i80 y79 s80 f116 w115 ⟨H112, v81, n82, cs83, S113, i114, els84, k117, k118, k119, k120⟩ hx80 o139 hp
        refine FW.seq (FW.region ?_)
        refine FL.v (E.lssT k117 k120 (lss_len hx80)) ?_
        refine FL.nil (FW.seq ?_)
        refine FW.condT rfl rfl ?_
        refine FW.skip (FW.seq (FW.block (FW.seq (FW.region ?_))))
        obtain ⟨p121, cs122, pt123, l124, at125, rel126⟩ := p0.at (ix_nat hx80)
        obtain ⟨v127, rfl, h128⟩ := eL_open rel126
        refine FL.v (E.indexAddr te22 k119 k117 pt123) ?_
        refine FL.v (E.load rfl (run_load0 Tryz.isAgg84 ((at125.mono ((i64.tr r74.run.inc).tr i114)).now S113.sl) rfl)) ?_
        refine FL.v (E.assign (v := v127) rfl) ?_
        refine FL.nil (FW.region ?_)
        refine FL.v (E.move k118) ?_
        refine FL.v (E.move (v := v127) rfl) ?_
        obtain ⟨xs129, hz130, hp⟩ := bnd hp
        obtain ⟨v131, w134, n132, cs133, run135, S136, els137⟩ := S113.appendP (P := Tryz.prog) (Inc.rfl _) te84 (i := 0) rfl (els84.mono upI) (h128.mono ((i64.tr r74.run.inc).tr i114)) hz130
        have S136 : St Ha wa H112 w134 [.row 3 1 v131 n132 cs133] := S136
        have els137 : Els (up wa.heap.size H112) eI 1 cs133 xs129 := els137.any (fun _ _ _ _ h => h)
        refine FL.v (E.append rfl rfl run135) ?_
        refine FL.v (E.assign (v := v131) rfl) ?_
        refine FL.nil (FW.region ?_)
        refine FL.v (E.add k117 rfl) ?_
        refine FL.v (E.move (v := Value.int .i64 (wr (((i80 : Nat) : Int) + 1))) rfl) ?_
        refine FL.nil ?_
        obtain rfl := Option.some.inj hp
        exact ⟨rfl, ⟨_, _, _, _, S136, i114, els137, (nat_succ rfl (lt_of_get hx80) (p0.mono ((i64.tr r74.run.inc).tr i114)).le), rfl, k119, k120⟩⟩
      ·
        clear hp hq
        rintro s80 f150 w149 ⟨H146, v81, n82, cs83, S147, i148, els84, k151, k152, k153, k154⟩
        refine FW.seq (FW.region ?_)
        refine FL.v (E.lss k151 k154) ?_
        refine FL.nil (FW.seq ?_)
        refine FW.condF rfl dlt_len ?_
        refine FW.exit ?_
        exact ⟨nofun, rfl, ⟨_, _, _, _, S147, i148, els84, k152⟩⟩
      ·
        clear hq
        intro e f144 w143 hD
        rcases q80 with s80 | x80
        ·
          obtain ⟨rfl, hD⟩ := hD
          obtain ⟨H140, v81, n82, cs83, S141, i142, els84, k145⟩ := hD
          replace hp := el_go hp
          refine FW.seq (FW.region ?_)
          refine FL.v (E.move k145) ?_
          refine FL.v (E.assign (v := v81) rfl) ?_
          refine FL.nil ?_
          refine FW.ret ?_
          obtain rfl := Option.some.inj hp
          exact ⟨.inr rfl, res1 rfl rfl ⟨_, _, _, _, rfl, S141, els84⟩⟩
        · exact x80.elim
    · exact x22.elim

@[reducible] def p_slices_SortFunc_int_int (H0 : GH) (w0 : World) (Ha : GH) (L : List MO) (v0 : Value) (n0 : Nat) (r : (List Int)) : Ending → World → Prop :=
 fun e w' => ∃ H' : GH, ∃ c0k : List Value, e = .returned (Value.tuple #[]) ∧ (St H0 w0 H' w' (.row 3 1 v0 n0 c0k :: L) ∧ Inc Ha H') ∧ Els (up w0.heap.size H') eI 1 c0k r
theorem w_slices_SortFunc_int_int {H0 Ha : GH} {w0 wa : World} {L : List MO} {v0 : Value} {n0 : Nat} {k0 : List Value} (S0 : St H0 w0 Ha wa (.row 3 1 v0 n0 k0 :: L)) (a0 : List Int) (p0 : Els (up w0.heap.size Ha) eI 1 k0 a0) (v1 : Value) (a1 : Int → Int → Option Int) (p1 : Fn_I_I_to_I Tryz.prog Ha v1 a1) {r : (List Int)} (hp : (PF.slices_SortFunc_int_int a0 a1) = some r) :
  Calls Tryz.prog 235 #[v0, v1] wa (p_slices_SortFunc_int_int H0 w0 Ha L v0 n0 r) := by
 refine (St.sortF (l := .row 3 1 v0 n0 k0 :: L) (i := 0) upI S0 rfl p0 (fun H2 w2 hi hs2 c x hc d y hd r hr => by cases eI_open hc; cases eI_open hd; exact p1 H2 w2 hi hs2 x y r hr) (fun p cap fv w => AnyF.slices_SortFunc_none (P := Tryz.prog) (ρ := Tryz.sort235_ren) { Tryz.sort235 with } p cap fv w) (fun α _ enc h1 cf hO g cb blk off cap d w eg hc hH hb hs => Any.slices_SortFunc Tryz.sort235 enc h1 cf hO g cb blk off cap d w eg hc hH hb hs) hp).mono ?_
 rintro e w' ⟨rfl, c', h1, h2, hq⟩
 exact ⟨_, _, rfl, ⟨h1, Inc.rfl _⟩, h2⟩

theorem w_cmp_isNaN_int {Ha : GH} {wa : World} (hs : Sl Ha wa) (a0 : Int) :
  Calls Tryz.prog 165 #[Value.int .i64 a0] wa (Sc Ha wa (Value.bool (PF.cmp_isNaN_int a0))) := by
 obtain ⟨r, hp⟩ : ∃ r, (PF.cmp_isNaN_int a0) = r := ⟨_, rfl⟩
 rw [hp]
 unfold PF.cmp_isNaN_int at hp
 have S0 := St.init hs
 refine calls_go (N := 6) (args := [Value.int .i64 a0]) Tryz.func165 rfl rfl rfl ?_
 refine FW.seq (FW.region ?_)
 refine FL.v (E.assign (v := Value.bool false) rfl) ?_
 refine FL.nil (FW.seq (FW.region ?_))
 refine FL.v (E.move (v := Value.int .i64 a0) rfl) ?_
 refine FL.v (E.move (v := Value.int .i64 a0) rfl) ?_
 refine FL.v (E.neq rfl rfl) ?_
 refine FL.v (E.assign (v := Value.bool (!(a0 == a0))) rfl) ?_
 refine FL.nil ?_
 refine FW.ret ?_
 obtain rfl := hp
 exact ⟨.inr rfl, res1 rfl rfl ⟨rfl, S0.back⟩⟩

theorem w_cmp_Compare_int {Ha : GH} {wa : World} (hs : Sl Ha wa) (a0 : Int) (a1 : Int) :
  Calls Tryz.prog 101 #[Value.int .i64 a0, Value.int .i64 a1] wa (Sc Ha wa (Value.int .i64 (PF.cmp_Compare_int a0 a1))) := by
 obtain ⟨r, hp⟩ : ∃ r, (PF.cmp_Compare_int a0 a1) = r := ⟨_, rfl⟩
 rw [hp]
 unfold PF.cmp_Compare_int at hp
 have S0 := St.init hs
 refine calls_go (N := 20) (args := [Value.int .i64 a0, Value.int .i64 a1]) Tryz.func101 rfl rfl rfl ?_
 refine FW.seq (FW.region ?_)
 refine FL.v (E.assign (v := Value.int .i64 0) rfl) ?_
 refine FL.nil (FW.seq (FW.region ?_))
 refine FL.v (E.move (v := Value.int .i64 a0) rfl) ?_
 refine FL.call rfl rfl rfl (E.call Tryz.call165 (A1 rfl)) (w_cmp_isNaN_int S0.sl a0) ?_
 rintro e w21 ⟨rfl, r22⟩
 refine ⟨_, rfl, ?_⟩
 have S23 := S0.call r22
 refine FL.v (E.assign (v := Value.bool (PF.cmp_isNaN_int a0)) rfl) ?_
 refine FL.nil (FW.seq (FW.region ?_))
 refine FL.v (E.move (v := Value.int .i64 a1) rfl) ?_
 refine FL.call rfl rfl rfl (E.call Tryz.call165 (A1 rfl)) (w_cmp_isNaN_int S23.sl a1) ?_
 rintro e w24 ⟨rfl, r25⟩
 refine ⟨_, rfl, ?_⟩
 have S26 := S23.call r25
 refine FL.v (E.assign (v := Value.bool (PF.cmp_isNaN_int a1)) rfl) ?_
 refine FL.nil (FW.seq (FW.seq (FW.region ?_)))
 refine FL.v (E.move (v := Value.bool (PF.cmp_isNaN_int a0)) rfl) ?_
 refine FL.nil ?_
 rcases ifT hp with ⟨c27, hp⟩ | ⟨c27, hp⟩
 ·
  refine FW.condT rfl c27 ?_
  refine FW.seq (FW.seq (FW.region ?_))
  refine FL.v (E.move (v := Value.bool (PF.cmp_isNaN_int a1)) rfl) ?_
  refine FL.nil ?_
  rcases ifT hp with ⟨c28, hp⟩ | ⟨c28, hp⟩
  ·
   refine FW.condT rfl c28 ?_
   refine FW.seq (FW.region ?_)
   refine FL.v (E.assign (v := Value.int .i64 0) rfl) ?_
   refine FL.nil ?_
   refine FW.ret ?_
   obtain rfl := hp
   exact ⟨.inr rfl, res1 rfl rfl ⟨rfl, S26.back⟩⟩
  ·
   refine FW.condF rfl c28 ?_
   refine FW.skip (FW.seq (FW.region ?_))
   refine FL.v (E.assign (v := Value.int .i64 (-1)) rfl) ?_
   refine FL.nil ?_
   refine FW.ret ?_
   obtain rfl := hp
   exact ⟨.inr rfl, res1 rfl rfl ⟨rfl, S26.back⟩⟩
 ·
  refine FW.condF rfl c27 ?_
  refine FW.skip (FW.seq (FW.seq (FW.region ?_)))
  refine FL.v (E.move (v := Value.bool (PF.cmp_isNaN_int a1)) rfl) ?_
  refine FL.nil ?_
  rcases ifT hp with ⟨c29, hp⟩ | ⟨c29, hp⟩
  ·
   refine FW.condT rfl c29 ?_
   refine FW.seq (FW.region ?_)
   refine FL.v (E.assign (v := Value.int .i64 1) rfl) ?_
   refine FL.nil ?_
   refine FW.ret ?_
   obtain rfl := hp
   exact ⟨.inr rfl, res1 rfl rfl ⟨rfl, S26.back⟩⟩
  ·
   refine FW.condF rfl c29 ?_
   refine FW.skip (FW.seq (FW.seq (FW.region ?_)))
   refine FL.v (E.move (v := Value.int .i64 a0) rfl) ?_
   refine FL.v (E.move (v := Value.int .i64 a1) rfl) ?_
   refine FL.v (E.lss rfl rfl) ?_
   refine FL.nil ?_
   rcases ifT hp with ⟨c30, hp⟩ | ⟨c30, hp⟩
   ·
    refine FW.condT rfl c30 ?_
    refine FW.seq (FW.region ?_)
    refine FL.v (E.assign (v := Value.int .i64 (-1)) rfl) ?_
    refine FL.nil ?_
    refine FW.ret ?_
    obtain rfl := hp
    exact ⟨.inr rfl, res1 rfl rfl ⟨rfl, S26.back⟩⟩
   ·
    refine FW.condF rfl c30 ?_
    refine FW.skip (FW.seq (FW.seq (FW.region ?_)))
    refine FL.v (E.move (v := Value.int .i64 a0) rfl) ?_
    refine FL.v (E.move (v := Value.int .i64 a1) rfl) ?_
    refine FL.v (E.gtr rfl rfl) ?_
    refine FL.nil ?_
    rcases ifT hp with ⟨c31, hp⟩ | ⟨c31, hp⟩
    ·
     refine FW.condT rfl c31 ?_
     refine FW.seq (FW.region ?_)
     refine FL.v (E.assign (v := Value.int .i64 1) rfl) ?_
     refine FL.nil ?_
     refine FW.ret ?_
     obtain rfl := hp
     exact ⟨.inr rfl, res1 rfl rfl ⟨rfl, S26.back⟩⟩
    ·
     refine FW.condF rfl c31 ?_
     refine FW.skip (FW.seq (FW.region ?_))
     refine FL.v (E.assign (v := Value.int .i64 0) rfl) ?_
     refine FL.nil ?_
     refine FW.ret ?_
     obtain rfl := hp
     exact ⟨.inr rfl, res1 rfl rfl ⟨rfl, S26.back⟩⟩

theorem w_cmp_Or_int {Ha : GH} {wa : World} (hs : Sl Ha wa) (v0 : Value) (a0 : List Int) (p0 : RSl Ha eI 1 v0 a0) {r : Int} (hp : (PF.cmp_Or_int a0) = some r) :
  Calls Tryz.prog 100 #[v0] wa (Sc Ha wa (Value.int .i64 r)) := by
 unfold PF.cmp_Or_int at hp
 have S0 := St.init hs
 refine calls_go (N := 18) (args := [v0]) Tryz.func100 rfl rfl rfl ?_
 refine FW.seq (FW.region ?_)
 refine FL.v (E.assign (v := Value.int .i64 0) rfl) ?_
 refine FL.nil (FW.seq (FW.region ?_))
 refine FL.v (E.assign (v := Value.int .i64 0) rfl) ?_
 refine FL.nil (FW.seq (FW.seq (FW.region ?_)))
 refine FL.v (E.move (v := v0) rfl) ?_
 refine FL.v (E.lenP te84 rfl p0) ?_
 refine FL.v (E.move (v := Value.int .i64 0) rfl) ?_
 refine FL.nil ?_
 obtain ⟨q22, hq, hp⟩ := bndR hp
 refine FW.block ?_
 refine FW.mono (FW.forL (S := Unit) (X := Int) (fun (i22 : Nat) (s22 : Unit) f w => ∃ H : GH, St Ha wa H w [] ∧ Inc Ha H ∧ f 8 = Value.int .i64 ((i22 : Nat) : Int) ∧ f 3 = Value.int .i64 0 ∧ f 6 = v0 ∧ f 7 = Value.int .i64 (len a0)) (fun q e f w => match q with | .go s22 => e = Exit.exit 0 ∧ (∃ H : GH, St Ha wa H w [] ∧ Inc Ha H ∧ f 3 = Value.int .i64 0) | .rt x => ((e = Exit.ret) ∧ (fun e f w => (e = Exit.normal ∨ e = Exit.ret) ∧ ∀ a, Fr (δ := []) 18 a f → ∃ v, (results Tryz.f100 a.tmps).run Tryz.prog w = .ok v w ∧ (Sc Ha wa (Value.int .i64 x)) (.returned v) w) e f w)) hq ⟨_, S0, (Inc.rfl _), rfl, rfl, rfl, rfl⟩ ?_ ?_) ?_
 ·
  clear hp hq
  rintro i22 y21 s22 f43 w42 ⟨H39, S40, i41, k44, k45, k46, k47⟩ hx22 o55 hp
  refine FW.seq (FW.region ?_)
  refine FL.v (E.lssT k44 k47 (lss_len hx22)) ?_
  refine FL.nil (FW.seq ?_)
  refine FW.condT rfl rfl ?_
  refine FW.skip (FW.seq (FW.block (FW.seq (FW.region ?_))))
  obtain ⟨p48, cs49, pt50, l51, at52, rel53⟩ := p0.at (ix_nat hx22)
  obtain rfl := eI_open rel53
  refine FL.v (E.indexAddr te84 k46 k44 pt50) ?_
  refine FL.v (E.load rfl (run_load0 Tryz.isAgg3 ((at52.mono i41).now S40.sl) rfl)) ?_
  refine FL.v (E.assign (v := Value.int .i64 y21) rfl) ?_
  refine FL.nil (FW.seq (FW.region ?_))
  refine FL.v (E.move (v := Value.int .i64 y21) rfl) ?_
  refine FL.v (E.move k45) ?_
  refine FL.v (E.neq rfl rfl) ?_
  refine FL.nil ?_
  rcases ifB hp with ⟨c54, hp⟩ | ⟨c54, hp⟩
  ·
   refine FW.condT rfl c54 ?_
   refine FW.seq (FW.region ?_)
   refine FL.v (E.move (v := Value.int .i64 y21) rfl) ?_
   refine FL.v (E.assign (v := Value.int .i64 y21) rfl) ?_
   refine FL.nil ?_
   refine FW.ret ?_
   obtain rfl := Option.some.inj hp
   exact ⟨nofun, rfl, ⟨.inr rfl, res1 rfl rfl ⟨rfl, S40.back⟩⟩⟩
  ·
   refine FW.condF rfl c54 ?_
   refine FW.skip (FW.region ?_)
   refine FL.v (E.add k44 rfl) ?_
   refine FL.v (E.move (v := Value.int .i64 (wr (((i22 : Nat) : Int) + 1))) rfl) ?_
   refine FL.nil ?_
   obtain rfl := Option.some.inj hp
   exact ⟨rfl, ⟨_, S40, i41, (nat_succ rfl (lt_of_get hx22) (p0.mono i41).le), k45, k46, k47⟩⟩
 ·
  clear hp hq
  rintro s22 f66 w65 ⟨H62, S63, i64, k67, k68, k69, k70⟩
  refine FW.seq (FW.region ?_)
  refine FL.v (E.lss k67 k70) ?_
  refine FL.nil (FW.seq ?_)
  refine FW.condF rfl dlt_len ?_
  refine FW.exit ?_
  exact ⟨nofun, rfl, ⟨_, S63, i64, k68⟩⟩
 ·
  clear hq
  intro e f60 w59 hD
  rcases q22 with s22 | x22
  ·
   obtain ⟨rfl, hD⟩ := hD
   obtain ⟨H56, S57, i58, k61⟩ := hD
   replace hp := el_go hp
   refine FW.seq (FW.region ?_)
   refine FL.v (E.move k61) ?_
   refine FL.v (E.assign (v := Value.int .i64 0) rfl) ?_
   refine FL.nil ?_
   refine FW.ret ?_
   obtain rfl := Option.some.inj hp
   exact ⟨.inr rfl, res1 rfl rfl ⟨rfl, S57.back⟩⟩
  ·
   obtain ⟨he, hL⟩ := hD
   replace hp := el_rt hp
   obtain rfl := Option.some.inj hp
   subst he
   exact hL

theorem w_impl_compareLiterals {Ha : GH} {wa : World} (hs : Sl Ha wa) (a0 : Int) (a1 : Int) {r : Int} (hp : (PF.impl_compareLiterals a0 a1) = some r) :
  Calls Tryz.prog 103 #[Value.int .i64 a0, Value.int .i64 a1] wa (Sc Ha wa (Value.int .i64 r)) := by
 unfold PF.impl_compareLiterals at hp
 have S0 := St.init hs
 refine calls_go (N := 15) (args := [Value.int .i64 a0, Value.int .i64 a1]) Tryz.func103 rfl rfl rfl ?_
 refine FW.seq (FW.region ?_)
 refine FL.v (E.assign (v := Value.int .i64 0) rfl) ?_
 refine FL.nil (FW.seq (FW.region ?_))
 refine FL.v (E.move (v := Value.int .i64 a0) rfl) ?_
 refine FL.call rfl rfl rfl (E.call Tryz.call166 (A1 rfl)) (w_impl_abs S0.sl a0) ?_
 rintro e w21 ⟨rfl, r22⟩
 refine ⟨_, rfl, ?_⟩
 have S23 := S0.call r22
 refine FL.v (E.move (v := Value.int .i64 a1) rfl) ?_
 refine FL.call rfl rfl rfl (E.call Tryz.call166 (A1 rfl)) (w_impl_abs S23.sl a1) ?_
 rintro e w24 ⟨rfl, r25⟩
 refine ⟨_, rfl, ?_⟩
 have S26 := S23.call r25
 refine FL.call rfl rfl rfl (E.call Tryz.call101 (A2 rfl rfl)) (w_cmp_Compare_int S26.sl (PF.impl_abs a0) (PF.impl_abs a1)) ?_
 rintro e w27 ⟨rfl, r28⟩
 refine ⟨_, rfl, ?_⟩
 have S29 := S26.call r28
 refine FL.v (E.move (v := Value.int .i64 a1) rfl) ?_
 refine FL.v (E.move (v := Value.int .i64 a0) rfl) ?_
 refine FL.call rfl rfl rfl (E.call Tryz.call101 (A2 rfl rfl)) (w_cmp_Compare_int S29.sl a1 a0) ?_
 rintro e w30 ⟨rfl, r31⟩
 refine ⟨_, rfl, ?_⟩
 have S32 := S29.call r31
 obtain ⟨v33, w34, run35, S36⟩ := S32.buildSlice (P := Tryz.prog) te84 [Value.int .i64 (PF.cmp_Compare_int (PF.impl_abs a0) (PF.impl_abs a1)), Value.int .i64 (PF.cmp_Compare_int a1 a0)] (parts := #[(0, Value.int .i64 (PF.cmp_Compare_int (PF.impl_abs a0) (PF.impl_abs a1))), (1, Value.int .i64 (PF.cmp_Compare_int a1 a0))]) (cells := [Value.int .i64 (PF.cmp_Compare_int (PF.impl_abs a0) (PF.impl_abs a1)), Value.int .i64 (PF.cmp_Compare_int a1 a0)]) rfl (szs_cons rfl (szs_cons rfl szs_nil)) (fc_cons rfl (fc_cons rfl fc_nil)) (ones_cons rfl (ones_cons rfl ones_nil)) (Nat.le_of_ble_eq_true rfl)
 have els37 : Els (up wa.heap.size Ha) eI 1 [Value.int .i64 (PF.cmp_Compare_int (PF.impl_abs a0) (PF.impl_abs a1)), Value.int .i64 (PF.cmp_Compare_int a1 a0)] [(PF.cmp_Compare_int (PF.impl_abs a0) (PF.impl_abs a1)), (PF.cmp_Compare_int a1 a0)] := (Els.snoc (H := (up wa.heap.size Ha)) (E := eI) (k := 1) (c := [Value.int .i64 (PF.cmp_Compare_int a1 a0)]) (x := (PF.cmp_Compare_int a1 a0)) (Els.snoc (H := (up wa.heap.size Ha)) (E := eI) (k := 1) (c := [Value.int .i64 (PF.cmp_Compare_int (PF.impl_abs a0) (PF.impl_abs a1))]) (x := (PF.cmp_Compare_int (PF.impl_abs a0) (PF.impl_abs a1))) Els.nil rfl rfl) rfl rfl)
 refine FL.v (E.buildSlice (B2 rfl rfl) run35) ?_
 obtain ⟨H38, S39, i40, h41, nv42⟩ := S36.sealRowU (i := 0) (l' := []) rfl els37 (by decide) rfl
 obtain ⟨r43, hr44, hp⟩ := bnd hp
 refine FL.call rfl rfl rfl (E.call Tryz.call100 (A1 rfl)) (w_cmp_Or_int S39.sl v33 [(PF.cmp_Compare_int (PF.impl_abs a0) (PF.impl_abs a1)), (PF.cmp_Compare_int a1 a0)] (h41.mono upI) hr44) ?_
 rintro e w45 ⟨rfl, r46⟩
 refine ⟨_, rfl, ?_⟩
 have r46 := Run.lend i40 S36.sl r46
 have S47 := S36.call r46
 refine FL.v (E.assign (v := Value.int .i64 r43) rfl) ?_
 refine FL.nil ?_
 refine FW.ret ?_
 obtain rfl := Option.some.inj hp
 exact ⟨.inr rfl, res1 rfl rfl ⟨rfl, S47.back⟩⟩

@[reducible] def p_slices_Compact_int_int (H0 : GH) (w0 : World) (Ha : GH) (L : List MO) (r : (List Int)) : Ending → World → Prop :=
 fun e w' => ∃ H' : GH, ∃ v0r : Value, ∃ n0r : Nat, ∃ c0r : List Value, e = .returned (v0r) ∧ (St H0 w0 H' w' (.row 3 1 v0r n0r c0r :: L) ∧ Inc Ha H') ∧ Els (up w0.heap.size H') eI 1 c0r r
theorem w_slices_Compact_int_int {H0 Ha : GH} {w0 wa : World} {L : List MO} {v0 : Value} {n0 : Nat} {k0 : List Value} (S0 : St H0 w0 Ha wa (.row 3 1 v0 n0 k0 :: L)) (a0 : List Int) (p0 : Els (up w0.heap.size Ha) eI 1 k0 a0) {r : (List Int)} (hp : (PF.slices_Compact_int_int a0) = some r) :
  Calls Tryz.prog 236 #[v0] wa (p_slices_Compact_int_int H0 w0 Ha L r) := by
 cases hp
 refine (St.compactF (l := .row 3 1 v0 n0 k0 :: L) (i := 0) S0 rfl p0 (enc := Value.int .i64) (fun _ => rfl) (fun _ _ _ h => by cases eI_open h; rfl) (fun _ _ => rfl) 0 (fun w => compact_none Tryz.comp236 w) (fun blk off cap d w hH hs hc => AnyE.slices_Compact Tryz.comp236 (Value.int .i64) (fun _ => rfl) (EqlAt.intD _ _ _) (NeqAt.intD _ _ _) 0 (fun w => Tryz.zeroValue3 w) blk off cap d w hH hs hc)).mono ?_
 rintro e w' ⟨v', n', c', rfl, h1, h2⟩
 exact ⟨_, _, _, _, rfl, ⟨h1, Inc.rfl _⟩, h2⟩

@[reducible] def p_impl_clause (Ha : GH) (wa : World) (r : ((List Int) × Bool)) : Ending → World → Prop :=
 fun e w' => ∃ H' : GH, ∃ v0 : Value, ∃ n0 : Nat, ∃ c0 : List Value, e = .returned (Value.tuple #[v0, Value.bool r.2]) ∧ St Ha wa H' w' [.row 3 1 v0 n0 c0] ∧ Els (up wa.heap.size H') eI 1 c0 r.1
theorem w_impl_clause {Ha : GH} {wa : World} (hs : Sl Ha wa) (v0 : Value) (a0 : List Int) (p0 : RSl Ha eI 1 v0 a0) {r : ((List Int) × Bool)} (hp : (PF.impl_clause a0) = some r) :
  Calls Tryz.prog 220 #[v0] wa (p_impl_clause Ha wa r) := by
 unfold PF.impl_clause at hp
 have S0 := St.init hs
 refine calls_go (N := 30) (args := [v0]) Tryz.func220 rfl rfl rfl ?_
 refine FW.seq (FW.region ?_)
 refine FL.v (E.assign (v := Value.slice none 0 0) rfl) ?_
 refine FL.v (E.assign (v := Value.bool false) rfl) ?_
 refine FL.nil (FW.seq (FW.region ?_))
 refine FL.v (E.move (v := v0) rfl) ?_
 obtain ⟨r21, hr22, hp⟩ := bnd hp
 refine FL.call rfl rfl rfl (E.call Tryz.call62 (A1 rfl)) (w_slices_Clone_int_int S0.sl v0 a0 p0 hr22) ?_
 rintro e w24 ⟨H23, v27, n28, cs29, rfl, r26, els30⟩
 refine ⟨_, rfl, ?_⟩
 have els30 := els30.mono (up_le S0.size)
 have S25 := S0.join (l' := [.row 3 1 v27 n28 cs29]) r26 rfl
 refine FL.v (E.assign (v := v27) rfl) ?_
 refine FL.nil (FW.seq (FW.region ?_))
 refine FL.v (E.move (v := v27) rfl) ?_
 obtain ⟨r31, hr32, hp⟩ := bnd hp
 refine FL.call rfl rfl rfl (E.call Tryz.call235 (A2 rfl rfl)) (w_slices_SortFunc_int_int (L := []) S25 r21 els30 (Value.func (.func 103) #[] #[]) (fun x0 x1 => PF.impl_compareLiterals x0 x1) (fun H2 w2 hi2 hs2 x0 x1 r hr => ⟨103, #[], rfl, Tryz.call103, w_impl_compareLiterals hs2 x0 x1  hr⟩) hr32) ?_
 rintro e w34 ⟨H33, cs37, rfl, ⟨S35, i36⟩, els38⟩
 refine ⟨_, rfl, ?_⟩
 have S35 : St Ha wa H33 w34 [.row 3 1 v27 n28 cs37] := S35
 refine FL.nil (FW.seq (FW.region ?_))
 refine FL.v (E.move (v := v27) rfl) ?_
 obtain ⟨r39, hr40, hp⟩ := bnd hp
 refine FL.call rfl rfl rfl (E.call Tryz.call236 (A1 rfl)) (w_slices_Compact_int_int (L := []) S35 r31 els38 hr40) ?_
 rintro e w42 ⟨H41, v45, n46, cs47, rfl, ⟨S43, i44⟩, els48⟩
 refine ⟨_, rfl, ?_⟩
 have S43 : St Ha wa H41 w42 [.row 3 1 v45 n46 cs47] := S43
 refine FL.v (E.assign (v := v45) rfl) ?_
 refine FL.nil (FW.seq (FW.seq (FW.region ?_)))
 refine FL.v (E.assign (v := Value.int .i64 1) rfl) ?_
 refine FL.nil ?_
 obtain ⟨q49, hq, hp⟩ := bndR hp
 refine FW.block ?_
 refine FW.mono (FW.iter (S := Int) (X := ((List Int) × Bool)) (fun (s49 : Int) f w => ∃ H : GH, St Ha wa H w [.row 3 1 v45 n46 cs47] ∧ Inc H41 H ∧ f 4 = v45 ∧ f 5 = Value.int .i64 s49) (fun q e f w => match q with | .go s49 => e = Exit.exit 0 ∧ (∃ H : GH, St Ha wa H w [.row 3 1 v45 n46 cs47] ∧ Inc H41 H ∧ f 4 = v45) | .rt x => ((e = Exit.ret) ∧ (fun e f w => (e = Exit.normal ∨ e = Exit.ret) ∧ ∀ a, Fr (δ := []) 30 a f → ∃ v, (results Tryz.f220 a.tmps).run Tryz.prog w = .ok v w ∧ (p_impl_clause Ha wa x) (.returned v) w) e f w)) hq ⟨_, S43, (Inc.rfl _), rfl, rfl⟩ ?_) ?_
 ·
  clear hp hq
  rintro s49 f83 w82 ⟨H79, S80, i81, k84, k85⟩ o108 hp
  refine FW.seq (FW.seq (FW.region ?_))
  refine FL.v (E.move k85) ?_
  refine FL.v (E.move k84) ?_
  refine FL.v (E.lenO te84 rfl S80 (i := 0) rfl els48 (by decide)) ?_
  refine FL.v (E.lss rfl rfl) ?_
  refine FL.nil ?_
  rcases ifB hp with ⟨c86, hp⟩ | ⟨c86, hp⟩
  ·
   refine FW.condT rfl c86 ?_
   refine FW.skip (FW.seq (FW.block (FW.seq ?_)))
   refine FW.draw (fun w' => Run w82.heap.size H79 w82 H79 w') (by kernel_rfl) (by kernel_rfl) (run_drew S80.sl) ?_
   refine FD.val rfl rfl rfl (fun w' hw' => (E.move k84)) ?_
   refine FD.val rfl rfl rfl (fun w' hw' => (E.move k85)) ?_
   obtain ⟨x94, hx95, hp⟩ := bnd hp
   obtain ⟨p88, cs89, pt90, l91, at92, rel93⟩ := S80.row_at (i := 0) rfl els48 (by decide) hx95
   obtain rfl := eI_open rel93
   refine FD.val rfl rfl rfl (fun w' hw' => (E.indexAddr te84 rfl rfl pt90)) ?_
   refine FD.val rfl rfl rfl (fun w' hw' => (E.load rfl (run_load0 Tryz.isAgg3 (at92.cls hw') rfl))) ?_
   refine FD.val rfl rfl rfl (fun w' hw' => (E.move k84)) ?_
   refine FD.val rfl rfl rfl (fun w' hw' => (E.move k85)) ?_
   refine FD.val rfl rfl rfl (fun w' hw' => (E.sub rfl rfl)) ?_
   obtain ⟨x102, hx103, hp⟩ := bnd hp
   obtain ⟨p96, cs97, pt98, l99, at100, rel101⟩ := S80.row_at (i := 0) rfl els48 (by decide) hx103
   obtain rfl := eI_open rel101
   refine FD.val rfl rfl rfl (fun w' hw' => (E.indexAddr te84 rfl rfl pt98)) ?_
   refine FD.val rfl rfl rfl (fun w' hw' => (E.load rfl (run_load0 Tryz.isAgg3 (at100.cls hw') rfl))) ?_
   refine FD.val rfl rfl rfl (fun w' hw' => (E.neg rfl)) ?_
   refine FD.val rfl rfl rfl (fun w' hw' => (E.eql rfl rfl)) ?_
   refine FD.nil ?_
   intro w104 r106
   have S105 := S80.call r106
   rcases ifB hp with ⟨c107, hp⟩ | ⟨c107, hp⟩
   ·
    refine FW.condT rfl c107 ?_
    refine FW.seq (FW.region ?_)
    refine FL.v (E.assign (v := Value.slice none 0 0) rfl) ?_
    refine FL.v (E.assign (v := Value.bool false) rfl) ?_
    refine FL.nil ?_
    refine FW.ret ?_
    obtain rfl := Option.some.inj hp
    exact ⟨nofun, rfl, ⟨.inr rfl, res2 rfl rfl rfl ⟨_, _, _, _, rfl, ((S105.nil 3 1).sel [0] (by decide) rfl), Els.nil⟩⟩⟩
   ·
    refine FW.condF rfl c107 ?_
    refine FW.skip (FW.region ?_)
    refine FL.v (E.move k85) ?_
    refine FL.v (E.add rfl rfl) ?_
    refine FL.v (E.assign (v := Value.int .i64 (wr (s49 + 1))) rfl) ?_
    refine FL.nil ?_
    obtain rfl := Option.some.inj hp
    exact ⟨rfl, ⟨_, S105, i81, k84, rfl⟩⟩
  ·
   refine FW.condF rfl c86 ?_
   refine FW.exit ?_
   obtain rfl := Option.some.inj hp
   exact ⟨nofun, rfl, ⟨_, S80, i81, k84⟩⟩
 ·
  clear hq
  intro e f113 w112 hD
  rcases q49 with s49 | x49
  ·
   obtain ⟨rfl, hD⟩ := hD
   obtain ⟨H109, S110, i111, k114⟩ := hD
   replace hp := el_go hp
   refine FW.seq (FW.region ?_)
   refine FL.v (E.move k114) ?_
   refine FL.v (E.assign (v := v45) rfl) ?_
   refine FL.v (E.assign (v := Value.bool true) rfl) ?_
   refine FL.nil ?_
   refine FW.ret ?_
   obtain rfl := Option.some.inj hp
   exact ⟨.inr rfl, res2 rfl rfl rfl ⟨_, _, _, _, rfl, S110, (els48.mono (up_mono i111))⟩⟩
  ·
   obtain ⟨he, hL⟩ := hD
   replace hp := el_rt hp
   obtain rfl := Option.some.inj hp
   subst he
   exact hL

@[reducible] def p_impl_resolve (Ha : GH) (wa : World) (r : ((List Int) × Bool)) : Ending → World → Prop :=
 fun e w' => ∃ H' : GH, ∃ v0 : Value, ∃ n0 : Nat, ∃ c0 : List Value, e = .returned (Value.tuple #[v0, Value.bool r.2]) ∧ St Ha wa H' w' [.row 3 1 v0 n0 c0] ∧ Els (up wa.heap.size H') eI 1 c0 r.1
theorem w_impl_resolve {Ha : GH} {wa : World} (hs : Sl Ha wa) (v0 : Value) (a0 : List Int) (p0 : RSl Ha eI 1 v0 a0) (v1 : Value) (a1 : List Int) (p1 : RSl Ha eI 1 v1 a1) (a2 : Int) {r : ((List Int) × Bool)} (hp : (PF.impl_resolve a0 a1 a2) = some r) :
  Calls Tryz.prog 179 #[v0, v1, Value.int .i64 a2] wa (p_impl_resolve Ha wa r) := by
 unfold PF.impl_resolve at hp
 have S0 := St.init hs
 refine calls_go (N := 30) (args := [v0, v1, Value.int .i64 a2]) Tryz.func179 rfl rfl rfl ?_
 refine FW.seq (FW.region ?_)
 refine FL.v (E.assign (v := Value.slice none 0 0) rfl) ?_
 refine FL.v (E.assign (v := Value.bool false) rfl) ?_
 refine FL.nil (FW.seq (FW.seq (FW.region ?_)))
 refine FL.v (E.move (v := v0) rfl) ?_
 refine FL.v (E.move (v := Value.int .i64 a2) rfl) ?_
 obtain ⟨r21, hr22, hp⟩ := bnd hp
 refine FL.call rfl rfl rfl (E.call Tryz.call129 (A2 rfl rfl)) (w_slices_Contains_int_int S0.sl v0 a0 p0 a2 hr22) ?_
 rintro e w23 ⟨rfl, r24⟩
 refine ⟨_, rfl, ?_⟩
 have S25 := S0.call r24
 refine FL.v (E.not rfl) ?_
 refine FL.v (E.move (v := Value.bool (!r21)) rfl) ?_
 obtain ⟨t31, hqt31, hp⟩ := bnd hp
 refine FL.cut 6 (fun f w => ∃ H : GH, St Ha wa H w [] ∧ Inc Ha H ∧ f 0 = v0 ∧ f 1 = v1 ∧ f 2 = Value.int .i64 a2 ∧ f 18 = Value.bool t31) ?_ ?_
 ·
  clear hp; have hp := hqt31; clear hqt31
  rcases ifB hp with ⟨c37, hp⟩ | ⟨c37, hp⟩
  ·
   refine FL.skip (wF_no rfl rfl rfl c37) rfl ?_
   refine FL.skip (wF_no rfl rfl rfl c37) rfl ?_
   refine FL.skip (wF_no rfl rfl rfl c37) rfl ?_
   refine FL.skip (wF_no rfl rfl rfl c37) rfl ?_
   refine FL.skip (wF_no rfl rfl rfl c37) rfl ?_
   obtain rfl := Option.some.inj hp
   refine FL.v (E.pickT rfl c37 rfl) ?_
   exact FL.nil ⟨rfl, _, S25, (Inc.rfl _), rfl, rfl, rfl, rfl⟩
  ·
   refine FL.val (wF_yes rfl rfl rfl c37) rfl rfl (E.move (v := v1) rfl) ?_
   refine FL.val (wF_yes rfl rfl rfl c37) rfl rfl (E.move (v := Value.int .i64 a2) rfl) ?_
   refine FL.val (wF_yes rfl rfl rfl c37) rfl rfl (E.neg rfl) ?_
   obtain ⟨r38, hr39, hp⟩ := bnd hp
   refine FL.call (wF_yes rfl rfl rfl c37) rfl rfl (E.call Tryz.call129 (A2 rfl rfl)) (w_slices_Contains_int_int S25.sl v1 a1 p1 (wr (-a2)) hr39) ?_
   rintro e w40 ⟨rfl, r41⟩
   refine ⟨_, rfl, ?_⟩
   have S42 := S25.call r41
   refine FL.val (wF_yes rfl rfl rfl c37) rfl rfl (E.not rfl) ?_
   obtain rfl := Option.some.inj hp
   refine FL.v (E.pickF rfl c37 rfl) ?_
   exact FL.nil ⟨rfl, _, S42, (Inc.rfl _), rfl, rfl, rfl, rfl⟩
 rintro f36 w35 ⟨H32, S33, i34, k43, k44, k45, k46⟩
 refine FL.nil ?_
 rcases ifB hp with ⟨c47, hp⟩ | ⟨c47, hp⟩
 ·
  refine FW.condT k46 c47 ?_
  refine FW.seq (FW.region ?_)
  refine FL.v (E.assign (v := Value.slice none 0 0) rfl) ?_
  refine FL.v (E.assign (v := Value.bool false) rfl) ?_
  refine FL.nil ?_
  refine FW.ret ?_
  obtain rfl := Option.some.inj hp
  exact ⟨.inr rfl, res2 rfl rfl rfl ⟨_, _, _, _, rfl, (S33.nil 3 1), Els.nil⟩⟩
 ·
  refine FW.condF k46 c47 ?_
  refine FW.skip (FW.seq (FW.region ?_))
  refine FL.v (E.move k43) ?_
  refine FL.v (E.move k45) ?_
  obtain ⟨r48, hr49, hp⟩ := bnd hp
  refine FL.call rfl rfl rfl (E.call Tryz.call182 (A2 rfl rfl)) (w_impl_withoutVar S33.sl v0 a0 (p0.mono i34) a2 hr49) ?_
  rintro e w51 ⟨H50, v54, n55, cs56, rfl, r53, els57⟩
  refine ⟨_, rfl, ?_⟩
  have els57 := els57.mono (up_le S33.size)
  have S52 := S33.join (l' := [.row 3 1 v54 n55 cs56]) r53 rfl
  refine FL.v (E.move k44) ?_
  refine FL.v (E.move k45) ?_
  obtain ⟨r58, hr59, hp⟩ := bnd hp
  refine FL.call rfl rfl rfl (E.call Tryz.call182 (A2 rfl rfl)) (w_impl_withoutVar S52.sl v1 a1 (p1.mono (i34.tr r53.run.inc)) a2 hr59) ?_
  rintro e w61 ⟨H60, v64, n65, cs66, rfl, r63, els67⟩
  refine ⟨_, rfl, ?_⟩
  have els67 := els67.mono (up_le S52.size)
  have S62 := S52.join (l' := [.row 3 1 v64 n65 cs66, .row 3 1 v54 n55 cs56]) r63 rfl
  obtain ⟨H68, S69, i70, h71, nv72⟩ := S62.sealRowU (i := 1) (l' := [.row 3 1 v64 n65 cs66]) rfl (els57.mono (up_mono r63.run.inc)) (by decide) rfl
  obtain ⟨H73, S74, i75, h76, nv77⟩ := S69.sealRowU (i := 0) (l' := []) rfl (els67.mono (up_mono i70)) (by decide) rfl
  obtain ⟨v78, w79, run80, S81⟩ := S74.buildSlice (P := Tryz.prog) te22 [v54, v64] (parts := #[(0, v54), (1, v64)]) (cells := [v54, v64]) rfl (szs_cons (cells_size h71.cells) (szs_cons (cells_size h76.cells) szs_nil)) (fc_cons h71.cells (fc_cons h76.cells fc_nil)) (ones_cons h71.one (ones_cons h76.one ones_nil)) (Nat.le_of_ble_eq_true rfl)
  have els82 : Els (up wa.heap.size H73) (eL eI 1) 1 [v54, v64] [r48, r58] := (Els.snoc (H := (up wa.heap.size H73)) (E := (eL eI 1)) (k := 1) (c := [v64]) (x := r58) (Els.snoc (H := (up wa.heap.size H73)) (E := (eL eI 1)) (k := 1) (c := [v54]) (x := r48) Els.nil rfl ⟨_, rfl, (h71.mono (up_mono i75))⟩) rfl ⟨_, rfl, h76⟩)
  refine FL.v (E.buildSlice (B2 rfl rfl) run80) ?_
  obtain ⟨H83, S84, i85, h86, nv87⟩ := S81.sealRowU (i := 0) (l' := []) rfl els82 (by decide) rfl
  obtain ⟨r88, hr89, hp⟩ := bnd hp
  refine FL.call rfl rfl rfl (E.call Tryz.call221 (A1 rfl)) (w_slices_Concat_int_int S84.sl v78 [r48, r58] (h86.mono upI) hr89) ?_
  rintro e w91 ⟨H90, v96, n97, cs98, rfl, r93, els99⟩
  refine ⟨_, rfl, ?_⟩
  obtain ⟨H94, r93, hU95⟩ := St.lendX i85 S81.sl r93
  have els99 := els99.mono (hU95.tr (up_le S81.size))
  have S92 := S81.join (l' := [.row 3 1 v96 n97 cs98, .row 84 1 v78 2 [v54, v64]]) r93 rfl
  obtain ⟨H100, S101, i102, h103, nv104⟩ := S92.sealRowU (i := 0) (l' := [.row 84 1 v78 2 [v54, v64]]) rfl els99 (by decide) rfl
  obtain ⟨r105, hr106, hp⟩ := bnd hp
  refine FL.call rfl rfl rfl (E.call Tryz.call220 (A1 rfl)) (w_impl_clause S101.sl v96 r88 (h103.mono upI) hr106) ?_
  rintro e w108 ⟨H107, v113, n114, cs115, rfl, r110, els116⟩
  refine ⟨_, rfl, ?_⟩
  obtain ⟨H111, r110, hU112⟩ := St.lendX i102 S92.sl r110
  have els116 := els116.mono (hU112.tr (up_le S92.size))
  have S109 := S92.join (l' := [.row 3 1 v113 n114 cs115, .row 3 1 v96 n97 cs98, .row 84 1 v78 2 [v54, v64]]) r110 rfl
  refine FL.v (E.extract (i := 0) rfl rfl) ?_
  refine FL.v (E.extract (i := 1) rfl rfl) ?_
  refine FL.v (E.assign (v := v113) rfl) ?_
  refine FL.v (E.assign (v := Value.bool r105.2) rfl) ?_
  refine FL.nil ?_
  refine FW.ret ?_
  obtain rfl := Option.some.inj hp
  exact ⟨.inr rfl, res2 rfl rfl rfl ⟨_, _, _, _, rfl, (S109.sel [0] (by decide) rfl), els116⟩⟩

@[reducible] def p_impl_config_put (Ha : GH) (wa : World) (r : ((List Int) × Bool)) : Ending → World → Prop :=
 fun e w' => ∃ H' : GH, ∃ v0 : Value, e = .returned (Value.tuple #[v0, Value.bool r.2]) ∧ Run wa.heap.size Ha wa H' w' ∧ RSl H' eI 1 v0 r.1
theorem w_impl_config_put {Ha : GH} {wa : World} (hs : Sl Ha wa) (v0 : Value) (a0 : List (List Int)) (p0 : RSl Ha (eL eI 1) 1 v0 a0) (a1 : Cnf) (v1_1 : Value) (p1_1 : RSl Ha (eL eI 1) 1 v1_1 a1.clauses) (a2 : SpaceStep) {r : ((List Int) × Bool)} (hp : (PF.impl_config_put a0 a1 a2) = some r) :
  Calls Tryz.prog 153 #[v0, Value.agg #[Value.int .i64 a1.vars, v1_1], Value.agg #[Value.int .i64 a2.kind, Value.int .i64 a2.a, Value.int .i64 a2.b, Value.int .i64 a2.pivot]] wa (p_impl_config_put Ha wa r) := by
 unfold PF.impl_config_put at hp
 have S0 := St.init hs
 refine calls_go (N := 79) (args := [v0, Value.agg #[Value.int .i64 a1.vars, v1_1], Value.agg #[Value.int .i64 a2.kind, Value.int .i64 a2.a, Value.int .i64 a2.b, Value.int .i64 a2.pivot]]) Tryz.func153 rfl rfl rfl ?_
 refine FW.seq (FW.region ?_)
 obtain ⟨b21, w22, run23, S24⟩ := S0.box (P := Tryz.prog) 30 [Value.int .i64 a1.vars, v1_1] (v := Value.agg #[Value.int .i64 a1.vars, v1_1]) rfl (ones_cons rfl (ones_cons p1_1.one ones_nil))
 refine FL.v (E.box rfl run23) ?_
 obtain ⟨H25, S26, i27, at28⟩ := S24.sealBox (i := 0) (l' := []) rfl rfl
 obtain ⟨b29, w30, run31, S32⟩ := S26.box (P := Tryz.prog) 76 [Value.int .i64 a2.kind, Value.int .i64 a2.a, Value.int .i64 a2.b, Value.int .i64 a2.pivot] (v := Value.agg #[Value.int .i64 a2.kind, Value.int .i64 a2.a, Value.int .i64 a2.b, Value.int .i64 a2.pivot]) rfl (ones_cons rfl (ones_cons rfl (ones_cons rfl (ones_cons rfl ones_nil))))
 refine FL.v (E.box rfl run31) ?_
 obtain ⟨H33, S34, i35, at36⟩ := S32.sealBox (i := 0) (l' := []) rfl rfl
 refine FL.v (E.assign (v := Value.slice none 0 0) rfl) ?_
 refine FL.v (E.assign (v := Value.bool false) rfl) ?_
 refine FL.nil (FW.seq (FW.region ?_))
 refine FL.v (E.move (v := v0) rfl) ?_
 refine FL.v (E.lenP te82 rfl p0) ?_
 refine FL.v (E.sub rfl rfl) ?_
 refine FL.v (E.assign (v := Value.int .i64 (wr ((len a0) - 1))) rfl) ?_
 refine FL.nil (FW.seq (FW.block (FW.seq (FW.region ?_))))
 refine FL.v (E.fieldAddr tf76_0 rfl) ?_
 refine FL.v (E.load rfl (run_load1 Tryz.isAgg3 (at36.now S34.sl) rfl)) ?_
 refine FL.v (E.eql rfl rfl) ?_
 refine FL.v (E.move (v := Value.bool (a2.kind == 1)) rfl) ?_
 refine FL.cut 8 (fun f w => ∃ H : GH, St Ha wa H w [] ∧ Inc H33 H ∧ f 0 = v0 ∧ f 4 = Value.pointer (some ⟨b21, 0, none⟩) ∧ f 5 = Value.pointer (some ⟨b29, 0, none⟩) ∧ f 8 = Value.int .i64 (wr ((len a0) - 1)) ∧ f 24 = Value.bool (bif (a2.kind == 1) then (PF.impl_within a2.a 0 (wr ((len a1.clauses) - 1))) else false)) ?_ ?_
 ·
  rcases bcase (a2.kind == 1) with c46 | c46
  ·
   refine FL.val (wF_yes rfl rfl rfl c46) rfl rfl (E.fieldAddr tf76_1 rfl) ?_
   refine FL.val (wF_yes rfl rfl rfl c46) rfl rfl (E.load rfl (run_load1 Tryz.isAgg3 (at36.now S34.sl) rfl)) ?_
   refine FL.val (wF_yes rfl rfl rfl c46) rfl rfl (E.fieldAddr tf30_1 rfl) ?_
   refine FL.val (wF_yes rfl rfl rfl c46) rfl rfl (E.load rfl (run_load1 Tryz.isAgg22 ((at28.mono i35).now S34.sl) rfl)) ?_
   refine FL.val (wF_yes rfl rfl rfl c46) rfl rfl (E.lenP te22 rfl p1_1) ?_
   refine FL.val (wF_yes rfl rfl rfl c46) rfl rfl (E.sub rfl rfl) ?_
   refine FL.call (wF_yes rfl rfl rfl c46) rfl rfl (E.call Tryz.call108 (A3 rfl rfl rfl)) (w_impl_within S34.sl a2.a 0 (wr ((len a1.clauses) - 1))) ?_
   rintro e w47 ⟨rfl, r48⟩
   refine ⟨_, rfl, ?_⟩
   have S49 := S34.call r48
   refine FL.v (E.pickT rfl c46 rfl) ?_
   exact FL.nil ⟨rfl, _, S49, (Inc.rfl _), rfl, rfl, rfl, rfl, (congrArg Value.bool (bifT c46).symm)⟩
  ·
   refine FL.skip (wF_no rfl rfl rfl c46) rfl ?_
   refine FL.skip (wF_no rfl rfl rfl c46) rfl ?_
   refine FL.skip (wF_no rfl rfl rfl c46) rfl ?_
   refine FL.skip (wF_no rfl rfl rfl c46) rfl ?_
   refine FL.skip (wF_no rfl rfl rfl c46) rfl ?_
   refine FL.skip (wF_no rfl rfl rfl c46) rfl ?_
   refine FL.skip (wF_no rfl rfl rfl c46) rfl ?_
   refine FL.v (E.pickF rfl c46 rfl) ?_
   exact FL.nil ⟨rfl, _, S34, (Inc.rfl _), rfl, rfl, rfl, rfl, (congrArg Value.bool (bifF c46).symm)⟩
 rintro f45 w44 ⟨H41, S42, i43, k50, k51, k52, k53, k54⟩
 refine FL.v (E.move k54) ?_
 refine FL.cut 4 (fun f w => ∃ H : GH, St Ha wa H w [] ∧ Inc H41 H ∧ f 0 = v0 ∧ f 4 = Value.pointer (some ⟨b21, 0, none⟩) ∧ f 5 = Value.pointer (some ⟨b29, 0, none⟩) ∧ f 8 = Value.int .i64 (wr ((len a0) - 1)) ∧ f 29 = Value.bool (bif (bif (a2.kind == 1) then (PF.impl_within a2.a 0 (wr ((len a1.clauses) - 1))) else false) then (a2.b == 0) else false)) ?_ ?_
 ·
  rcases bcase (bif (a2.kind == 1) then (PF.impl_within a2.a 0 (wr ((len a1.clauses) - 1))) else false) with c61 | c61
  ·
   refine FL.val (wF_yes rfl rfl rfl c61) rfl rfl (E.fieldAddr tf76_2 k52) ?_
   refine FL.val (wF_yes rfl rfl rfl c61) rfl rfl (E.load rfl (run_load1 Tryz.isAgg3 ((at36.mono i43).now S42.sl) rfl)) ?_
   refine FL.val (wF_yes rfl rfl rfl c61) rfl rfl (E.eql rfl rfl) ?_
   refine FL.v (E.pickT rfl c61 rfl) ?_
   exact FL.nil ⟨rfl, _, S42, (Inc.rfl _), k50, k51, k52, k53, (congrArg Value.bool (bifT c61).symm)⟩
  ·
   refine FL.skip (wF_no rfl rfl rfl c61) rfl ?_
   refine FL.skip (wF_no rfl rfl rfl c61) rfl ?_
   refine FL.skip (wF_no rfl rfl rfl c61) rfl ?_
   refine FL.v (E.pickF rfl c61 rfl) ?_
   exact FL.nil ⟨rfl, _, S42, (Inc.rfl _), k50, k51, k52, k53, (congrArg Value.bool (bifF c61).symm)⟩
 rintro f60 w59 ⟨H56, S57, i58, k62, k63, k64, k65, k66⟩
 refine FL.v (E.move k66) ?_
 refine FL.cut 4 (fun f w => ∃ H : GH, St Ha wa H w [] ∧ Inc H56 H ∧ f 0 = v0 ∧ f 4 = Value.pointer (some ⟨b21, 0, none⟩) ∧ f 5 = Value.pointer (some ⟨b29, 0, none⟩) ∧ f 8 = Value.int .i64 (wr ((len a0) - 1)) ∧ f 34 = Value.bool (bif (bif (bif (a2.kind == 1) then (PF.impl_within a2.a 0 (wr ((len a1.clauses) - 1))) else false) then (a2.b == 0) else false) then (a2.pivot == 0) else false)) ?_ ?_
 ·
  rcases bcase (bif (bif (a2.kind == 1) then (PF.impl_within a2.a 0 (wr ((len a1.clauses) - 1))) else false) then (a2.b == 0) else false) with c73 | c73
  ·
   refine FL.val (wF_yes rfl rfl rfl c73) rfl rfl (E.fieldAddr tf76_3 k64) ?_
   refine FL.val (wF_yes rfl rfl rfl c73) rfl rfl (E.load rfl (run_load1 Tryz.isAgg3 ((at36.mono (i43.tr i58)).now S57.sl) rfl)) ?_
   refine FL.val (wF_yes rfl rfl rfl c73) rfl rfl (E.eql rfl rfl) ?_
   refine FL.v (E.pickT rfl c73 rfl) ?_
   exact FL.nil ⟨rfl, _, S57, (Inc.rfl _), k62, k63, k64, k65, (congrArg Value.bool (bifT c73).symm)⟩
  ·
   refine FL.skip (wF_no rfl rfl rfl c73) rfl ?_
   refine FL.skip (wF_no rfl rfl rfl c73) rfl ?_
   refine FL.skip (wF_no rfl rfl rfl c73) rfl ?_
   refine FL.v (E.pickF rfl c73 rfl) ?_
   exact FL.nil ⟨rfl, _, S57, (Inc.rfl _), k62, k63, k64, k65, (congrArg Value.bool (bifF c73).symm)⟩
 rintro f72 w71 ⟨H68, S69, i70, k74, k75, k76, k77, k78⟩
 refine FL.v (E.assign k78) ?_
 refine FL.nil ?_
 rcases ifB hp with ⟨c79, hp⟩ | ⟨c79, hp⟩
 ·
  refine FW.condT rfl c79 ?_
  refine FW.seq (FW.region ?_)
  refine FL.v (E.fieldAddr tf30_1 k75) ?_
  refine FL.v (E.load rfl (run_load1 Tryz.isAgg22 ((at28.mono (((i35.tr i43).tr i58).tr i70)).now S69.sl) rfl)) ?_
  refine FL.v (E.fieldAddr tf76_1 k76) ?_
  refine FL.v (E.load rfl (run_load1 Tryz.isAgg3 ((at36.mono ((i43.tr i58).tr i70)).now S69.sl) rfl)) ?_
  obtain ⟨x86, hx87, hp⟩ := bnd hp
  obtain ⟨p80, cs81, pt82, l83, at84, rel85⟩ := p1_1.at hx87
  obtain ⟨v88, rfl, h89⟩ := eL_open rel85
  refine FL.v (E.indexAddr te22 rfl rfl pt82) ?_
  refine FL.v (E.load rfl (run_load0 Tryz.isAgg84 ((at84.mono ((((i27.tr i35).tr i43).tr i58).tr i70)).now S69.sl) rfl)) ?_
  refine FL.v (E.assign (v := v88) rfl) ?_
  refine FL.v (E.assign (v := Value.bool true) rfl) ?_
  refine FL.nil ?_
  refine FW.ret ?_
  obtain rfl := Option.some.inj hp
  exact ⟨.inr rfl, res2 rfl rfl rfl ⟨_, _, rfl, S69.run, (h89.mono ((((i27.tr i35).tr i43).tr i58).tr i70))⟩⟩
 ·
  refine FW.condF rfl c79 ?_
  refine FW.seq (FW.region ?_)
  refine FL.v (E.fieldAddr tf76_0 k76) ?_
  refine FL.v (E.load rfl (run_load1 Tryz.isAgg3 ((at36.mono ((i43.tr i58).tr i70)).now S69.sl) rfl)) ?_
  refine FL.v (E.eql rfl rfl) ?_
  refine FL.v (E.move (v := Value.bool (a2.kind == 2)) rfl) ?_
  refine FL.cut 5 (fun f w => ∃ H : GH, St Ha wa H w [] ∧ Inc H68 H ∧ f 0 = v0 ∧ f 4 = Value.pointer (some ⟨b21, 0, none⟩) ∧ f 5 = Value.pointer (some ⟨b29, 0, none⟩) ∧ f 8 = Value.int .i64 (wr ((len a0) - 1)) ∧ f 50 = Value.bool (bif (a2.kind == 2) then (PF.impl_within a2.a 0 (wr ((len a0) - 1))) else false)) ?_ ?_
  ·
   rcases bcase (a2.kind == 2) with c99 | c99
   ·
    refine FL.val (wF_yes rfl rfl rfl c99) rfl rfl (E.fieldAddr tf76_1 k76) ?_
    refine FL.val (wF_yes rfl rfl rfl c99) rfl rfl (E.load rfl (run_load1 Tryz.isAgg3 ((at36.mono ((i43.tr i58).tr i70)).now S69.sl) rfl)) ?_
    refine FL.val (wF_yes rfl rfl rfl c99) rfl rfl (E.move k77) ?_
    refine FL.call (wF_yes rfl rfl rfl c99) rfl rfl (E.call Tryz.call108 (A3 rfl rfl rfl)) (w_impl_within S69.sl a2.a 0 (wr ((len a0) - 1))) ?_
    rintro e w100 ⟨rfl, r101⟩
    refine ⟨_, rfl, ?_⟩
    have S102 := S69.call r101
    refine FL.v (E.pickT rfl c99 rfl) ?_
    exact FL.nil ⟨rfl, _, S102, (Inc.rfl _), k74, k75, k76, k77, (congrArg Value.bool (bifT c99).symm)⟩
   ·
    refine FL.skip (wF_no rfl rfl rfl c99) rfl ?_
    refine FL.skip (wF_no rfl rfl rfl c99) rfl ?_
    refine FL.skip (wF_no rfl rfl rfl c99) rfl ?_
    refine FL.skip (wF_no rfl rfl rfl c99) rfl ?_
    refine FL.v (E.pickF rfl c99 rfl) ?_
    exact FL.nil ⟨rfl, _, S69, (Inc.rfl _), k74, k75, k76, k77, (congrArg Value.bool (bifF c99).symm)⟩
  rintro f98 w97 ⟨H94, S95, i96, k103, k104, k105, k106, k107⟩
  refine FL.v (E.move k107) ?_
  refine FL.cut 5 (fun f w => ∃ H : GH, St Ha wa H w [] ∧ Inc H94 H ∧ f 0 = v0 ∧ f 4 = Value.pointer (some ⟨b21, 0, none⟩) ∧ f 5 = Value.pointer (some ⟨b29, 0, none⟩) ∧ f 56 = Value.bool (bif (bif (a2.kind == 2) then (PF.impl_within a2.a 0 (wr ((len a0) - 1))) else false) then (PF.impl_within a2.b 0 (wr ((len a0) - 1))) else false)) ?_ ?_
  ·
   rcases bcase (bif (a2.kind == 2) then (PF.impl_within a2.a 0 (wr ((len a0) - 1))) else false) with c117 | c117
   ·
    refine FL.val (wF_yes rfl rfl rfl c117) rfl rfl (E.fieldAddr tf76_2 k105) ?_
    refine FL.val (wF_yes rfl rfl rfl c117) rfl rfl (E.load rfl (run_load1 Tryz.isAgg3 ((at36.mono (((i43.tr i58).tr i70).tr i96)).now S95.sl) rfl)) ?_
    refine FL.val (wF_yes rfl rfl rfl c117) rfl rfl (E.move k106) ?_
    refine FL.call (wF_yes rfl rfl rfl c117) rfl rfl (E.call Tryz.call108 (A3 rfl rfl rfl)) (w_impl_within S95.sl a2.b 0 (wr ((len a0) - 1))) ?_
    rintro e w118 ⟨rfl, r119⟩
    refine ⟨_, rfl, ?_⟩
    have S120 := S95.call r119
    refine FL.v (E.pickT rfl c117 rfl) ?_
    exact FL.nil ⟨rfl, _, S120, (Inc.rfl _), k103, k104, k105, (congrArg Value.bool (bifT c117).symm)⟩
   ·
    refine FL.skip (wF_no rfl rfl rfl c117) rfl ?_
    refine FL.skip (wF_no rfl rfl rfl c117) rfl ?_
    refine FL.skip (wF_no rfl rfl rfl c117) rfl ?_
    refine FL.skip (wF_no rfl rfl rfl c117) rfl ?_
    refine FL.v (E.pickF rfl c117 rfl) ?_
    exact FL.nil ⟨rfl, _, S95, (Inc.rfl _), k103, k104, k105, (congrArg Value.bool (bifF c117).symm)⟩
  rintro f116 w115 ⟨H112, S113, i114, k121, k122, k123, k124⟩
  refine FL.v (E.move k124) ?_
  refine FL.cut 6 (fun f w => ∃ H : GH, St Ha wa H w [] ∧ Inc H112 H ∧ f 0 = v0 ∧ f 5 = Value.pointer (some ⟨b29, 0, none⟩) ∧ f 63 = Value.bool (bif (bif (bif (a2.kind == 2) then (PF.impl_within a2.a 0 (wr ((len a0) - 1))) else false) then (PF.impl_within a2.b 0 (wr ((len a0) - 1))) else false) then (PF.impl_isVar a1.vars a2.pivot) else false)) ?_ ?_
  ·
   rcases bcase (bif (bif (a2.kind == 2) then (PF.impl_within a2.a 0 (wr ((len a0) - 1))) else false) then (PF.impl_within a2.b 0 (wr ((len a0) - 1))) else false) with c134 | c134
   ·
    refine FL.val (wF_yes rfl rfl rfl c134) rfl rfl (E.fieldAddr tf30_0 k122) ?_
    refine FL.val (wF_yes rfl rfl rfl c134) rfl rfl (E.load rfl (run_load1 Tryz.isAgg3 ((at28.mono (((((i35.tr i43).tr i58).tr i70).tr i96).tr i114)).now S113.sl) rfl)) ?_
    refine FL.val (wF_yes rfl rfl rfl c134) rfl rfl (E.fieldAddr tf76_3 k123) ?_
    refine FL.val (wF_yes rfl rfl rfl c134) rfl rfl (E.load rfl (run_load1 Tryz.isAgg3 ((at36.mono ((((i43.tr i58).tr i70).tr i96).tr i114)).now S113.sl) rfl)) ?_
    refine FL.call (wF_yes rfl rfl rfl c134) rfl rfl (E.call Tryz.call202 (A2 rfl rfl)) (w_impl_isVar S113.sl a1.vars a2.pivot) ?_
    rintro e w135 ⟨rfl, r136⟩
    refine ⟨_, rfl, ?_⟩
    have S137 := S113.call r136
    refine FL.v (E.pickT rfl c134 rfl) ?_
    exact FL.nil ⟨rfl, _, S137, (Inc.rfl _), k121, k123, (congrArg Value.bool (bifT c134).symm)⟩
   ·
    refine FL.skip (wF_no rfl rfl rfl c134) rfl ?_
    refine FL.skip (wF_no rfl rfl rfl c134) rfl ?_
    refine FL.skip (wF_no rfl rfl rfl c134) rfl ?_
    refine FL.skip (wF_no rfl rfl rfl c134) rfl ?_
    refine FL.skip (wF_no rfl rfl rfl c134) rfl ?_
    refine FL.v (E.pickF rfl c134 rfl) ?_
    exact FL.nil ⟨rfl, _, S113, (Inc.rfl _), k121, k123, (congrArg Value.bool (bifF c134).symm)⟩
  rintro f133 w132 ⟨H129, S130, i131, k138, k139, k140⟩
  refine FL.v (E.assign k140) ?_
  refine FL.nil ?_
  rcases ifB hp with ⟨c141, hp⟩ | ⟨c141, hp⟩
  ·
   refine FW.condT rfl c141 ?_
   refine FW.seq ?_
   obtain ⟨x90, hx91, hp⟩ := bnd hp
   obtain ⟨x127, hx128, hp⟩ := bnd hp
   obtain ⟨r147, hr148, hp⟩ := bnd hp
   refine FW.drawB (Sl H129) (fun f w => ∃ H : GH, ∃ v157 : Value, ∃ n158 : Nat, ∃ cs159 : List Value, St Ha wa H w [.row 3 1 v157 n158 cs159] ∧ Inc H129 H ∧ Els (up wa.heap.size H) eI 1 cs159 r147.1 ∧ f 6 = v157 ∧ f 7 = Value.bool r147.2) (by kernel_rfl) S130.sl ?_ ?_
   ·
    intro w142 r143
    have S144 := S130.call r143
    refine FB.t (i := 0) (bs 17 1) rfl (SP.nil S144.sl) rfl (fun w' hw' => (E.move k138)) ?_
    refine FB.t (i := 1) (bs 17 3) rfl (SP.nil S144.sl) rfl (fun w' hw' => (E.fieldAddr tf76_1 k139)) ?_
    refine FB.t (i := 2) (bs 17 7) rfl (SP.nil S144.sl) rfl (fun w' hw' => (E.load rfl (run_load1 Tryz.isAgg3 ((at36.mono (((((i43.tr i58).tr i70).tr i96).tr i114).tr i131)).now hw') rfl))) ?_
    obtain ⟨p37, cs38, pt39, l40, at55, rel67⟩ := p0.at hx91
    obtain ⟨v92, rfl, h93⟩ := eL_open rel67
    refine FB.t (i := 3) (bs 17 15) rfl (SP.nil S144.sl) rfl (fun w' hw' => (E.indexAddr te82 rfl rfl pt39)) ?_
    refine FB.t (i := 4) (bs 17 31) rfl (SP.nil S144.sl) rfl (fun w' hw' => (E.load rfl (run_load0 Tryz.isAgg84 ((at55.mono (((((((i27.tr i35).tr i43).tr i58).tr i70).tr i96).tr i114).tr i131)).now hw') rfl))) ?_
    refine FB.t (i := 5) (bs 17 63) rfl (SP.nil S144.sl) rfl (fun w' hw' => (E.move k138)) ?_
    refine FB.t (i := 6) (bs 17 127) rfl (SP.nil S144.sl) rfl (fun w' hw' => (E.fieldAddr tf76_2 k139)) ?_
    refine FB.t (i := 7) (bs 17 255) rfl (SP.nil S144.sl) rfl (fun w' hw' => (E.load rfl (run_load1 Tryz.isAgg3 ((at36.mono (((((i43.tr i58).tr i70).tr i96).tr i114).tr i131)).now hw') rfl))) ?_
    obtain ⟨p108, cs109, pt110, l111, at125, rel126⟩ := p0.at hx128
    obtain ⟨v145, rfl, h146⟩ := eL_open rel126
    refine FB.t (i := 8) (bs 17 511) rfl (SP.nil S144.sl) rfl (fun w' hw' => (E.indexAddr te82 rfl rfl pt110)) ?_
    refine FB.t (i := 9) (bs 17 1023) rfl (SP.nil S144.sl) rfl (fun w' hw' => (E.load rfl (run_load0 Tryz.isAgg84 ((at125.mono (((((((i27.tr i35).tr i43).tr i58).tr i70).tr i96).tr i114).tr i131)).now hw') rfl))) ?_
    refine FB.t (i := 10) (bs 17 2047) rfl (SP.nil S144.sl) rfl (fun w' hw' => (E.fieldAddr tf76_3 k139)) ?_
    refine FB.t (i := 11) (bs 17 4095) rfl (SP.nil S144.sl) rfl (fun w' hw' => (E.load rfl (run_load1 Tryz.isAgg3 ((at36.mono (((((i43.tr i58).tr i70).tr i96).tr i114).tr i131)).now hw') rfl))) ?_
    refine FB.all1 (i := 12) (by kernel_rfl) ?_
    ·
     refine FC.call (l' := (bs 17 8191)) rfl (by kernel_rfl) rfl rfl rfl (E.call Tryz.call179 (A3 rfl rfl rfl)) (w_impl_resolve S144.sl v92 x90 (h93.mono (((((((i27.tr i35).tr i43).tr i58).tr i70).tr i96).tr i114).tr i131)) v145 x127 (h146.mono (((((((i27.tr i35).tr i43).tr i58).tr i70).tr i96).tr i114).tr i131)) a2.pivot hr148) ?_
     rintro e w150 ⟨H149, v153, n154, cs155, rfl, r152, els156⟩
     refine ⟨_, rfl, ?_⟩
     have els156 := els156.mono (up_le S144.size)
     have S151 := S144.join (l' := [.row 3 1 v153 n154 cs155]) r152 rfl
     refine ⟨(SP.nil (Sl.of_inc r152.run.inc S151.sl)), ?_⟩
     refine FB.t (i := 13) (bs 17 16383) rfl (SP.nil (Sl.of_inc r152.run.inc S151.sl)) rfl (fun w' hw' => (E.extract (i := 0) rfl rfl)) ?_
     refine FB.t (i := 14) (bs 17 32767) rfl (SP.nil (Sl.of_inc r152.run.inc S151.sl)) rfl (fun w' hw' => (E.extract (i := 1) rfl rfl)) ?_
     refine FB.t (i := 15) (bs 17 65535) rfl (SP.nil (Sl.of_inc r152.run.inc S151.sl)) rfl (fun w' hw' => (E.assign (v := v153) rfl)) ?_
     refine FB.t (i := 16) (bs 17 131071) rfl (SP.nil (Sl.of_inc r152.run.inc S151.sl)) rfl (fun w' hw' => (E.assign (v := Value.bool r147.2) rfl)) ?_
     exact FB.done (by kernel_rfl) ⟨_, _, _, _, S151, r152.run.inc, els156, rfl, rfl⟩
   ·
    rintro f165 w164 ⟨H161, v157, n158, cs159, S162, i163, els160, k166, k167⟩
    refine FW.ret ?_
    obtain ⟨H168, S169, i170, h171, nv172⟩ := S162.sealRowU (i := 0) (l' := []) rfl els160 (by decide) rfl
    obtain rfl := Option.some.inj hp
    exact ⟨.inr rfl, res2 rfl k166 k167 ⟨_, _, rfl, S169.run, (h171.mono upI)⟩⟩
  ·
   refine FW.condF rfl c141 ?_
   refine FW.skip (FW.seq (FW.region ?_))
   refine FL.v (E.assign (v := Value.slice none 0 0) rfl) ?_
   refine FL.v (E.assign (v := Value.bool false) rfl) ?_
   refine FL.nil ?_
   refine FW.ret ?_
   obtain rfl := Option.some.inj hp
   exact ⟨.inr rfl, res2 rfl rfl rfl ⟨_, _, rfl, S130.run, (RSl.nil _ _ _)⟩⟩

theorem w_slices_IndexFunc_LLint_Lint {Ha : GH} {wa : World} (hs : Sl Ha wa) (v0 : Value) (a0 : List (List Int)) (p0 : RSl Ha (eL eI 1) 1 v0 a0) (v1 : Value) (a1 : (List Int) → Option Bool) (p1 : Fn_List_Int_to_B Tryz.prog Ha v1 a1) {r : Int} (hp : (PF.slices_IndexFunc_LLint_Lint a0 a1) = some r) :
  Calls Tryz.prog 248 #[v0, v1] wa (Sc Ha wa (Value.int .i64 r)) := by
 unfold PF.slices_IndexFunc_LLint_Lint at hp
 have S0 := St.init hs
 refine calls_go (N := 19) (args := [v0, v1]) Tryz.func248 rfl rfl rfl ?_
 refine FW.seq (FW.region ?_)
 refine FL.v (E.assign (v := Value.int .i64 0) rfl) ?_
 refine FL.nil (FW.seq (FW.seq (FW.region ?_)))
 refine FL.v (E.move (v := v0) rfl) ?_
 refine FL.v (E.lenP te22 rfl p0) ?_
 refine FL.v (E.move (v := Value.int .i64 0) rfl) ?_
 refine FL.nil ?_
 obtain ⟨q22, hq, hp⟩ := bndR hp
 refine FW.block ?_
 refine FW.mono (FW.forL (S := Unit) (X := Int) (fun (i22 : Nat) (s22 : Unit) f w => ∃ H : GH, St Ha wa H w [] ∧ Inc Ha H ∧ f 8 = Value.int .i64 ((i22 : Nat) : Int) ∧ f 0 = v0 ∧ f 1 = v1 ∧ f 7 = Value.int .i64 (len a0)) (fun q e f w => match q with | .go s22 => e = Exit.exit 0 ∧ (∃ H : GH, St Ha wa H w [] ∧ Inc Ha H) | .rt x => ((e = Exit.ret) ∧ (fun e f w => (e = Exit.normal ∨ e = Exit.ret) ∧ ∀ a, Fr (δ := []) 19 a f → ∃ v, (results Tryz.f248 a.tmps).run Tryz.prog w = .ok v w ∧ (Sc Ha wa (Value.int .i64 x)) (.returned v) w) e f w)) hq ⟨_, S0, (Inc.rfl _), rfl, rfl, rfl, rfl⟩ ?_ ?_) ?_
 ·
  clear hp hq
  rintro i22 y21 s22 f55 w54 ⟨H51, S52, i53, k56, k57, k58, k59⟩ hx22 o79 hp
  refine FW.seq (FW.region ?_)
  refine FL.v (E.lssT k56 k59 (lss_len hx22)) ?_
  refine FL.nil (FW.seq ?_)
  refine FW.condT rfl rfl ?_
  refine FW.skip (FW.seq (FW.block (FW.seq (FW.region ?_))))
  refine FL.v (E.move k56) ?_
  refine FL.v (E.assign (v := Value.int .i64 ((i22 : Nat) : Int)) rfl) ?_
  refine FL.nil (FW.seq (FW.region ?_))
  refine FL.v (E.move k58) ?_
  refine FL.v (E.move k57) ?_
  refine FL.v (E.move (v := Value.int .i64 ((i22 : Nat) : Int)) rfl) ?_
  obtain ⟨p60, cs61, pt62, l63, at64, rel65⟩ := p0.at (ix_nat hx22)
  obtain ⟨v66, rfl, h67⟩ := eL_open rel65
  refine FL.v (E.indexAddr te22 rfl rfl pt62) ?_
  refine FL.v (E.load rfl (run_load0 Tryz.isAgg84 ((at64.mono i53).now S52.sl) rfl)) ?_
  obtain ⟨r68, hr69, hp⟩ := bnd hp
  obtain ⟨fi73, cs74, hv75, he76, hc77⟩ := (p1.mono i53) H51 w54 (Inc.rfl _) S52.sl y21 v66 (h67.mono i53) r68 hr69
  refine FL.call rfl rfl rfl (E.callV he76 (Eq.trans rfl hv75) (appA (A1 rfl) cs74)) hc77 ?_
  rintro e w70 ⟨rfl, r71⟩
  refine ⟨_, rfl, ?_⟩
  have S72 := S52.call r71
  refine FL.nil ?_
  rcases ifB hp with ⟨c78, hp⟩ | ⟨c78, hp⟩
  ·
   refine FW.condT rfl c78 ?_
   refine FW.seq (FW.region ?_)
   refine FL.v (E.move (v := Value.int .i64 ((i22 : Nat) : Int)) rfl) ?_
   refine FL.v (E.assign (v := Value.int .i64 ((i22 : Nat) : Int)) rfl) ?_
   refine FL.nil ?_
   refine FW.ret ?_
   obtain rfl := Option.some.inj hp
   exact ⟨nofun, rfl, ⟨.inr rfl, res1 rfl rfl ⟨rfl, S72.back⟩⟩⟩
  ·
   refine FW.condF rfl c78 ?_
   refine FW.skip (FW.region ?_)
   refine FL.v (E.add k56 rfl) ?_
   refine FL.v (E.move (v := Value.int .i64 (wr (((i22 : Nat) : Int) + 1))) rfl) ?_
   refine FL.nil ?_
   obtain rfl := Option.some.inj hp
   exact ⟨rfl, ⟨_, S72, i53, (nat_succ rfl (lt_of_get hx22) (p0.mono i53).le), k57, k58, k59⟩⟩
 ·
  clear hp hq
  rintro s22 f89 w88 ⟨H85, S86, i87, k90, k91, k92, k93⟩
  refine FW.seq (FW.region ?_)
  refine FL.v (E.lss k90 k93) ?_
  refine FL.nil (FW.seq ?_)
  refine FW.condF rfl dlt_len ?_
  refine FW.exit ?_
  exact ⟨nofun, rfl, ⟨_, S86, i87⟩⟩
 ·
  clear hq
  intro e f84 w83 hD
  rcases q22 with s22 | x22
  ·
   obtain ⟨rfl, hD⟩ := hD
   obtain ⟨H80, S81, i82⟩ := hD
   replace hp := el_go hp
   refine FW.seq (FW.region ?_)
   refine FL.v (E.assign (v := Value.int .i64 (-1)) rfl) ?_
   refine FL.nil ?_
   refine FW.ret ?_
   obtain rfl := Option.some.inj hp
   exact ⟨.inr rfl, res1 rfl rfl ⟨rfl, S81.back⟩⟩
  ·
   obtain ⟨he, hL⟩ := hD
   replace hp := el_rt hp
   obtain rfl := Option.some.inj hp
   subst he
   exact hL

theorem w_slices_Equal_int_int {Ha : GH} {wa : World} (hs : Sl Ha wa) (v0 : Value) (a0 : List Int) (p0 : RSl Ha eI 1 v0 a0) (v1 : Value) (a1 : List Int) (p1 : RSl Ha eI 1 v1 a1) {r : Bool} (hp : (PF.slices_Equal_int_int a0 a1) = some r) :
  Calls Tryz.prog 53 #[v0, v1] wa (Sc Ha wa (Value.bool r)) := by
 unfold PF.slices_Equal_int_int at hp
 have S0 := St.init hs
 refine calls_go (N := 26) (args := [v0, v1]) Tryz.func53 rfl rfl rfl ?_
 refine FW.seq (FW.region ?_)
 refine FL.v (E.assign (v := Value.bool false) rfl) ?_
 refine FL.nil (FW.seq (FW.seq (FW.region ?_)))
 refine FL.v (E.move (v := v0) rfl) ?_
 refine FL.v (E.lenP te84 rfl p0) ?_
 refine FL.v (E.move (v := v1) rfl) ?_
 refine FL.v (E.lenP te84 rfl p1) ?_
 refine FL.v (E.neq rfl rfl) ?_
 refine FL.nil ?_
 rcases ifB hp with ⟨c21, hp⟩ | ⟨c21, hp⟩
 ·
  refine FW.condT rfl c21 ?_
  refine FW.seq (FW.region ?_)
  refine FL.v (E.assign (v := Value.bool false) rfl) ?_
  refine FL.nil ?_
  refine FW.ret ?_
  obtain rfl := Option.some.inj hp
  exact ⟨.inr rfl, res1 rfl rfl ⟨rfl, S0.back⟩⟩
 ·
  refine FW.condF rfl c21 ?_
  refine FW.skip (FW.seq (FW.seq (FW.region ?_)))
  refine FL.v (E.move (v := v0) rfl) ?_
  refine FL.v (E.lenP te84 rfl p0) ?_
  refine FL.v (E.move (v := Value.int .i64 0) rfl) ?_
  refine FL.nil ?_
  obtain ⟨q23, hq, hp⟩ := bndR hp
  refine FW.block ?_
  refine FW.mono (FW.forL (S := Unit) (X := Bool) (fun (i23 : Nat) (s23 : Unit) f w => ∃ H : GH, St Ha wa H w [] ∧ Inc Ha H ∧ f 13 = Value.int .i64 ((i23 : Nat) : Int) ∧ f 0 = v0 ∧ f 1 = v1 ∧ f 12 = Value.int .i64 (len a0)) (fun q e f w => match q with | .go s23 => e = Exit.exit 0 ∧ (∃ H : GH, St Ha wa H w [] ∧ Inc Ha H) | .rt x => ((e = Exit.ret) ∧ (fun e f w => (e = Exit.normal ∨ e = Exit.ret) ∧ ∀ a, Fr (δ := []) 26 a f → ∃ v, (results Tryz.f53 a.tmps).run Tryz.prog w = .ok v w ∧ (Sc Ha wa (Value.bool x)) (.returned v) w) e f w)) hq ⟨_, S0, (Inc.rfl _), rfl, rfl, rfl, rfl⟩ ?_ ?_) ?_
  ·
   clear hp hq
   rintro i23 y22 s23 f56 w55 ⟨H52, S53, i54, k57, k58, k59, k60⟩ hx23 o80 hp
   refine FW.seq (FW.region ?_)
   refine FL.v (E.lssT k57 k60 (lss_len hx23)) ?_
   refine FL.nil (FW.seq ?_)
   refine FW.condT rfl rfl ?_
   refine FW.skip (FW.seq (FW.block (FW.seq (FW.region ?_))))
   refine FL.v (E.move k57) ?_
   refine FL.v (E.assign (v := Value.int .i64 ((i23 : Nat) : Int)) rfl) ?_
   refine FL.nil (FW.seq ?_)
   refine FW.draw (fun w' => Run w55.heap.size H52 w55 H52 w') (by kernel_rfl) (by kernel_rfl) (run_drew S53.sl) ?_
   refine FD.val rfl rfl rfl (fun w' hw' => (E.move k58)) ?_
   refine FD.val rfl rfl rfl (fun w' hw' => (E.move (v := Value.int .i64 ((i23 : Nat) : Int)) rfl)) ?_
   obtain ⟨p62, cs63, pt64, l65, at66, rel67⟩ := p0.at (ix_nat hx23)
   obtain rfl := eI_open rel67
   refine FD.val rfl rfl rfl (fun w' hw' => (E.indexAddr te84 rfl rfl pt64)) ?_
   refine FD.val rfl rfl rfl (fun w' hw' => (E.load rfl (run_load0 Tryz.isAgg3 ((at66.mono i54).now (S53.call hw').sl) rfl))) ?_
   refine FD.val rfl rfl rfl (fun w' hw' => (E.move k59)) ?_
   refine FD.val rfl rfl rfl (fun w' hw' => (E.move (v := Value.int .i64 ((i23 : Nat) : Int)) rfl)) ?_
   obtain ⟨x74, hx75, hp⟩ := bnd hp
   obtain ⟨p68, cs69, pt70, l71, at72, rel73⟩ := p1.at hx75
   obtain rfl := eI_open rel73
   refine FD.val rfl rfl rfl (fun w' hw' => (E.indexAddr te84 rfl rfl pt70)) ?_
   refine FD.val rfl rfl rfl (fun w' hw' => (E.load rfl (run_load0 Tryz.isAgg3 ((at72.mono i54).now (S53.call hw').sl) rfl))) ?_
   refine FD.val rfl rfl rfl (fun w' hw' => (E.neq rfl rfl)) ?_
   refine FD.nil ?_
   intro w76 r78
   have S77 := S53.call r78
   rcases ifB hp with ⟨c79, hp⟩ | ⟨c79, hp⟩
   ·
    refine FW.condT rfl c79 ?_
    refine FW.seq (FW.region ?_)
    refine FL.v (E.assign (v := Value.bool false) rfl) ?_
    refine FL.nil ?_
    refine FW.ret ?_
    obtain rfl := Option.some.inj hp
    exact ⟨nofun, rfl, ⟨.inr rfl, res1 rfl rfl ⟨rfl, S77.back⟩⟩⟩
   ·
    refine FW.condF rfl c79 ?_
    refine FW.skip (FW.region ?_)
    refine FL.v (E.add k57 rfl) ?_
    refine FL.v (E.move (v := Value.int .i64 (wr (((i23 : Nat) : Int) + 1))) rfl) ?_
    refine FL.nil ?_
    obtain rfl := Option.some.inj hp
    exact ⟨rfl, ⟨_, S77, i54, (nat_succ rfl (lt_of_get hx23) (p0.mono i54).le), k58, k59, k60⟩⟩
  ·
   clear hp hq
   rintro s23 f90 w89 ⟨H86, S87, i88, k91, k92, k93, k94⟩
   refine FW.seq (FW.region ?_)
   refine FL.v (E.lss k91 k94) ?_
   refine FL.nil (FW.seq ?_)
   refine FW.condF rfl dlt_len ?_
   refine FW.exit ?_
   exact ⟨nofun, rfl, ⟨_, S87, i88⟩⟩
  ·
   clear hq
   intro e f85 w84 hD
   rcases q23 with s23 | x23
   ·
    obtain ⟨rfl, hD⟩ := hD
    obtain ⟨H81, S82, i83⟩ := hD
    replace hp := el_go hp
    refine FW.seq (FW.region ?_)
    refine FL.v (E.assign (v := Value.bool true) rfl) ?_
    refine FL.nil ?_
    refine FW.ret ?_
    obtain rfl := Option.some.inj hp
    exact ⟨.inr rfl, res1 rfl rfl ⟨rfl, S82.back⟩⟩
   ·
    obtain ⟨he, hL⟩ := hD
    replace hp := el_rt hp
    obtain rfl := Option.some.inj hp
    subst he
    exact hL

theorem w_impl_indexOf_1 {Ha : GH} {wa : World} (hs : Sl Ha wa) (v0 : Value) (a0 : List Int) (p0 : RSl Ha eI 1 v0 a0) (q0 : Addr) (b0 : List Int) (u0_0 : Value) (g0_0 : RSl Ha eI 1 u0_0 b0) (c0 : CAt Ha q0 [u0_0]) {r : Bool} (hp : (PF.impl_indexOf_1 a0 b0) = some r) :
  Calls Tryz.prog 249 #[v0, Value.pointer (some q0)] wa (Sc Ha wa (Value.bool r)) := by
 unfold PF.impl_indexOf_1 at hp
 have S0 := St.init hs
 refine calls_go (N := 7) (args := [v0, Value.pointer (some q0)]) Tryz.func249 rfl rfl rfl ?_
 refine FW.seq (FW.region ?_)
 refine FL.v (E.assign (v := Value.bool false) rfl) ?_
 refine FL.nil (FW.seq (FW.region ?_))
 refine FL.v (E.load rfl (run_load0 Tryz.isAgg84 (c0.now S0.sl) rfl)) ?_
 refine FL.v (E.move (v := v0) rfl) ?_
 obtain ⟨r21, hr22, hp⟩ := bnd hp
 refine FL.call rfl rfl rfl (E.call Tryz.call53 (A2 rfl rfl)) (w_slices_Equal_int_int S0.sl u0_0 b0 g0_0 v0 a0 p0 hr22) ?_
 rintro e w23 ⟨rfl, r24⟩
 refine ⟨_, rfl, ?_⟩
 have S25 := S0.call r24
 refine FL.v (E.assign (v := Value.bool r21) rfl) ?_
 refine FL.nil ?_
 refine FW.ret ?_
 obtain rfl := Option.some.inj hp
 exact ⟨.inr rfl, res1 rfl rfl ⟨rfl, S25.back⟩⟩

theorem w_impl_indexOf {Ha : GH} {wa : World} (hs : Sl Ha wa) (v0 : Value) (a0 : List (List Int)) (p0 : RSl Ha (eL eI 1) 1 v0 a0) (v1 : Value) (a1 : List Int) (p1 : RSl Ha eI 1 v1 a1) {r : Int} (hp : (PF.impl_indexOf a0 a1) = some r) :
  Calls Tryz.prog 227 #[v0, v1] wa (Sc Ha wa (Value.int .i64 r)) := by
 unfold PF.impl_indexOf at hp
 have S0 := St.init hs
 refine calls_go (N := 8) (args := [v0, v1]) Tryz.func227 rfl rfl rfl ?_
 refine FW.seq (FW.region ?_)
 obtain ⟨b21, w22, run23, S24⟩ := S0.box (P := Tryz.prog) 84 [v1] (v := v1) p1.cells (ones_cons p1.one ones_nil)
 refine FL.v (E.box rfl run23) ?_
 obtain ⟨H25, S26, i27, at28⟩ := S24.sealBox (i := 0) (l' := []) rfl rfl
 refine FL.v (E.assign (v := Value.int .i64 0) rfl) ?_
 refine FL.nil (FW.seq (FW.region ?_))
 refine FL.v (E.move (v := v0) rfl) ?_
 refine FL.v (E.makeFunc A0 (A1 rfl)) ?_
 obtain ⟨r29, hr30, hp⟩ := bnd hp
 refine FL.call rfl rfl rfl (E.call Tryz.call248 (A2 rfl rfl)) (w_slices_IndexFunc_LLint_Lint S26.sl v0 a0 (p0.mono i27) (Value.func (.func 249) #[] #[Value.pointer (some ⟨b21, 0, none⟩)]) (fun x0 => PF.impl_indexOf_1 x0 a1) (fun H2 w2 hi2 hs2 x0 y0 z0 r hr => ⟨249, #[Value.pointer (some ⟨b21, 0, none⟩)], rfl, Tryz.call249, w_impl_indexOf_1 hs2 y0 x0 z0 ⟨b21, 0, none⟩ a1 v1 ((p1.mono i27).mono hi2) (at28.mono hi2) hr⟩) hr30) ?_
 rintro e w31 ⟨rfl, r32⟩
 refine ⟨_, rfl, ?_⟩
 have S33 := S26.call r32
 refine FL.v (E.assign (v := Value.int .i64 r29) rfl) ?_
 refine FL.nil ?_
 refine FW.ret ?_
 obtain rfl := Option.some.inj hp
 exact ⟨.inr rfl, res1 rfl rfl ⟨rfl, S33.back⟩⟩

theorem w_impl_hasList {Ha : GH} {wa : World} (hs : Sl Ha wa) (v0 : Value) (a0 : List (List Int)) (p0 : RSl Ha (eL eI 1) 1 v0 a0) (v1 : Value) (a1 : List Int) (p1 : RSl Ha eI 1 v1 a1) {r : Bool} (hp : (PF.impl_hasList a0 a1) = some r) :
  Calls Tryz.prog 203 #[v0, v1] wa (Sc Ha wa (Value.bool r)) := by
 unfold PF.impl_hasList at hp
 have S0 := St.init hs
 refine calls_go (N := 9) (args := [v0, v1]) Tryz.func203 rfl rfl rfl ?_
 refine FW.seq (FW.region ?_)
 refine FL.v (E.assign (v := Value.bool false) rfl) ?_
 refine FL.nil (FW.seq (FW.region ?_))
 refine FL.v (E.move (v := v0) rfl) ?_
 refine FL.v (E.move (v := v1) rfl) ?_
 obtain ⟨r21, hr22, hp⟩ := bnd hp
 refine FL.call rfl rfl rfl (E.call Tryz.call227 (A2 rfl rfl)) (w_impl_indexOf S0.sl v0 a0 p0 v1 a1 p1 hr22) ?_
 rintro e w23 ⟨rfl, r24⟩
 refine ⟨_, rfl, ?_⟩
 have S25 := S0.call r24
 refine FL.v (E.geq rfl rfl) ?_
 refine FL.v (E.assign (v := Value.bool (decide (0 ≤ r21))) rfl) ?_
 refine FL.nil ?_
 refine FW.ret ?_
 obtain rfl := Option.some.inj hp
 exact ⟨.inr rfl, res1 rfl rfl ⟨rfl, S25.back⟩⟩

@[reducible] def p_slices_Clone_impl_config_Lint (Ha : GH) (wa : World) (r : (List (List Int))) : Ending → World → Prop :=
 fun e w' => ∃ H' : GH, ∃ v0 : Value, ∃ n0 : Nat, ∃ c0 : List Value, e = .returned (v0) ∧ St Ha wa H' w' [.row 84 1 v0 n0 c0] ∧ Els H' (eL eI 1) 1 c0 r
theorem w_slices_Clone_impl_config_Lint {Ha : GH} {wa : World} (hs : Sl Ha wa) (v0 : Value) (a0 : List (List Int)) (p0 : RSl Ha (eL eI 1) 1 v0 a0) {r : (List (List Int))} (hp : (PF.slices_Clone_impl_config_Lint a0) = some r) :
  Calls Tryz.prog 204 #[v0] wa (p_slices_Clone_impl_config_Lint Ha wa r) := by
 unfold PF.slices_Clone_impl_config_Lint at hp
 have S0 := St.init hs
 refine calls_go (N := 8) (args := [v0]) Tryz.func204 rfl rfl rfl ?_
 refine FW.seq (FW.region ?_)
 refine FL.v (E.assign (v := Value.slice none 0 0) rfl) ?_
 refine FL.nil (FW.seq (FW.seq (FW.region ?_)))
 refine FL.v (E.move (v := v0) rfl) ?_
 obtain ⟨nb21, run22, hn23⟩ := RSl.nilTest te82 p0
 refine FL.v (run22 _ _ _ _ _ _ _ _ _ _ _ _ rfl rfl) ?_
 refine FL.nil ?_
 rcases bcase nb21 with c24 | c24
 ·
  refine FW.condT (b := nb21) rfl c24 ?_
  rw [hn23 c24, app_nil2] at hp
  refine FW.seq (FW.region ?_)
  refine FL.v (E.assign (v := Value.slice none 0 0) rfl) ?_
  refine FL.nil ?_
  refine FW.ret ?_
  obtain rfl := Option.some.inj hp
  exact ⟨.inr rfl, res1 rfl rfl ⟨_, _, _, _, rfl, (S0.nil 84 1), Els.nil⟩⟩
 ·
  refine FW.condF (b := nb21) rfl c24 ?_
  refine FW.skip (FW.seq (FW.region ?_))
  obtain ⟨v25, w26, run27, S28⟩ := S0.buildSlice (P := Tryz.prog) te82 [] (parts := #[]) (cells := []) rfl szs_nil fc_nil ones_nil (Nat.le_of_ble_eq_true rfl)
  have els29 : Els (up wa.heap.size Ha) (eL eI 1) 1 [] [] := Els.nil
  refine FL.v (E.buildSlice (B0) run27) ?_
  refine FL.v (E.move (v := v0) rfl) ?_
  obtain ⟨xs30, hz31, hp⟩ := bnd hp
  obtain ⟨v32, w35, n33, cs34, run36, S37, els38⟩ := S28.appendP (P := Tryz.prog) (Inc.rfl _) te82 (i := 0) rfl (els29.mono upI) p0 hz31
  have S37 : St Ha wa Ha w35 [.row 84 1 v32 n33 cs34] := S37
  refine FL.v (E.append rfl rfl run36) ?_
  refine FL.v (E.assign (v := v32) rfl) ?_
  refine FL.nil ?_
  refine FW.ret ?_
  obtain rfl := Option.some.inj hp
  exact ⟨.inr rfl, res1 rfl rfl ⟨_, _, _, _, rfl, S37, els38⟩⟩

section
open Go.Shelf Go.RowKit Go.Lib Go.Sort
set_option maxHeartbeats 2000000 in
set_option maxRecDepth 100000 in
theorem Tryz.sort205_eq {α : Type} [Inhabited α] (enc : α → Value) (h1 : OneCell enc) (cf : α → α → Int) (hO : SWO (ltOf cf)) (g : Nat) (cb : Array Value) (blk off cap : Nat) (d : Array α) (w : World)
  (eg : ∀ args w, (callFunc g args).run Tryz.prog w = .ok (.enter g args) w) (hcmp : CmpLays1 Tryz.prog g cb enc cf blk off d.size w) (hH : Holds enc w blk off d) (hblk : blk < w.heap.size) (hsz : d.size < 4611686018427387904) :
  Calls Tryz.prog 205 #[.slice (some ⟨blk, off, none⟩) d.size cap, .func (.func g) #[] cb] w fun e w' =>
   e = .returned (.tuple #[]) ∧ ∃ d' n os, PermIn 0 d.size d d' ∧ SortedIn (ltOf cf) 0 d.size d' ∧ w' = sortWorld enc w blk off n d' os := by
 have hlim : Lib.bitLen d.size < 4611686018427387904 := Nat.lt_of_le_of_lt (Lib.bitLen_le d.size 62 (by omega) (by omega)) (by omega)
 have hp := Any.pdqsortCmpFunc_all (P := Tryz.prog) (ρ := Tryz.pdq98_ren) { Tryz.pdq98 with } enc cf g cb hO blk off cap d w eg hcmp ⟨h1, hH, hblk⟩ (d.size + 1) 0 d.size (Lib.bitLen d.size) d w (by omega) rfl (SW.start hH) (Nat.zero_le _) (Nat.le_refl _) hsz hlim (Or.inl rfl)
 change Calls Tryz.prog 98 _ _ _ at hp
 have hl : Calls Tryz.prog 99 #[.int .u64 (d.size : Int)] w fun e w' => e = .returned (.int .i64 (Lib.bitLen d.size : Nat)) ∧ w' = w := by
  have h := Any.bits_Len (SlLaysF0.n15.bits (P := Tryz.prog) (ρ := Tryz.bits99_ren) { Tryz.bits99 with }) (d.size : Int) w (by omega) (by omega)
  rwa [Int.toNat_natCast] at h
 have wr : IntKind.u64.wrap (d.size : Int) = d.size := by simp [IntKind.wrap, IntKind.bits, IntKind.signed]; omega
 have hs := pdq_sorts (ltOf cf) hO d 0 d.size (Lib.bitLen d.size) true true (Nat.zero_le _) (Nat.le_refl _) (Or.inl rfl)
 clear hH hcmp h1
 go_enter Tryz.func205, Tryz.ntmps205
 go_wp2_with (first | (go_at_call 99; refine hl.mono ?_; rintro e w' ⟨rfl, rfl⟩) | (go_at_call 98; refine hp.mono ?_; rintro e w' ⟨rfl, n, os, rfl⟩))
 go_end0
 exact ⟨rfl, _, n, os, hs.1, hs.2, rfl⟩
set_option maxHeartbeats 2000000 in
theorem Tryz.sort205_none (p : Option Addr) (cap : Nat) (fv : Value) (w : World) :
  Calls Tryz.prog 205 #[.slice p 0 cap, fv] w fun e w' => e = .returned (.tuple #[]) ∧ w' = w := by
 have hp := fun lim W => AnyF.pdqsortCmpFunc_none (P := Tryz.prog) (ρ := Tryz.pdq98_ren) { Tryz.pdq98 with } p cap lim fv W
 have hl : ∀ W, Calls Tryz.prog 99 #[.int .u64 0] W fun e w' => e = .returned (.int .i64 (Lib.bitLen 0 : Nat)) ∧ w' = W := fun W => by
  have h := Any.bits_Len (SlLaysF0.n15.bits (P := Tryz.prog) (ρ := Tryz.bits99_ren) { Tryz.bits99 with }) 0 W (by omega) (by omega)
  exact h
 go_enter Tryz.func205, Tryz.ntmps205
 go_wp2_with (first | (go_at_call 99; refine (hl _).mono ?_; rintro e w' ⟨rfl, rfl⟩) | (go_at_call 98; refine (hp _ _).mono ?_; rintro e w' ⟨rfl, rfl⟩))
 go_end0
 exact ⟨rfl, rfl⟩
end
@[reducible] def p_slices_SortFunc_impl_config_Lint (H0 : GH) (w0 : World) (Ha : GH) (L : List MO) (v0 : Value) (n0 : Nat) (r : (List (List Int))) : Ending → World → Prop :=
 fun e w' => ∃ H' : GH, ∃ c0k : List Value, e = .returned (Value.tuple #[]) ∧ (St H0 w0 H' w' (.row 84 1 v0 n0 c0k :: L) ∧ Inc Ha H') ∧ Els H' (eL eI 1) 1 c0k r
theorem w_slices_SortFunc_impl_config_Lint {H0 Ha : GH} {w0 wa : World} {L : List MO} {v0 : Value} {n0 : Nat} {k0 : List Value} (S0 : St H0 w0 Ha wa (.row 84 1 v0 n0 k0 :: L)) (a0 : List (List Int)) (p0 : Els Ha (eL eI 1) 1 k0 a0) (v1 : Value) (a1 : (List Int) → (List Int) → Option Int) (p1 : Fn_List_Int_List_Int_to_I Tryz.prog Ha v1 a1) {r : (List (List Int))} (hp : (PF.slices_SortFunc_impl_config_Lint a0 a1) = some r) :
  Calls Tryz.prog 205 #[v0, v1] wa (p_slices_SortFunc_impl_config_Lint H0 w0 Ha L v0 n0 r) := by
 refine (St.sortF (l := .row 84 1 v0 n0 k0 :: L) (i := 0) (Inc.rfl _) S0 rfl p0 (fun H2 w2 hi hs2 c x hc d y hd r hr => by obtain ⟨y0, e0, z0⟩ := eL_open hc; cases e0; obtain ⟨y1, e1, z1⟩ := eL_open hd; cases e1; exact p1 H2 w2 hi hs2 x c z0 y d z1 r hr) Tryz.sort205_none (fun α _ enc h1 cf hO g cb blk off cap d w eg hc hH hb hs => Tryz.sort205_eq enc h1 cf hO g cb blk off cap d w eg hc hH hb hs) hp).mono ?_
 rintro e w' ⟨rfl, c', h1, h2, hq⟩
 exact ⟨_, _, rfl, ⟨h1, Inc.rfl _⟩, h2⟩

theorem w_slices_CompareFunc_int_int_int_int {Ha : GH} {wa : World} (hs : Sl Ha wa) (v0 : Value) (a0 : List Int) (p0 : RSl Ha eI 1 v0 a0) (v1 : Value) (a1 : List Int) (p1 : RSl Ha eI 1 v1 a1) (v2 : Value) (a2 : Int → Int → Option Int) (p2 : Fn_I_I_to_I Tryz.prog Ha v2 a2) {r : Int} (hp : (PF.slices_CompareFunc_int_int_int_int a0 a1 a2) = some r) :
  Calls Tryz.prog 102 #[v0, v1, v2] wa (Sc Ha wa (Value.int .i64 r)) := by
 unfold PF.slices_CompareFunc_int_int_int_int at hp
 have S0 := St.init hs
 refine calls_go (N := 39) (args := [v0, v1, v2]) Tryz.func102 rfl rfl rfl ?_
 refine FW.seq (FW.region ?_)
 refine FL.v (E.assign (v := Value.int .i64 0) rfl) ?_
 refine FL.nil (FW.seq (FW.seq (FW.region ?_)))
 refine FL.v (E.move (v := v0) rfl) ?_
 refine FL.v (E.lenP te84 rfl p0) ?_
 refine FL.v (E.move (v := Value.int .i64 0) rfl) ?_
 refine FL.nil ?_
 obtain ⟨q22, hq, hp⟩ := bndR hp
 refine FW.block ?_
 refine FW.mono (FW.forL (S := Unit) (X := Int) (fun (i22 : Nat) (s22 : Unit) f w => ∃ H : GH, St Ha wa H w [] ∧ Inc Ha H ∧ f 13 = Value.int .i64 ((i22 : Nat) : Int) ∧ f 0 = v0 ∧ f 1 = v1 ∧ f 2 = v2 ∧ f 11 = v0 ∧ f 12 = Value.int .i64 (len a0)) (fun q e f w => match q with | .go s22 => e = Exit.exit 0 ∧ (∃ H : GH, St Ha wa H w [] ∧ Inc Ha H ∧ f 0 = v0 ∧ f 1 = v1) | .rt x => ((e = Exit.ret) ∧ (fun e f w => (e = Exit.normal ∨ e = Exit.ret) ∧ ∀ a, Fr (δ := []) 39 a f → ∃ v, (results Tryz.f102 a.tmps).run Tryz.prog w = .ok v w ∧ (Sc Ha wa (Value.int .i64 x)) (.returned v) w) e f w)) hq ⟨_, S0, (Inc.rfl _), rfl, rfl, rfl, rfl, rfl, rfl⟩ ?_ ?_) ?_
 ·
  clear hp hq
  rintro i22 y21 s22 f64 w63 ⟨H60, S61, i62, k65, k66, k67, k68, k69, k70⟩ hx22 o97 hp
  refine FW.seq (FW.region ?_)
  refine FL.v (E.lssT k65 k70 (lss_len hx22)) ?_
  refine FL.nil (FW.seq ?_)
  refine FW.condT rfl rfl ?_
  refine FW.skip (FW.seq (FW.block (FW.seq (FW.region ?_))))
  refine FL.v (E.move k65) ?_
  obtain ⟨p71, cs72, pt73, l74, at75, rel76⟩ := p0.at (ix_nat hx22)
  obtain rfl := eI_open rel76
  refine FL.v (E.indexAddr te84 k69 k65 pt73) ?_
  refine FL.v (E.load rfl (run_load0 Tryz.isAgg3 ((at75.mono i62).now S61.sl) rfl)) ?_
  refine FL.v (E.assign (v := Value.int .i64 ((i22 : Nat) : Int)) rfl) ?_
  refine FL.v (E.assign (v := Value.int .i64 y21) rfl) ?_
  refine FL.nil (FW.seq (FW.seq (FW.region ?_)))
  refine FL.v (E.move (v := Value.int .i64 ((i22 : Nat) : Int)) rfl) ?_
  refine FL.v (E.move k67) ?_
  refine FL.v (E.lenP te84 rfl p1) ?_
  refine FL.v (E.geq rfl rfl) ?_
  refine FL.nil ?_
  rcases ifB hp with ⟨c77, hp⟩ | ⟨c77, hp⟩
  ·
   refine FW.condT rfl c77 ?_
   refine FW.seq (FW.region ?_)
   refine FL.v (E.assign (v := Value.int .i64 1) rfl) ?_
   refine FL.nil ?_
   refine FW.ret ?_
   obtain rfl := Option.some.inj hp
   exact ⟨nofun, rfl, ⟨.inr rfl, res1 rfl rfl ⟨rfl, S61.back⟩⟩⟩
  ·
   refine FW.condF rfl c77 ?_
   refine FW.skip (FW.seq (FW.region ?_))
   refine FL.v (E.move k67) ?_
   refine FL.v (E.move (v := Value.int .i64 ((i22 : Nat) : Int)) rfl) ?_
   obtain ⟨x84, hx85, hp⟩ := bnd hp
   obtain ⟨p78, cs79, pt80, l81, at82, rel83⟩ := p1.at hx85
   obtain rfl := eI_open rel83
   refine FL.v (E.indexAddr te84 rfl rfl pt80) ?_
   refine FL.v (E.load rfl (run_load0 Tryz.isAgg3 ((at82.mono i62).now S61.sl) rfl)) ?_
   refine FL.v (E.assign (v := Value.int .i64 x84) rfl) ?_
   refine FL.nil (FW.seq (FW.region ?_))
   refine FL.v (E.move k68) ?_
   refine FL.v (E.move (v := Value.int .i64 y21) rfl) ?_
   refine FL.v (E.move (v := Value.int .i64 x84) rfl) ?_
   obtain ⟨r86, hr87, hp⟩ := bnd hp
   obtain ⟨fi91, cs92, hv93, he94, hc95⟩ := (p2.mono i62) H60 w63 (Inc.rfl _) S61.sl y21 x84 r86 hr87
   refine FL.call rfl rfl rfl (E.callV he94 (Eq.trans rfl hv93) (appA (A2 rfl rfl) cs92)) hc95 ?_
   rintro e w88 ⟨rfl, r89⟩
   refine ⟨_, rfl, ?_⟩
   have S90 := S61.call r89
   refine FL.v (E.assign (v := Value.int .i64 r86) rfl) ?_
   refine FL.nil (FW.seq (FW.region ?_))
   refine FL.v (E.move (v := Value.int .i64 r86) rfl) ?_
   refine FL.v (E.neq rfl rfl) ?_
   refine FL.nil ?_
   rcases ifB hp with ⟨c96, hp⟩ | ⟨c96, hp⟩
   ·
    refine FW.condT rfl c96 ?_
    refine FW.seq (FW.region ?_)
    refine FL.v (E.move (v := Value.int .i64 r86) rfl) ?_
    refine FL.v (E.assign (v := Value.int .i64 r86) rfl) ?_
    refine FL.nil ?_
    refine FW.ret ?_
    obtain rfl := Option.some.inj hp
    exact ⟨nofun, rfl, ⟨.inr rfl, res1 rfl rfl ⟨rfl, S90.back⟩⟩⟩
   ·
    refine FW.condF rfl c96 ?_
    refine FW.skip (FW.region ?_)
    refine FL.v (E.add k65 rfl) ?_
    refine FL.v (E.move (v := Value.int .i64 (wr (((i22 : Nat) : Int) + 1))) rfl) ?_
    refine FL.nil ?_
    obtain rfl := Option.some.inj hp
    exact ⟨rfl, ⟨_, S90, i62, (nat_succ rfl (lt_of_get hx22) (p0.mono i62).le), k66, k67, k68, k69, k70⟩⟩
 ·
  clear hp hq
  rintro s22 f110 w109 ⟨H106, S107, i108, k111, k112, k113, k114, k115, k116⟩
  refine FW.seq (FW.region ?_)
  refine FL.v (E.lss k111 k116) ?_
  refine FL.nil (FW.seq ?_)
  refine FW.condF rfl dlt_len ?_
  refine FW.exit ?_
  exact ⟨nofun, rfl, ⟨_, S107, i108, k112, k113⟩⟩
 ·
  clear hq
  intro e f102 w101 hD
  rcases q22 with s22 | x22
  ·
   obtain ⟨rfl, hD⟩ := hD
   obtain ⟨H98, S99, i100, k103, k104⟩ := hD
   replace hp := el_go hp
   refine FW.seq (FW.seq (FW.region ?_))
   refine FL.v (E.move k103) ?_
   refine FL.v (E.lenP te84 rfl p0) ?_
   refine FL.v (E.move k104) ?_
   refine FL.v (E.lenP te84 rfl p1) ?_
   refine FL.v (E.lss rfl rfl) ?_
   refine FL.nil ?_
   rcases ifB hp with ⟨c105, hp⟩ | ⟨c105, hp⟩
   ·
    refine FW.condT rfl c105 ?_
    refine FW.seq (FW.region ?_)
    refine FL.v (E.assign (v := Value.int .i64 (-1)) rfl) ?_
    refine FL.nil ?_
    refine FW.ret ?_
    obtain rfl := Option.some.inj hp
    exact ⟨.inr rfl, res1 rfl rfl ⟨rfl, S99.back⟩⟩
   ·
    refine FW.condF rfl c105 ?_
    refine FW.skip (FW.seq (FW.region ?_))
    refine FL.v (E.assign (v := Value.int .i64 0) rfl) ?_
    refine FL.nil ?_
    refine FW.ret ?_
    obtain rfl := Option.some.inj hp
    exact ⟨.inr rfl, res1 rfl rfl ⟨rfl, S99.back⟩⟩
  ·
   obtain ⟨he, hL⟩ := hD
   replace hp := el_rt hp
   obtain rfl := Option.some.inj hp
   subst he
   exact hL

theorem w_impl_compareClauses {Ha : GH} {wa : World} (hs : Sl Ha wa) (v0 : Value) (a0 : List Int) (p0 : RSl Ha eI 1 v0 a0) (v1 : Value) (a1 : List Int) (p1 : RSl Ha eI 1 v1 a1) {r : Int} (hp : (PF.impl_compareClauses a0 a1) = some r) :
  Calls Tryz.prog 51 #[v0, v1] wa (Sc Ha wa (Value.int .i64 r)) := by
 unfold PF.impl_compareClauses at hp
 have S0 := St.init hs
 refine calls_go (N := 15) (args := [v0, v1]) Tryz.func51 rfl rfl rfl ?_
 refine FW.seq (FW.region ?_)
 refine FL.v (E.assign (v := Value.int .i64 0) rfl) ?_
 refine FL.nil (FW.seq (FW.region ?_))
 refine FL.v (E.move (v := v0) rfl) ?_
 refine FL.v (E.lenP te84 rfl p0) ?_
 refine FL.v (E.move (v := v1) rfl) ?_
 refine FL.v (E.lenP te84 rfl p1) ?_
 refine FL.call rfl rfl rfl (E.call Tryz.call101 (A2 rfl rfl)) (w_cmp_Compare_int S0.sl (len a0) (len a1)) ?_
 rintro e w21 ⟨rfl, r22⟩
 refine ⟨_, rfl, ?_⟩
 have S23 := S0.call r22
 refine FL.v (E.move (v := v0) rfl) ?_
 refine FL.v (E.move (v := v1) rfl) ?_
 obtain ⟨r24, hr25, hp⟩ := bnd hp
 refine FL.call rfl rfl rfl (E.call Tryz.call102 (A3 rfl rfl rfl)) (w_slices_CompareFunc_int_int_int_int S23.sl v0 a0 p0 v1 a1 p1 (Value.func (.func 103) #[] #[]) (fun x0 x1 => PF.impl_compareLiterals x0 x1) (fun H2 w2 hi2 hs2 x0 x1 r hr => ⟨103, #[], rfl, Tryz.call103, w_impl_compareLiterals hs2 x0 x1  hr⟩) hr25) ?_
 rintro e w26 ⟨rfl, r27⟩
 refine ⟨_, rfl, ?_⟩
 have S28 := S23.call r27
 obtain ⟨v29, w30, run31, S32⟩ := S28.buildSlice (P := Tryz.prog) te84 [Value.int .i64 (PF.cmp_Compare_int (len a0) (len a1)), Value.int .i64 r24] (parts := #[(0, Value.int .i64 (PF.cmp_Compare_int (len a0) (len a1))), (1, Value.int .i64 r24)]) (cells := [Value.int .i64 (PF.cmp_Compare_int (len a0) (len a1)), Value.int .i64 r24]) rfl (szs_cons rfl (szs_cons rfl szs_nil)) (fc_cons rfl (fc_cons rfl fc_nil)) (ones_cons rfl (ones_cons rfl ones_nil)) (Nat.le_of_ble_eq_true rfl)
 have els33 : Els (up wa.heap.size Ha) eI 1 [Value.int .i64 (PF.cmp_Compare_int (len a0) (len a1)), Value.int .i64 r24] [(PF.cmp_Compare_int (len a0) (len a1)), r24] := (Els.snoc (H := (up wa.heap.size Ha)) (E := eI) (k := 1) (c := [Value.int .i64 r24]) (x := r24) (Els.snoc (H := (up wa.heap.size Ha)) (E := eI) (k := 1) (c := [Value.int .i64 (PF.cmp_Compare_int (len a0) (len a1))]) (x := (PF.cmp_Compare_int (len a0) (len a1))) Els.nil rfl rfl) rfl rfl)
 refine FL.v (E.buildSlice (B2 rfl rfl) run31) ?_
 obtain ⟨H34, S35, i36, h37, nv38⟩ := S32.sealRowU (i := 0) (l' := []) rfl els33 (by decide) rfl
 obtain ⟨r39, hr40, hp⟩ := bnd hp
 refine FL.call rfl rfl rfl (E.call Tryz.call100 (A1 rfl)) (w_cmp_Or_int S35.sl v29 [(PF.cmp_Compare_int (len a0) (len a1)), r24] (h37.mono upI) hr40) ?_
 rintro e w41 ⟨rfl, r42⟩
 refine ⟨_, rfl, ?_⟩
 have r42 := Run.lend i36 S32.sl r42
 have S43 := S32.call r42
 refine FL.v (E.assign (v := Value.int .i64 r39) rfl) ?_
 refine FL.nil ?_
 refine FW.ret ?_
 obtain rfl := Option.some.inj hp
 exact ⟨.inr rfl, res1 rfl rfl ⟨rfl, S43.back⟩⟩

@[reducible] def p_impl_config_with (Ha : GH) (wa : World) (r : ((List (List Int)) × Bool)) : Ending → World → Prop :=
 fun e w' => ∃ H' : GH, ∃ v0 : Value, ∃ n0 : Nat, ∃ c0 : List Value, e = .returned (Value.tuple #[v0, Value.bool r.2]) ∧ St Ha wa H' w' [.row 84 1 v0 n0 c0] ∧ Els H' (eL eI 1) 1 c0 r.1
theorem w_impl_config_with {Ha : GH} {wa : World} (hs : Sl Ha wa) (v0 : Value) (a0 : List (List Int)) (p0 : RSl Ha (eL eI 1) 1 v0 a0) (v1 : Value) (a1 : List Int) (p1 : RSl Ha eI 1 v1 a1) {r : ((List (List Int)) × Bool)} (hp : (PF.impl_config_with a0 a1) = some r) :
  Calls Tryz.prog 154 #[v0, v1] wa (p_impl_config_with Ha wa r) := by
 unfold PF.impl_config_with at hp
 have S0 := St.init hs
 refine calls_go (N := 18) (args := [v0, v1]) Tryz.func154 rfl rfl rfl ?_
 refine FW.seq (FW.region ?_)
 refine FL.v (E.assign (v := Value.slice none 0 0) rfl) ?_
 refine FL.v (E.assign (v := Value.bool false) rfl) ?_
 refine FL.nil (FW.seq (FW.seq (FW.region ?_)))
 refine FL.v (E.move (v := v0) rfl) ?_
 refine FL.v (E.move (v := v1) rfl) ?_
 obtain ⟨r21, hr22, hp⟩ := bnd hp
 refine FL.call rfl rfl rfl (E.call Tryz.call203 (A2 rfl rfl)) (w_impl_hasList S0.sl v0 a0 p0 v1 a1 p1 hr22) ?_
 rintro e w23 ⟨rfl, r24⟩
 refine ⟨_, rfl, ?_⟩
 have S25 := S0.call r24
 refine FL.nil ?_
 rcases ifB hp with ⟨c26, hp⟩ | ⟨c26, hp⟩
 ·
  refine FW.condT rfl c26 ?_
  refine FW.seq (FW.region ?_)
  refine FL.v (E.assign (v := Value.slice none 0 0) rfl) ?_
  refine FL.v (E.assign (v := Value.bool false) rfl) ?_
  refine FL.nil ?_
  refine FW.ret ?_
  obtain rfl := Option.some.inj hp
  exact ⟨.inr rfl, res2 rfl rfl rfl ⟨_, _, _, _, rfl, (S25.nil 84 1), Els.nil⟩⟩
 ·
  refine FW.condF rfl c26 ?_
  refine FW.skip (FW.seq (FW.region ?_))
  refine FL.v (E.move (v := v0) rfl) ?_
  obtain ⟨r27, hr28, hp⟩ := bnd hp
  refine FL.call rfl rfl rfl (E.call Tryz.call204 (A1 rfl)) (w_slices_Clone_impl_config_Lint S25.sl v0 a0 p0 hr28) ?_
  rintro e w30 ⟨H29, v33, n34, cs35, rfl, r32, els36⟩
  refine ⟨_, rfl, ?_⟩
  have S31 := S25.join (l' := [.row 84 1 v33 n34 cs35]) r32 rfl
  refine FL.v (E.move (v := v1) rfl) ?_
  obtain ⟨v37, w38, run39, S40⟩ := S31.buildSlice (P := Tryz.prog) te82 [v1] (parts := #[(0, v1)]) (cells := [v1]) rfl (szs_cons (cells_size p1.cells) szs_nil) (fc_cons p1.cells fc_nil) (ones_cons p1.one ones_nil) (Nat.le_of_ble_eq_true rfl)
  have els41 : Els H29 (eL eI 1) 1 [v1] [a1] := (Els.snoc (H := H29) (E := (eL eI 1)) (k := 1) (c := [v1]) (x := a1) Els.nil rfl ⟨_, rfl, (p1.mono r32.run.inc)⟩)
  refine FL.v (E.buildSlice (B1 rfl) run39) ?_
  obtain ⟨xs42, hz43, hp⟩ := bnd hp
  obtain ⟨v44, w47, n45, cs46, run48, S49, els50, ce51⟩ := S40.appendO (P := Tryz.prog) te82 (i := 1) (j := 0) rfl els36 rfl els41 hz43
  have S49 : St Ha wa H29 w47 [.row 84 1 v37 1 [v1], .row 84 1 v44 n45 cs46] := S49
  have S52 : St Ha wa H29 w47 [.row 84 1 v44 n45 cs46] := S49.drop 0
  refine FL.v (E.append rfl rfl run48) ?_
  refine FL.v (E.assign (v := v44) rfl) ?_
  refine FL.nil (FW.seq (FW.region ?_))
  refine FL.v (E.move (v := v44) rfl) ?_
  obtain ⟨r53, hr54, hp⟩ := bnd hp
  refine FL.call rfl rfl rfl (E.call Tryz.call205 (A2 rfl rfl)) (w_slices_SortFunc_impl_config_Lint (L := []) S52 xs42 els50 (Value.func (.func 51) #[] #[]) (fun x0 x1 => PF.impl_compareClauses x0 x1) (fun H2 w2 hi2 hs2 x0 y0 z0 x1 y1 z1 r hr => ⟨51, #[], rfl, Tryz.call51, w_impl_compareClauses hs2 y0 x0 z0 y1 x1 z1  hr⟩) hr54) ?_
  rintro e w56 ⟨H55, cs59, rfl, ⟨S57, i58⟩, els60⟩
  refine ⟨_, rfl, ?_⟩
  have S57 : St Ha wa H55 w56 [.row 84 1 v44 n45 cs59] := S57
  refine FL.nil (FW.seq (FW.region ?_))
  refine FL.v (E.move (v := v44) rfl) ?_
  refine FL.v (E.assign (v := v44) rfl) ?_
  refine FL.v (E.assign (v := Value.bool true) rfl) ?_
  refine FL.nil ?_
  refine FW.ret ?_
  obtain rfl := Option.some.inj hp
  exact ⟨.inr rfl, res2 rfl rfl rfl ⟨_, _, _, _, rfl, S57, els60⟩⟩

@[reducible] def p_impl_config_after (Ha : GH) (wa : World) (r : ((List (List Int)) × Bool)) : Ending → World → Prop :=
 fun e w' => ∃ H' : GH, ∃ v0 : Value, ∃ n0 : Nat, ∃ c0 : List Value, e = .returned (Value.tuple #[v0, Value.bool r.2]) ∧ St Ha wa H' w' [.row 84 1 v0 n0 c0] ∧ Els H' (eL eI 1) 1 c0 r.1
theorem w_impl_config_after {Ha : GH} {wa : World} (hs : Sl Ha wa) (v0 : Value) (a0 : List (List Int)) (p0 : RSl Ha (eL eI 1) 1 v0 a0) (a1 : Cnf) (v1_1 : Value) (p1_1 : RSl Ha (eL eI 1) 1 v1_1 a1.clauses) (a2 : SpaceStep) {r : ((List (List Int)) × Bool)} (hp : (PF.impl_config_after a0 a1 a2) = some r) :
  Calls Tryz.prog 97 #[v0, Value.agg #[Value.int .i64 a1.vars, v1_1], Value.agg #[Value.int .i64 a2.kind, Value.int .i64 a2.a, Value.int .i64 a2.b, Value.int .i64 a2.pivot]] wa (p_impl_config_after Ha wa r) := by
 unfold PF.impl_config_after at hp
 have S0 := St.init hs
 refine calls_go (N := 48) (args := [v0, Value.agg #[Value.int .i64 a1.vars, v1_1], Value.agg #[Value.int .i64 a2.kind, Value.int .i64 a2.a, Value.int .i64 a2.b, Value.int .i64 a2.pivot]]) Tryz.func97 rfl rfl rfl ?_
 refine FW.seq (FW.region ?_)
 obtain ⟨b21, w22, run23, S24⟩ := S0.box (P := Tryz.prog) 30 [Value.int .i64 a1.vars, v1_1] (v := Value.agg #[Value.int .i64 a1.vars, v1_1]) rfl (ones_cons rfl (ones_cons p1_1.one ones_nil))
 refine FL.v (E.box rfl run23) ?_
 obtain ⟨H25, S26, i27, at28⟩ := S24.sealBox (i := 0) (l' := []) rfl rfl
 obtain ⟨b29, w30, run31, S32⟩ := S26.box (P := Tryz.prog) 76 [Value.int .i64 a2.kind, Value.int .i64 a2.a, Value.int .i64 a2.b, Value.int .i64 a2.pivot] (v := Value.agg #[Value.int .i64 a2.kind, Value.int .i64 a2.a, Value.int .i64 a2.b, Value.int .i64 a2.pivot]) rfl (ones_cons rfl (ones_cons rfl (ones_cons rfl (ones_cons rfl ones_nil))))
 refine FL.v (E.box rfl run31) ?_
 obtain ⟨H33, S34, i35, at36⟩ := S32.sealBox (i := 0) (l' := []) rfl rfl
 refine FL.v (E.assign (v := Value.slice none 0 0) rfl) ?_
 refine FL.v (E.assign (v := Value.bool false) rfl) ?_
 refine FL.nil (FW.seq (FW.seq (FW.region ?_)))
 refine FL.v (E.fieldAddr tf76_0 rfl) ?_
 refine FL.v (E.load rfl (run_load1 Tryz.isAgg3 (at36.now S34.sl) rfl)) ?_
 refine FL.v (E.eql rfl rfl) ?_
 refine FL.nil ?_
 rcases ifB hp with ⟨c37, hp⟩ | ⟨c37, hp⟩
 ·
  refine FW.condT rfl c37 ?_
  refine FW.seq (FW.seq (FW.region ?_))
  refine FL.v (E.fieldAddr tf76_1 rfl) ?_
  refine FL.v (E.load rfl (run_load1 Tryz.isAgg3 (at36.now S34.sl) rfl)) ?_
  refine FL.v (E.move (v := v0) rfl) ?_
  refine FL.v (E.lenP te82 rfl p0) ?_
  refine FL.v (E.sub rfl rfl) ?_
  refine FL.call rfl rfl rfl (E.call Tryz.call108 (A3 rfl rfl rfl)) (w_impl_within S34.sl a2.a 0 (wr ((len a0) - 1))) ?_
  rintro e w38 ⟨rfl, r39⟩
  refine ⟨_, rfl, ?_⟩
  have S40 := S34.call r39
  refine FL.v (E.not rfl) ?_
  refine FL.v (E.move (v := Value.bool (!(PF.impl_within a2.a 0 (wr ((len a0) - 1))))) rfl) ?_
  refine FL.cut 4 (fun f w => ∃ H : GH, St Ha wa H w [] ∧ Inc H33 H ∧ f 0 = v0 ∧ f 5 = Value.pointer (some ⟨b29, 0, none⟩) ∧ f 24 = Value.bool (bif (!(PF.impl_within a2.a 0 (wr ((len a0) - 1)))) then true else (!(a2.b == 0)))) ?_ ?_
  ·
   rcases bcase (!(PF.impl_within a2.a 0 (wr ((len a0) - 1)))) with c47 | c47
   ·
    refine FL.skip (wF_no rfl rfl rfl c47) rfl ?_
    refine FL.skip (wF_no rfl rfl rfl c47) rfl ?_
    refine FL.skip (wF_no rfl rfl rfl c47) rfl ?_
    refine FL.v (E.pickT rfl c47 rfl) ?_
    exact FL.nil ⟨rfl, _, S40, (Inc.rfl _), rfl, rfl, (congrArg Value.bool (bifT c47).symm)⟩
   ·
    refine FL.val (wF_yes rfl rfl rfl c47) rfl rfl (E.fieldAddr tf76_2 rfl) ?_
    refine FL.val (wF_yes rfl rfl rfl c47) rfl rfl (E.load rfl (run_load1 Tryz.isAgg3 (at36.now S40.sl) rfl)) ?_
    refine FL.val (wF_yes rfl rfl rfl c47) rfl rfl (E.neq rfl rfl) ?_
    refine FL.v (E.pickF rfl c47 rfl) ?_
    exact FL.nil ⟨rfl, _, S40, (Inc.rfl _), rfl, rfl, (congrArg Value.bool (bifF c47).symm)⟩
  rintro f46 w45 ⟨H42, S43, i44, k48, k49, k50⟩
  refine FL.v (E.move k50) ?_
  refine FL.cut 4 (fun f w => ∃ H : GH, St Ha wa H w [] ∧ Inc H42 H ∧ f 0 = v0 ∧ f 5 = Value.pointer (some ⟨b29, 0, none⟩) ∧ f 29 = Value.bool (bif (bif (!(PF.impl_within a2.a 0 (wr ((len a0) - 1)))) then true else (!(a2.b == 0))) then true else (!(a2.pivot == 0)))) ?_ ?_
  ·
   rcases bcase (bif (!(PF.impl_within a2.a 0 (wr ((len a0) - 1)))) then true else (!(a2.b == 0))) with c57 | c57
   ·
    refine FL.skip (wF_no rfl rfl rfl c57) rfl ?_
    refine FL.skip (wF_no rfl rfl rfl c57) rfl ?_
    refine FL.skip (wF_no rfl rfl rfl c57) rfl ?_
    refine FL.v (E.pickT rfl c57 rfl) ?_
    exact FL.nil ⟨rfl, _, S43, (Inc.rfl _), k48, k49, (congrArg Value.bool (bifT c57).symm)⟩
   ·
    refine FL.val (wF_yes rfl rfl rfl c57) rfl rfl (E.fieldAddr tf76_3 k49) ?_
    refine FL.val (wF_yes rfl rfl rfl c57) rfl rfl (E.load rfl (run_load1 Tryz.isAgg3 ((at36.mono i44).now S43.sl) rfl)) ?_
    refine FL.val (wF_yes rfl rfl rfl c57) rfl rfl (E.neq rfl rfl) ?_
    refine FL.v (E.pickF rfl c57 rfl) ?_
    exact FL.nil ⟨rfl, _, S43, (Inc.rfl _), k48, k49, (congrArg Value.bool (bifF c57).symm)⟩
  rintro f56 w55 ⟨H52, S53, i54, k58, k59, k60⟩
  refine FL.nil ?_
  rcases ifB hp with ⟨c61, hp⟩ | ⟨c61, hp⟩
  ·
   refine FW.condT k60 c61 ?_
   refine FW.seq (FW.region ?_)
   refine FL.v (E.assign (v := Value.slice none 0 0) rfl) ?_
   refine FL.v (E.assign (v := Value.bool false) rfl) ?_
   refine FL.nil ?_
   refine FW.ret ?_
   obtain rfl := Option.some.inj hp
   exact ⟨.inr rfl, res2 rfl rfl rfl ⟨_, _, _, _, rfl, (S53.nil 84 1), Els.nil⟩⟩
  ·
   refine FW.condF k60 c61 ?_
   refine FW.skip (FW.seq (FW.region ?_))
   refine FL.v (E.move k58) ?_
   refine FL.v (E.fieldAddr tf76_1 k59) ?_
   refine FL.v (E.load rfl (run_load1 Tryz.isAgg3 ((at36.mono (i44.tr i54)).now S53.sl) rfl)) ?_
   obtain ⟨r62, hr63, hp⟩ := bnd hp
   refine FL.call rfl rfl rfl (E.call Tryz.call152 (A2 rfl rfl)) (w_impl_without_int S53.sl v0 a0 (p0.mono (((i27.tr i35).tr i44).tr i54)) a2.a hr63) ?_
   rintro e w65 ⟨H64, v68, n69, cs70, rfl, r67, els71⟩
   refine ⟨_, rfl, ?_⟩
   have S66 := S53.join (l' := [.row 84 1 v68 n69 cs70]) r67 rfl
   refine FL.v (E.assign (v := v68) rfl) ?_
   refine FL.v (E.assign (v := Value.bool true) rfl) ?_
   refine FL.nil ?_
   refine FW.ret ?_
   obtain rfl := Option.some.inj hp
   exact ⟨.inr rfl, res2 rfl rfl rfl ⟨_, _, _, _, rfl, S66, els71⟩⟩
 ·
  refine FW.condF rfl c37 ?_
  refine FW.skip (FW.seq (FW.region ?_))
  refine FL.v (E.move (v := v0) rfl) ?_
  refine FL.v (E.load rfl (run_loadA Tryz.isAgg30 Tryz.sizeOf30 ((at28.mono i35).now S34.sl) rfl)) ?_
  refine FL.v (E.load rfl (run_loadA Tryz.isAgg76 Tryz.sizeOf76 (at36.now S34.sl) rfl)) ?_
  obtain ⟨r72, hr73, hp⟩ := bnd hp
  refine FL.call rfl rfl rfl (E.call Tryz.call153 (A3 rfl rfl rfl)) (w_impl_config_put S34.sl v0 a0 (p0.mono (i27.tr i35)) a1 v1_1 (p1_1.mono (i27.tr i35)) a2 hr73) ?_
  rintro e w75 ⟨H74, v78, rfl, r77, h79⟩
  refine ⟨_, rfl, ?_⟩
  have S76 := S34.call r77
  refine FL.v (E.move (v := Value.tuple #[v78, Value.bool r72.2]) rfl) ?_
  refine FL.v (E.extract (i := 0) rfl rfl) ?_
  refine FL.v (E.extract (i := 1) rfl rfl) ?_
  refine FL.v (E.assign (v := v78) rfl) ?_
  refine FL.v (E.assign (v := Value.bool r72.2) rfl) ?_
  refine FL.nil (FW.seq (FW.seq (FW.region ?_)))
  refine FL.v (E.move (v := Value.bool r72.2) rfl) ?_
  refine FL.v (E.not rfl) ?_
  refine FL.nil ?_
  rcases ifB hp with ⟨c80, hp⟩ | ⟨c80, hp⟩
  ·
   refine FW.condT rfl c80 ?_
   refine FW.seq (FW.region ?_)
   refine FL.v (E.assign (v := Value.slice none 0 0) rfl) ?_
   refine FL.v (E.assign (v := Value.bool false) rfl) ?_
   refine FL.nil ?_
   refine FW.ret ?_
   obtain rfl := Option.some.inj hp
   exact ⟨.inr rfl, res2 rfl rfl rfl ⟨_, _, _, _, rfl, (S76.nil 84 1), Els.nil⟩⟩
  ·
   refine FW.condF rfl c80 ?_
   refine FW.skip (FW.seq (FW.region ?_))
   refine FL.v (E.move (v := v0) rfl) ?_
   refine FL.v (E.move (v := v78) rfl) ?_
   obtain ⟨r81, hr82, hp⟩ := bnd hp
   refine FL.call rfl rfl rfl (E.call Tryz.call154 (A2 rfl rfl)) (w_impl_config_with S76.sl v0 a0 (p0.mono ((i27.tr i35).tr r77.inc)) v78 r72.1 h79 hr82) ?_
   rintro e w84 ⟨H83, v87, n88, cs89, rfl, r86, els90⟩
   refine ⟨_, rfl, ?_⟩
   have S85 := S76.join (l' := [.row 84 1 v87 n88 cs89]) r86 rfl
   refine FL.v (E.extract (i := 0) rfl rfl) ?_
   refine FL.v (E.extract (i := 1) rfl rfl) ?_
   refine FL.v (E.assign (v := v87) rfl) ?_
   refine FL.v (E.assign (v := Value.bool r81.2) rfl) ?_
   refine FL.nil ?_
   refine FW.ret ?_
   obtain rfl := Option.some.inj hp
   exact ⟨.inr rfl, res2 rfl rfl rfl ⟨_, _, _, _, rfl, S85, els90⟩⟩

@[reducible] def p_impl_configs (Ha : GH) (wa : World) (r : ((List (List (List Int))) × Bool)) : Ending → World → Prop :=
 fun e w' => ∃ H' : GH, ∃ v0 : Value, ∃ n0 : Nat, ∃ c0 : List Value, e = .returned (Value.tuple #[v0, Value.bool r.2]) ∧ St Ha wa H' w' [.row 82 1 v0 n0 c0] ∧ Els H' (eL (eL eI 1) 1) 1 c0 r.1
theorem w_impl_configs {Ha : GH} {wa : World} (hs : Sl Ha wa) (a0 : Cnf) (v0_1 : Value) (p0_1 : RSl Ha (eL eI 1) 1 v0_1 a0.clauses) (v1 : Value) (a1 : List SpaceStep) (p1 : RSl Ha eSpaceStep 4 v1 a1) {r : ((List (List (List Int))) × Bool)} (hp : (PF.impl_configs a0 a1) = some r) :
  Calls Tryz.prog 48 #[Value.agg #[Value.int .i64 a0.vars, v0_1], v1] wa (p_impl_configs Ha wa r) := by
 unfold PF.impl_configs at hp
 have S0 := St.init hs
 refine calls_go (N := 42) (args := [Value.agg #[Value.int .i64 a0.vars, v0_1], v1]) Tryz.func48 rfl rfl rfl ?_
 refine FW.seq (FW.region ?_)
 obtain ⟨b21, w22, run23, S24⟩ := S0.box (P := Tryz.prog) 30 [Value.int .i64 a0.vars, v0_1] (v := Value.agg #[Value.int .i64 a0.vars, v0_1]) rfl (ones_cons rfl (ones_cons p0_1.one ones_nil))
 refine FL.v (E.box rfl run23) ?_
 obtain ⟨H25, S26, i27, at28⟩ := S24.sealBox (i := 0) (l' := []) rfl rfl
 refine FL.v (E.assign (v := Value.slice none 0 0) rfl) ?_
 refine FL.v (E.assign (v := Value.bool false) rfl) ?_
 refine FL.nil (FW.seq (FW.seq (FW.region ?_)))
 refine FL.v (E.load rfl (run_loadA Tryz.isAgg30 Tryz.sizeOf30 (at28.now S26.sl) rfl)) ?_
 obtain ⟨r29, hr30, hp⟩ := bnd hp
 refine FL.call rfl rfl rfl (E.call Tryz.call95 (A1 rfl)) (w_impl_IsCnf S26.sl a0 v0_1 (p0_1.mono i27) hr30) ?_
 rintro e w31 ⟨rfl, r32⟩
 refine ⟨_, rfl, ?_⟩
 have S33 := S26.call r32
 refine FL.v (E.not rfl) ?_
 refine FL.v (E.move (v := Value.bool (!r29)) rfl) ?_
 refine FL.cut 4 (fun f w => ∃ H : GH, St Ha wa H w [] ∧ Inc H25 H ∧ f 1 = v1 ∧ f 2 = Value.pointer (some ⟨b21, 0, none⟩) ∧ f 18 = Value.bool (bif (!r29) then true else (decide (300 < (len a1))))) ?_ ?_
 ·
  rcases bcase (!r29) with c40 | c40
  ·
   refine FL.skip (wF_no rfl rfl rfl c40) rfl ?_
   refine FL.skip (wF_no rfl rfl rfl c40) rfl ?_
   refine FL.skip (wF_no rfl rfl rfl c40) rfl ?_
   refine FL.v (E.pickT rfl c40 rfl) ?_
   exact FL.nil ⟨rfl, _, S33, (Inc.rfl _), rfl, rfl, (congrArg Value.bool (bifT c40).symm)⟩
  ·
   refine FL.val (wF_yes rfl rfl rfl c40) rfl rfl (E.move (v := v1) rfl) ?_
   refine FL.val (wF_yes rfl rfl rfl c40) rfl rfl (E.lenP te32 rfl p1) ?_
   refine FL.val (wF_yes rfl rfl rfl c40) rfl rfl (E.gtr rfl rfl) ?_
   refine FL.v (E.pickF rfl c40 rfl) ?_
   exact FL.nil ⟨rfl, _, S33, (Inc.rfl _), rfl, rfl, (congrArg Value.bool (bifF c40).symm)⟩
 rintro f39 w38 ⟨H35, S36, i37, k41, k42, k43⟩
 refine FL.nil ?_
 rcases ifB hp with ⟨c44, hp⟩ | ⟨c44, hp⟩
 ·
  refine FW.condT k43 c44 ?_
  refine FW.seq (FW.region ?_)
  refine FL.v (E.assign (v := Value.slice none 0 0) rfl) ?_
  refine FL.v (E.assign (v := Value.bool false) rfl) ?_
  refine FL.nil ?_
  refine FW.ret ?_
  obtain rfl := Option.some.inj hp
  exact ⟨.inr rfl, res2 rfl rfl rfl ⟨_, _, _, _, rfl, (S36.nil 82 1), Els.nil⟩⟩
 ·
  refine FW.condF k43 c44 ?_
  refine FW.skip (FW.seq (FW.region ?_))
  obtain ⟨v45, w46, run47, S48⟩ := S36.buildSlice (P := Tryz.prog) te79 [Value.slice none 0 0] (parts := #[(0, Value.slice none 0 0)]) (cells := [Value.slice none 0 0]) rfl (szs_cons rfl szs_nil) (fc_cons rfl fc_nil) (ones_cons rfl ones_nil) (Nat.le_of_ble_eq_true rfl)
  have els49 : Els (up wa.heap.size H35) (eL (eL eI 1) 1) 1 [Value.slice none 0 0] [[]] := (Els.snoc (H := (up wa.heap.size H35)) (E := (eL (eL eI 1) 1)) (k := 1) (c := [Value.slice none 0 0]) (x := []) Els.nil rfl ⟨_, rfl, RSl.nil _ _ _⟩)
  refine FL.v (E.buildSlice (B1 rfl) run47) ?_
  refine FL.v (E.assign (v := v45) rfl) ?_
  refine FL.nil (FW.seq (FW.seq (FW.region ?_)))
  refine FL.v (E.move k41) ?_
  refine FL.v (E.lenP te32 rfl p1) ?_
  refine FL.v (E.move (v := Value.int .i64 0) rfl) ?_
  refine FL.nil ?_
  obtain ⟨q51, hq, hp⟩ := bndR hp
  refine FW.block ?_
  refine FW.mono (FW.forL (S := (List (List (List Int)))) (X := ((List (List (List Int))) × Bool)) (fun (i51 : Nat) (s51 : (List (List (List Int)))) f w => ∃ H : GH, ∃ v52 : Value, ∃ n53 : Nat, ∃ cs54 : List Value, St Ha wa H w [.row 82 1 v52 n53 cs54] ∧ Inc H35 H ∧ Els H (eL (eL eI 1) 1) 1 cs54 s51 ∧ f 22 = Value.int .i64 ((i51 : Nat) : Int) ∧ f 2 = Value.pointer (some ⟨b21, 0, none⟩) ∧ f 6 = v52 ∧ f 20 = v1 ∧ f 21 = Value.int .i64 (len a1)) (fun q e f w => match q with | .go s51 => e = Exit.exit 0 ∧ (∃ H : GH, ∃ v52 : Value, ∃ n53 : Nat, ∃ cs54 : List Value, St Ha wa H w [.row 82 1 v52 n53 cs54] ∧ Inc H35 H ∧ Els H (eL (eL eI 1) 1) 1 cs54 s51 ∧ f 6 = v52) | .rt x => ((e = Exit.ret) ∧ (fun e f w => (e = Exit.normal ∨ e = Exit.ret) ∧ ∀ a, Fr (δ := []) 42 a f → ∃ v, (results Tryz.f48 a.tmps).run Tryz.prog w = .ok v w ∧ (p_impl_configs Ha wa x) (.returned v) w) e f w)) hq ⟨_, _, _, _, S48, (Inc.rfl _), (els49.mono upI), rfl, k42, rfl, rfl, rfl⟩ ?_ ?_) ?_
  ·
   clear hp hq
   rintro i51 y50 s51 f59 w58 ⟨H34, v52, n53, cs54, S56, i57, els55, k60, k61, k62, k63, k64⟩ hx51 o150 hp
   refine FW.seq (FW.region ?_)
   refine FL.v (E.lssT k60 k64 (lss_len hx51)) ?_
   refine FL.nil (FW.seq ?_)
   refine FW.condT rfl rfl ?_
   refine FW.skip (FW.seq (FW.block (FW.seq (FW.region ?_))))
   obtain ⟨p65, cs66, pt67, l68, at69, rel70⟩ := p1.at (ix_nat hx51)
   obtain rfl := eSpaceStep_open rel70
   refine FL.v (E.indexAddr te32 k63 k60 pt67) ?_
   refine FL.v (E.load rfl (run_loadA Tryz.isAgg76 Tryz.sizeOf76 ((at69.mono ((i27.tr i37).tr i57)).now S56.sl) rfl)) ?_
   obtain ⟨b71, w72, run73, S74⟩ := S56.alloc (P := Tryz.prog) 76 [Value.int .i64 0, Value.int .i64 0, Value.int .i64 0, Value.int .i64 0] Tryz.zeroValue76 rfl (ones_cons rfl (ones_cons rfl (ones_cons rfl (ones_cons rfl ones_nil))))
   refine FL.v (E.alloc run73) ?_
   obtain ⟨w75, run76, S77⟩ := S74.store0 (P := Tryz.prog) (t := 76) (i := 0) (cs' := [Value.int .i64 y50.kind, Value.int .i64 y50.a, Value.int .i64 y50.b, Value.int .i64 y50.pivot]) (l' := [.box b71 76 [Value.int .i64 y50.kind, Value.int .i64 y50.a, Value.int .i64 y50.b, Value.int .i64 y50.pivot], .row 82 1 v52 n53 cs54]) (v := Value.agg #[Value.int .i64 y50.kind, Value.int .i64 y50.a, Value.int .i64 y50.b, Value.int .i64 y50.pivot]) (c := [Value.int .i64 y50.kind, Value.int .i64 y50.a, Value.int .i64 y50.b, Value.int .i64 y50.pivot]) rfl Tryz.sizeOf76 rfl rfl (ones_cons rfl (ones_cons rfl (ones_cons rfl (ones_cons rfl ones_nil)))) (Nat.le_of_ble_eq_true rfl) rfl rfl
   refine FL.act rfl rfl (E.store rfl rfl run76) ?_
   obtain ⟨H78, S80, i81, at82⟩ := S77.sealBox (i := 0) (l' := [.row 82 1 v52 n53 cs54]) rfl rfl
   refine FL.nil (FW.seq ?_)
   obtain ⟨s86, hq86, hp⟩ := bnd hp
   obtain ⟨r103, hr104, hp⟩ := bnd hp
   refine FW.drawB (SX Ha wa H78 [.row 82 1 v52 n53 cs54]) (fun f w => ∃ H : GH, ∃ v113 : Value, ∃ n114 : Nat, ∃ cs115 : List Value, St Ha wa H w [.row 82 1 v52 n53 cs54, .row 84 1 v113 n114 cs115] ∧ Inc H78 H ∧ Els H (eL eI 1) 1 cs115 r103.1 ∧ f 2 = Value.pointer (some ⟨b21, 0, none⟩) ∧ f 6 = v52 ∧ f 9 = v113 ∧ f 10 = Value.bool r103.2 ∧ f 20 = v1 ∧ f 21 = Value.int .i64 (len a1) ∧ f 22 = Value.int .i64 ((i51 : Nat) : Int)) (by kernel_rfl) S80.sl ?_ ?_
   ·
    intro w83 r84
    have S85 := S80.call r84
    refine FB.t (i := 0) (bs 10 1) rfl (SP.nil ⟨_, S85, (Inc.rfl _)⟩) rfl (fun w' hw' => (E.move k62)) ?_
    refine FB.t (i := 2) (bs 10 5) rfl (SP.nil ⟨_, S85, (Inc.rfl _)⟩) rfl (fun w' hw' => (E.load k61 (run_loadA Tryz.isAgg30 Tryz.sizeOf30 ((at28.mono ((i37.tr i57).tr i81)).now hw'.sl) rfl))) ?_
    refine FB.t (i := 3) (bs 10 13) rfl (SP.nil ⟨_, S85, (Inc.rfl _)⟩) rfl (fun w' hw' => (E.load rfl (run_loadA Tryz.isAgg76 Tryz.sizeOf76 (at82.now hw'.sl) rfl))) ?_
    refine FB.all1 (i := 1) (by kernel_rfl) ?_
    ·
     obtain ⟨R86, hR86⟩ : ∃ R86 : (List (List Int)) → Ending → World → Prop, R86 = (fun s86 e w => ∃ H : GH, ∃ v87 : Value, e = Ending.returned (v87) ∧ St Ha wa H w [.row 82 1 v52 n53 cs54] ∧ Inc H78 H ∧ RSl H (eL eI 1) 1 v87 s86) := ⟨_, rfl⟩
     have hc86 : Calls Tryz.prog 96 #[v52] w83 (R86 s86) := by
      clear hp; have hp := hq86; clear hq86
      refine calls_go (N := 9) (args := [v52]) Tryz.func96 rfl rfl rfl ?_
      refine FW.seq (FW.region ?_)
      refine FL.v (E.assign (v := Value.slice none 0 0) rfl) ?_
      refine FL.nil (FW.seq (FW.region ?_))
      refine FL.v (E.move (v := v52) rfl) ?_
      refine FL.v (E.move (v := v52) rfl) ?_
      refine FL.v (E.lenO te79 rfl S85 (i := 0) rfl els55 (by decide)) ?_
      refine FL.v (E.sub rfl rfl) ?_
      obtain ⟨x95, hx96, hp⟩ := bnd hp
      obtain ⟨p89, cs90, pt91, l92, at93, rel94⟩ := S85.row_at (i := 0) rfl els55 (by decide) hx96
      obtain ⟨v97, rfl, h98⟩ := eL_open rel94
      refine FL.v (E.indexAddr te79 rfl rfl pt91) ?_
      refine FL.v (E.load rfl (run_load0 Tryz.isAgg82 at93 rfl)) ?_
      refine FL.v (E.assign (v := v97) rfl) ?_
      refine FL.nil ?_
      refine FW.ret ?_
      obtain rfl := Option.some.inj hp
      exact ⟨.inr rfl, res1 rfl rfl (by rw [hR86]; exact ⟨_, _, rfl, S85, (Inc.rfl _), (h98.mono i81)⟩)⟩
     clear hq86
     refine FC.call (l' := (bs 10 15)) rfl (by kernel_rfl) rfl rfl rfl (E.call Tryz.call96 (A1 rfl)) hc86 ?_
     intro e w102 hQ86
     rw [hR86] at hQ86
     obtain ⟨H99, v87, rfl, S100, i101, h88⟩ := hQ86
     refine ⟨_, rfl, ?_⟩
     refine ⟨(SP.nil ⟨_, S100, i101⟩), ?_⟩
     refine FB.all1 (i := 4) (by kernel_rfl) ?_
     ·
      refine FC.call (l' := (bs 10 31)) rfl (by kernel_rfl) rfl rfl rfl (E.call Tryz.call97 (A3 rfl rfl rfl)) (w_impl_config_after S100.sl v87 s86 h88 a0 v0_1 (p0_1.mono ((((i27.tr i37).tr i57).tr i81).tr i101)) y50 hr104) ?_
      rintro e w106 ⟨H105, v109, n110, cs111, rfl, r108, els112⟩
      refine ⟨_, rfl, ?_⟩
      have S107 := S100.join (l' := [.row 84 1 v109 n110 cs111, .row 82 1 v52 n53 cs54]) r108 rfl
      refine ⟨(SP.nil ⟨_, (S107.sel [1] (by decide) rfl), (i101.tr r108.run.inc)⟩), ?_⟩
      refine FB.t (i := 5) (bs 10 63) rfl (SP.nil ⟨_, (S107.sel [1] (by decide) rfl), (i101.tr r108.run.inc)⟩) rfl (fun w' hw' => (E.move (v := Value.tuple #[v109, Value.bool r103.2]) rfl)) ?_
      refine FB.t (i := 6) (bs 10 127) rfl (SP.nil ⟨_, (S107.sel [1] (by decide) rfl), (i101.tr r108.run.inc)⟩) rfl (fun w' hw' => (E.extract (i := 0) rfl rfl)) ?_
      refine FB.t (i := 7) (bs 10 255) rfl (SP.nil ⟨_, (S107.sel [1] (by decide) rfl), (i101.tr r108.run.inc)⟩) rfl (fun w' hw' => (E.extract (i := 1) rfl rfl)) ?_
      refine FB.t (i := 8) (bs 10 511) rfl (SP.nil ⟨_, (S107.sel [1] (by decide) rfl), (i101.tr r108.run.inc)⟩) rfl (fun w' hw' => (E.assign (v := v109) rfl)) ?_
      refine FB.t (i := 9) (bs 10 1023) rfl (SP.nil ⟨_, (S107.sel [1] (by decide) rfl), (i101.tr r108.run.inc)⟩) rfl (fun w' hw' => (E.assign (v := Value.bool r103.2) rfl)) ?_
      exact FB.done (by kernel_rfl) ⟨_, _, _, _, (S107.sel [1, 0] (by decide) rfl), (i101.tr r108.run.inc), els112, k61, k62, rfl, rfl, k63, k64, k60⟩
   ·
    rintro f121 w120 ⟨H117, v113, n114, cs115, S118, i119, els116, k122, k123, k124, k125, k126, k127, k128⟩
    refine FW.seq (FW.seq (FW.region ?_))
    refine FL.v (E.move k125) ?_
    refine FL.v (E.not rfl) ?_
    refine FL.nil ?_
    rcases ifB hp with ⟨c129, hp⟩ | ⟨c129, hp⟩
    ·
     refine FW.condT rfl c129 ?_
     refine FW.seq (FW.region ?_)
     refine FL.v (E.assign (v := Value.slice none 0 0) rfl) ?_
     refine FL.v (E.assign (v := Value.bool false) rfl) ?_
     refine FL.nil ?_
     refine FW.ret ?_
     obtain rfl := Option.some.inj hp
     exact ⟨nofun, rfl, ⟨.inr rfl, res2 rfl rfl rfl ⟨_, _, _, _, rfl, ((S118.nil 82 1).sel [0] (by decide) rfl), Els.nil⟩⟩⟩
    ·
     refine FW.condF rfl c129 ?_
     refine FW.skip (FW.region ?_)
     refine FL.v (E.move k123) ?_
     refine FL.v (E.move k124) ?_
     obtain ⟨H130, S131, i132, h133⟩ := S118.sealRow (i := 1) (l' := [.row 82 1 v52 n53 cs54]) rfl els116 (by decide) rfl
     obtain ⟨v134, w135, run136, S137⟩ := S131.buildSlice (P := Tryz.prog) te79 [v113] (parts := #[(0, v113)]) (cells := [v113]) rfl (szs_cons (cells_size h133.cells) szs_nil) (fc_cons h133.cells fc_nil) (ones_cons h133.one ones_nil) (Nat.le_of_ble_eq_true rfl)
     have els138 : Els H130 (eL (eL eI 1) 1) 1 [v113] [r103.1] := (Els.snoc (H := H130) (E := (eL (eL eI 1) 1)) (k := 1) (c := [v113]) (x := r103.1) Els.nil rfl ⟨_, rfl, h133⟩)
     refine FL.v (E.buildSlice (B1 rfl) run136) ?_
     obtain ⟨xs139, hz140, hp⟩ := bnd hp
     obtain ⟨v141, w144, n142, cs143, run145, S146, els147, ce148⟩ := S137.appendO (P := Tryz.prog) te79 (i := 1) (j := 0) rfl (els55.mono ((i81.tr i119).tr i132)) rfl els138 hz140
     have S146 : St Ha wa H130 w144 [.row 82 1 v134 1 [v113], .row 82 1 v141 n142 cs143] := S146
     have S149 : St Ha wa H130 w144 [.row 82 1 v141 n142 cs143] := S146.drop 0
     refine FL.v (E.append rfl rfl run145) ?_
     refine FL.v (E.assign (v := v141) rfl) ?_
     refine FL.nil (FW.region ?_)
     refine FL.v (E.add k128 rfl) ?_
     refine FL.v (E.move (v := Value.int .i64 (wr (((i51 : Nat) : Int) + 1))) rfl) ?_
     refine FL.nil ?_
     obtain rfl := Option.some.inj hp
     exact ⟨rfl, ⟨_, _, _, _, S149, (((i57.tr i81).tr i119).tr i132), els147, (nat_succ rfl (lt_of_get hx51) (p1.mono (((((i27.tr i37).tr i57).tr i81).tr i119).tr i132)).le), k122, rfl, k126, k127⟩⟩
  ·
   clear hp hq
   rintro s51 f161 w160 ⟨H157, v52, n53, cs54, S158, i159, els55, k162, k163, k164, k165, k166⟩
   refine FW.seq (FW.region ?_)
   refine FL.v (E.lss k162 k166) ?_
   refine FL.nil (FW.seq ?_)
   refine FW.condF rfl dlt_len ?_
   refine FW.exit ?_
   exact ⟨nofun, rfl, ⟨_, _, _, _, S158, i159, els55, k164⟩⟩
  ·
   clear hq
   intro e f155 w154 hD
   rcases q51 with s51 | x51
   ·
    obtain ⟨rfl, hD⟩ := hD
    obtain ⟨H151, v52, n53, cs54, S152, i153, els55, k156⟩ := hD
    replace hp := el_go hp
    refine FW.seq (FW.region ?_)
    refine FL.v (E.move k156) ?_
    refine FL.v (E.assign (v := v52) rfl) ?_
    refine FL.v (E.assign (v := Value.bool true) rfl) ?_
    refine FL.nil ?_
    refine FW.ret ?_
    obtain rfl := Option.some.inj hp
    exact ⟨.inr rfl, res2 rfl rfl rfl ⟨_, _, _, _, rfl, S152, els55⟩⟩
   ·
    obtain ⟨he, hL⟩ := hD
    replace hp := el_rt hp
    obtain rfl := Option.some.inj hp
    subst he
    exact hL

@[reducible] def p_impl_cloneLists (Ha : GH) (wa : World) (r : (List (List Int))) : Ending → World → Prop :=
  fun e w' => ∃ H' : GH, ∃ v0 : Value, ∃ n0 : Nat, ∃ c0 : List Value, e = .returned (v0) ∧ St Ha wa H' w' [.row 84 1 v0 n0 c0] ∧ Els (up wa.heap.size H') (eL eI 1) 1 c0 r ∧ (bl c0).Nodup
theorem w_impl_cloneLists {Ha : GH} {wa : World} (hs : Sl Ha wa) (v0 : Value) (a0 : List (List Int)) (p0 : RSl Ha (eL eI 1) 1 v0 a0) {r : (List (List Int))} (hp : (PF.impl_cloneLists a0) = some r) :
    Calls Tryz.prog 49 #[v0] wa (p_impl_cloneLists Ha wa r) := by
  unfold PF.impl_cloneLists at hp
  have S0 := St.init hs
  refine calls_go (N := 19) (args := [v0]) Tryz.func49 rfl rfl rfl ?_
  refine FW.seq (FW.region ?_)
  refine FL.v (E.assign (v := Value.slice none 0 0) rfl) ?_
  refine FL.nil (FW.seq (FW.region ?_))
  refine FL.v (E.assign (v := Value.slice none 0 0) rfl) ?_
  refine FL.nil (FW.seq (FW.seq (FW.region ?_)))
  refine FL.v (E.move (v := v0) rfl) ?_
  refine FL.v (E.lenP te22 rfl p0) ?_
  refine FL.v (E.move (v := Value.int .i64 0) rfl) ?_
  refine FL.nil ?_
  obtain ⟨q22, hq, hp⟩ := bndR hp
  refine FW.block ?_
  refine FW.mono (FW.forL (S := (List (List Int))) (X := Empty) (fun (i22 : Nat) (s22 : (List (List Int))) f w => ∃ H : GH, ∃ v23 : Value, ∃ n24 : Nat, ∃ cs25 : List Value, St Ha wa H w [.row 84 1 v23 n24 cs25] ∧ Inc Ha H ∧ Els (up wa.heap.size H) (eL eI 1) 1 cs25 s22 ∧ (bl cs25).Nodup ∧ f 8 = Value.int .i64 ((i22 : Nat) : Int) ∧ f 3 = v23 ∧ f 6 = v0 ∧ f 7 = Value.int .i64 (len a0)) (fun (q : Rs (List (List Int)) Empty) e f w => match q with | .go s22 => e = Exit.exit 0 ∧ (∃ H : GH, ∃ v23 : Value, ∃ n24 : Nat, ∃ cs25 : List Value, St Ha wa H w [.row 84 1 v23 n24 cs25] ∧ Inc Ha H ∧ Els (up wa.heap.size H) (eL eI 1) 1 cs25 s22 ∧ (bl cs25).Nodup ∧ f 3 = v23) | .rt x => x.elim) hq ⟨_, _, _, _, (S0.nil 84 1), (Inc.rfl _), Els.nil, List.nodup_nil, rfl, rfl, rfl, rfl⟩ ?_ ?_) ?_
  ·
    clear hp hq
    rintro i22 y21 s22 f82 w81 ⟨H78, v23, n24, cs25, S79, i80, els26, nd27, k83, k84, k85, k86⟩ hx22 o128 hp
    refine FW.seq (FW.region ?_)
    refine FL.v (E.lssT k83 k86 (lss_len hx22)) ?_
    refine FL.nil (FW.seq ?_)
    refine FW.condT rfl rfl ?_
    refine FW.skip (FW.seq (FW.block (FW.seq (FW.region ?_))))
    obtain ⟨p87, cs88, pt89, l90, at91, rel92⟩ := p0.at (ix_nat hx22)
    obtain ⟨v93, rfl, h94⟩ := eL_open rel92
    refine FL.v (E.indexAddr te22 k85 k83 pt89) ?_
    refine FL.v (E.load rfl (run_load0 Tryz.isAgg84 ((at91.mono i80).now S79.sl) rfl)) ?_
    refine FL.v (E.assign (v := v93) rfl) ?_
    refine FL.nil (FW.region ?_)
    refine FL.v (E.move k84) ?_
    refine FL.v (E.move (v := v93) rfl) ?_
    obtain ⟨r95, hr96, hp⟩ := bnd hp
    refine FL.call rfl rfl rfl (E.call Tryz.call62 (A1 rfl)) (w_slices_Clone_int_int S79.sl v93 y21 (h94.mono i80) hr96) ?_
    rintro e w98 ⟨H97, v101, n102, cs103, rfl, r100, els104⟩
    refine ⟨_, rfl, ?_⟩
    have els104 := els104.mono (up_le S79.size)
    have S99 := S79.join (l' := [.row 3 1 v101 n102 cs103, .row 84 1 v23 n24 cs25]) r100 rfl
    obtain ⟨H105, S106, i107, h108, nv109⟩ := S99.sealRowU (i := 0) (l' := [.row 84 1 v23 n24 cs25]) rfl els104 (by decide) rfl
    obtain ⟨v110, w111, run112, S113⟩ := S106.buildSlice (P := Tryz.prog) te22 [v101] (parts := #[(0, v101)]) (cells := [v101]) rfl (szs_cons (cells_size h108.cells) szs_nil) (fc_cons h108.cells fc_nil) (ones_cons h108.one ones_nil) (Nat.le_of_ble_eq_true rfl)
    have els114 : Els (up wa.heap.size H105) (eL eI 1) 1 [v101] [r95] := (Els.snoc (H := (up wa.heap.size H105)) (E := (eL eI 1)) (k := 1) (c := [v101]) (x := r95) Els.nil rfl ⟨_, rfl, h108⟩)
    have nd115 : (bl [v101]).Nodup := by exact nd_one v101
    refine FL.v (E.buildSlice (B1 rfl) run112) ?_
    obtain ⟨xs116, hz117, hp⟩ := bnd hp
    obtain ⟨v118, w121, n119, cs120, run122, S123, els124, ce125⟩ := S113.appendO (P := Tryz.prog) te22 (i := 1) (j := 0) rfl (els26.mono (up_mono (r100.run.inc.tr i107))) rfl els114 hz117
    have S123 : St Ha wa H105 w121 [.row 84 1 v110 1 [v101], .row 84 1 v118 n119 cs120] := S123
    have nd126 : (bl cs120).Nodup := by rw [ce125]; exact nd_app nd27 nd115 (Els.dom (els26.mono (upI.tr r100.run.inc))) (by exact nv109)
    have S127 : St Ha wa H105 w121 [.row 84 1 v118 n119 cs120] := S123.drop 0
    refine FL.v (E.append rfl rfl run122) ?_
    refine FL.v (E.assign (v := v118) rfl) ?_
    refine FL.nil (FW.region ?_)
    refine FL.v (E.add k83 rfl) ?_
    refine FL.v (E.move (v := Value.int .i64 (wr (((i22 : Nat) : Int) + 1))) rfl) ?_
    refine FL.nil ?_
    obtain rfl := Option.some.inj hp
    exact ⟨rfl, ⟨_, _, _, _, S127, ((i80.tr r100.run.inc).tr i107), els124, nd126, (nat_succ rfl (lt_of_get hx22) (p0.mono ((i80.tr r100.run.inc).tr i107)).le), rfl, k85, k86⟩⟩
  ·
    clear hp hq
    rintro s22 f139 w138 ⟨H135, v23, n24, cs25, S136, i137, els26, nd27, k140, k141, k142, k143⟩
    refine FW.seq (FW.region ?_)
    refine FL.v (E.lss k140 k143) ?_
    refine FL.nil (FW.seq ?_)
    refine FW.condF rfl dlt_len ?_
    refine FW.exit ?_
    exact ⟨nofun, rfl, ⟨_, _, _, _, S136, i137, els26, nd27, k141⟩⟩
  ·
    clear hq
    intro e f133 w132 hD
    rcases q22 with s22 | x22
    ·
      obtain ⟨rfl, hD⟩ := hD
      obtain ⟨H129, v23, n24, cs25, S130, i131, els26, nd27, k134⟩ := hD
      replace hp := el_go hp
      refine FW.seq (FW.region ?_)
      refine FL.v (E.move k134) ?_
      refine FL.v (E.assign (v := v23) rfl) ?_
      refine FL.nil ?_
      refine FW.ret ?_
      obtain rfl := Option.some.inj hp
      exact ⟨.inr rfl, res1 rfl rfl ⟨_, _, _, _, rfl, S130, els26, nd27⟩⟩
    · exact x22.elim

@[reducible] def p_slices_SortFunc_LLint_Lint (H0 : GH) (w0 : World) (Ha : GH) (L : List MO) (v0 : Value) (n0 : Nat) (r : (List (List Int))) : Ending → World → Prop :=
 fun e w' => ∃ H' : GH, ∃ c0k : List Value, e = .returned (Value.tuple #[]) ∧ (St H0 w0 H' w' (.row 84 1 v0 n0 c0k :: L) ∧ Inc Ha H') ∧ Els (up w0.heap.size H') (eL eI 1) 1 c0k r ∧ (bl c0k).Nodup
theorem w_slices_SortFunc_LLint_Lint {H0 Ha : GH} {w0 wa : World} {L : List MO} {v0 : Value} {n0 : Nat} {k0 : List Value} (S0 : St H0 w0 Ha wa (.row 84 1 v0 n0 k0 :: L)) (a0 : List (List Int)) (p0 : Els (up w0.heap.size Ha) (eL eI 1) 1 k0 a0) (d0 : (bl k0).Nodup) (v1 : Value) (a1 : (List Int) → (List Int) → Option Int) (p1 : Fn_List_Int_List_Int_to_I Tryz.prog Ha v1 a1) {r : (List (List Int))} (hp : (PF.slices_SortFunc_LLint_Lint a0 a1) = some r) :
  Calls Tryz.prog 50 #[v0, v1] wa (p_slices_SortFunc_LLint_Lint H0 w0 Ha L v0 n0 r) := by
 refine (St.sortF (l := .row 84 1 v0 n0 k0 :: L) (i := 0) upI S0 rfl p0 (fun H2 w2 hi hs2 c x hc d y hd r hr => by obtain ⟨y0, e0, z0⟩ := eL_open hc; cases e0; obtain ⟨y1, e1, z1⟩ := eL_open hd; cases e1; exact p1 H2 w2 hi hs2 x c z0 y d z1 r hr) (fun p cap fv w => AnyF.slices_SortFunc_none (P := Tryz.prog) (ρ := Tryz.sort50_ren) { Tryz.sort50 with } p cap fv w) (fun α _ enc h1 cf hO g cb blk off cap d w eg hc hH hb hs => Any.slices_SortFunc Tryz.sort50 enc h1 cf hO g cb blk off cap d w eg hc hH hb hs) hp).mono ?_
 rintro e w' ⟨rfl, c', h1, h2, hq⟩
 exact ⟨_, _, rfl, ⟨h1, Inc.rfl _⟩, h2, nd_perm hq d0⟩

@[reducible] def pc52 (H0 : GH) (w0 : World) (Ha G : GH) (L : List MO) (r : (List (Value × List Int))) : Ending → World → Prop :=
  fun e w' => ∃ H' : GH, ∃ v0r : Value, ∃ n0r : Nat, ∃ c0r : List Value, e = .returned (v0r) ∧ (St H0 w0 H' w' (.row 84 1 v0r n0r c0r :: L) ∧ Inc Ha H') ∧ Els G (eCx (eL eI 1)) 1 c0r r
set_option maxHeartbeats 4000000 in
theorem wc52 {H0 Ha G : GH} {w0 wa : World} {L : List MO} {v0 : Value} {n0 : Nat} {k0 : List Value} (S0 : St H0 w0 Ha wa (.row 84 1 v0 n0 k0 :: L)) (hG : Inc G Ha) (a0 : List (Value × List Int)) (p0 : Els G (eCx (eL eI 1)) 1 k0 a0) (v1 : Value) (a1 : (List Int) → (List Int) → Option Bool) (p1 : Fn_List_Int_List_Int_to_B Tryz.prog Ha v1 a1) {r : (List (Value × List Int))} (hp : compL (Value.slice none 0 0, []) a0 (fun x y => a1 x.2 y.2) = some r) :
    Calls Tryz.prog 52 #[v0, v1] wa (pc52 H0 w0 Ha G L r) := by
  unfold compL at hp
  refine calls_go (N := 66) (args := [v0, v1]) Tryz.func52 rfl rfl rfl ?_
  refine FW.seq (FW.region ?_)
  refine FL.v (E.assign (v := Value.slice none 0 0) rfl) ?_
  refine FL.nil (FW.seq (FW.seq (FW.region ?_)))
  refine FL.v (E.move (v := v0) rfl) ?_
  refine FL.v (E.lenO te22 rfl S0 (i := 0) rfl p0 (by decide)) ?_
  refine FL.v (E.lss rfl rfl) ?_
  refine FL.nil ?_
  rcases ifB hp with ⟨c21, hp⟩ | ⟨c21, hp⟩
  ·
    refine FW.condT rfl c21 ?_
    refine FW.seq (FW.region ?_)
    refine FL.v (E.move (v := v0) rfl) ?_
    refine FL.v (E.assign (v := v0) rfl) ?_
    refine FL.nil ?_
    refine FW.ret ?_
    obtain rfl := Option.some.inj hp
    exact ⟨.inr rfl, res1 rfl rfl ⟨_, _, _, _, rfl, ⟨S0, (Inc.rfl _)⟩, p0⟩⟩
  ·
    refine FW.condF rfl c21 ?_
    refine FW.skip (FW.seq (FW.seq (FW.region ?_)))
    refine FL.v (E.assign (v := Value.int .i64 1) rfl) ?_
    refine FL.nil ?_
    obtain ⟨q22, hq, hp⟩ := bndR hp
    refine FW.block ?_
    refine FW.mono (FW.iter (S := Int) (X := (List (Value × List Int))) (fun (s22 : Int) f w => ∃ H : GH, St H0 w0 H w (.row 84 1 v0 n0 k0 :: L) ∧ Inc Ha H ∧ f 0 = v0 ∧ f 1 = v1 ∧ f 5 = Value.int .i64 s22) (fun q e f w => match q with | .go s22 => e = Exit.exit 0 ∧ (∃ H : GH, St H0 w0 H w (.row 84 1 v0 n0 k0 :: L) ∧ Inc Ha H ∧ f 0 = v0) | .rt x => ((e = Exit.ret) ∧ (fun e f w => (e = Exit.normal ∨ e = Exit.ret) ∧ ∀ a, Fr (δ := []) 66 a f → ∃ v, (results Tryz.f52 a.tmps).run Tryz.prog w = .ok v w ∧ (pc52 H0 w0 Ha G L x) (.returned v) w) e f w)) hq ⟨_, S0, (Inc.rfl _), rfl, rfl, rfl⟩ ?_) ?_
    ·
      clear hp hq
      rintro s22 f27 w26 ⟨H23, S24, i25, k28, k29, k30⟩ o196 hp
      refine FW.seq (FW.seq (FW.region ?_))
      refine FL.v (E.move k30) ?_
      refine FL.v (E.move k28) ?_
      refine FL.v (E.lenO te22 rfl S24 (i := 0) rfl p0 (by decide)) ?_
      refine FL.v (E.lss rfl rfl) ?_
      refine FL.nil ?_
      rcases ifB hp with ⟨c31, hp⟩ | ⟨c31, hp⟩
      ·
        refine FW.condT rfl c31 ?_
        refine FW.skip (FW.seq (FW.block (FW.seq ?_)))
        obtain ⟨x41, hx42, hp⟩ := bnd hp
        obtain ⟨x52, hx53, hp⟩ := bnd hp
        obtain ⟨r57, hr58, hp⟩ := bnd hp
        refine FW.drawB (SX H0 w0 H23 (.row 84 1 v0 n0 k0 :: L)) (fun f w => ∃ H : GH, St H0 w0 H w (.row 84 1 v0 n0 k0 :: L) ∧ Inc H23 H ∧ f 0 = v0 ∧ f 1 = v1 ∧ f 5 = Value.int .i64 s22 ∧ f 28 = Value.bool r57) (by kernel_rfl) S24.sl ?_ ?_
        ·
          intro w32 r33
          have S34 := S24.call r33
          refine FB.t (i := 0) (bs 11 1) rfl (SP.nil ⟨_, S34, (Inc.rfl _)⟩) rfl (fun w' hw' => (E.move k29)) ?_
          refine FB.t (i := 1) (bs 11 3) rfl (SP.nil ⟨_, S34, (Inc.rfl _)⟩) rfl (fun w' hw' => (E.move k28)) ?_
          refine FB.t (i := 2) (bs 11 7) rfl (SP.nil ⟨_, S34, (Inc.rfl _)⟩) rfl (fun w' hw' => (E.move k30)) ?_
          obtain ⟨p35, cs36, pt37, l38, at39, rel40, hall43⟩ := S34.row_atA (i := 0) rfl p0 (by decide) hx42
          obtain ⟨v44, rfl, ev44, h45⟩ := eCx_open rel40; obtain ⟨yv44, eyv44, h45⟩ := eL_open h45; cases eyv44
          refine FB.t (i := 3) (bs 11 15) rfl (SP.nil ⟨_, S34, (Inc.rfl _)⟩) rfl (fun w' hw' => (E.indexAddr te22 rfl rfl pt37)) ?_
          refine FB.t (i := 4) (bs 11 31) rfl (SP.nil ⟨_, S34, (Inc.rfl _)⟩) rfl (fun w' hw' => (E.load rfl (run_load0 Tryz.isAgg84 (hw'.use fun _ st => hall43 _ _ _ 0 st rfl) rfl))) ?_
          refine FB.t (i := 5) (bs 11 63) rfl (SP.nil ⟨_, S34, (Inc.rfl _)⟩) rfl (fun w' hw' => (E.move k28)) ?_
          refine FB.t (i := 6) (bs 11 127) rfl (SP.nil ⟨_, S34, (Inc.rfl _)⟩) rfl (fun w' hw' => (E.move k30)) ?_
          refine FB.t (i := 7) (bs 11 255) rfl (SP.nil ⟨_, S34, (Inc.rfl _)⟩) rfl (fun w' hw' => (E.sub rfl rfl)) ?_
          obtain ⟨p46, cs47, pt48, l49, at50, rel51, hall54⟩ := S34.row_atA (i := 0) rfl p0 (by decide) hx53
          obtain ⟨v55, rfl, ev55, h56⟩ := eCx_open rel51; obtain ⟨yv55, eyv55, h56⟩ := eL_open h56; cases eyv55
          refine FB.t (i := 8) (bs 11 511) rfl (SP.nil ⟨_, S34, (Inc.rfl _)⟩) rfl (fun w' hw' => (E.indexAddr te22 rfl rfl pt48)) ?_
          refine FB.t (i := 9) (bs 11 1023) rfl (SP.nil ⟨_, S34, (Inc.rfl _)⟩) rfl (fun w' hw' => (E.load rfl (run_load0 Tryz.isAgg84 (hw'.use fun _ st => hall54 _ _ _ 0 st rfl) rfl))) ?_
          refine FB.all1 (i := 10) (by kernel_rfl) ?_
          ·
            obtain ⟨fi62, cs63, hv64, he65, hc66⟩ := (p1.mono i25) H23 w32 (Inc.rfl _) S34.sl x41.2 v44 (h45.mono (hG.tr i25)) x52.2 v55 (h56.mono (hG.tr i25)) r57 hr58
            refine FC.call (l' := (bs 11 2047)) rfl (by kernel_rfl) rfl rfl rfl (E.callV he65 (Eq.trans rfl hv64) (appA (A2 rfl rfl) cs63)) hc66 ?_
            rintro e w59 ⟨rfl, r60⟩
            refine ⟨_, rfl, ?_⟩
            have S61 := S34.call r60
            refine ⟨(SP.nil ⟨_, S61, (Inc.rfl _)⟩), ?_⟩
            exact FB.done (by kernel_rfl) ⟨_, S61, (Inc.rfl _), k28, k29, k30, rfl⟩
        ·
          rintro f71 w70 ⟨H67, S68, i69, k72, k73, k74, k75⟩
          rcases ifB hp with ⟨c76, hp⟩ | ⟨c76, hp⟩
          ·
            refine FW.condT k75 c76 ?_
            refine FW.seq (FW.region ?_)
            refine FL.v (E.move k72) ?_
            refine FL.v (E.move k74) ?_
            obtain ⟨xs77, hc78, hp⟩ := bnd hp
            obtain ⟨v79, run80, h81⟩ := S68.tail te22 (kk := .i64) (i := 0) rfl p0 hc78
            refine FL.v (E.slice te22 rfl (congrArg some rfl) rfl rfl (run80 _)) ?_
            refine FL.v (E.assign (v := v79) rfl) ?_
            refine FL.nil (FW.seq (FW.seq (FW.region ?_)))
            refine FL.v (E.assign (v := Value.int .i64 1) rfl) ?_
            refine FL.nil ?_
            obtain ⟨q82, hq, hp⟩ := bndR hp
            refine FW.block ?_
            refine FW.mono (FW.iter (S := ((List (Value × List Int)) × Int × Int)) (X := Empty) (fun (s82 : ((List (Value × List Int)) × Int × Int)) f w => ∃ H : GH, ∃ cs83 : List Value, St H0 w0 H w (.row 84 1 v0 n0 cs83 :: L) ∧ Inc H67 H ∧ Els G (eCx (eL eI 1)) 1 cs83 s82.1 ∧ f 0 = v0 ∧ f 1 = v1 ∧ f 5 = Value.int .i64 s82.2.1 ∧ f 6 = v79 ∧ f 7 = Value.int .i64 s82.2.2) (fun (q : Rs ((List (Value × List Int)) × Int × Int) Empty) e f w => match q with | .go s82 => e = Exit.exit 2 ∧ (∃ H : GH, ∃ cs83 : List Value, St H0 w0 H w (.row 84 1 v0 n0 cs83 :: L) ∧ Inc H67 H ∧ Els G (eCx (eL eI 1)) 1 cs83 s82.1 ∧ f 0 = v0 ∧ f 5 = Value.int .i64 s82.2.1) | .rt x => x.elim) hq ⟨_, _, S68, (Inc.rfl _), p0, k72, k73, k74, rfl, rfl⟩ ?_) ?_
            ·
              clear hp hq
              rintro s82 f89 w88 ⟨H85, cs83, S86, i87, els84, k90, k91, k92, k93, k94⟩ o169 hp
              refine FW.seq (FW.seq (FW.region ?_))
              refine FL.v (E.move k94) ?_
              refine FL.v (E.move k93) ?_
              refine FL.v (E.lenT te22 rfl S86 (i := 0) rfl els84 (by decide) h81) ?_
              refine FL.v (E.lss rfl rfl) ?_
              refine FL.nil ?_
              rcases ifB hp with ⟨c95, hp⟩ | ⟨c95, hp⟩
              ·
                refine FW.condT rfl c95 ?_
                refine FW.skip (FW.seq (FW.block (FW.seq ?_)))
                obtain ⟨x105, hx106, hp⟩ := bnd hp
                obtain ⟨x115, hx116, hp⟩ := bnd hp
                obtain ⟨r119, hr120, hp⟩ := bnd hp
                refine FW.drawB (SX H0 w0 H85 (.row 84 1 v0 n0 cs83 :: L)) (fun f w => ∃ H : GH, St H0 w0 H w (.row 84 1 v0 n0 cs83 :: L) ∧ Inc H85 H ∧ f 0 = v0 ∧ f 1 = v1 ∧ f 5 = Value.int .i64 s82.2.1 ∧ f 6 = v79 ∧ f 7 = Value.int .i64 s82.2.2 ∧ f 49 = Value.bool (!r119)) (by kernel_rfl) S86.sl ?_ ?_
                ·
                  intro w96 r97
                  have S98 := S86.call r97
                  refine FB.t (i := 0) (bs 12 1) rfl (SP.nil ⟨_, S98, (Inc.rfl _)⟩) rfl (fun w' hw' => (E.move k91)) ?_
                  refine FB.t (i := 1) (bs 12 3) rfl (SP.nil ⟨_, S98, (Inc.rfl _)⟩) rfl (fun w' hw' => (E.move k93)) ?_
                  refine FB.t (i := 2) (bs 12 7) rfl (SP.nil ⟨_, S98, (Inc.rfl _)⟩) rfl (fun w' hw' => (E.move k94)) ?_
                  refine FB.t (i := 5) (bs 12 39) rfl (SP.nil ⟨_, S98, (Inc.rfl _)⟩) rfl (fun w' hw' => (E.move k93)) ?_
                  refine FB.t (i := 6) (bs 12 103) rfl (SP.nil ⟨_, S98, (Inc.rfl _)⟩) rfl (fun w' hw' => (E.move k94)) ?_
                  refine FB.t (i := 7) (bs 12 231) rfl (SP.nil ⟨_, S98, (Inc.rfl _)⟩) rfl (fun w' hw' => (E.sub rfl rfl)) ?_
                  refine FB.phase [10] (fun w' => w' = w96) ?_
                  obtain ⟨p99, cs100, pt101, l102, at103, rel104⟩ := S98.row_at (i := 0) rfl els84 (by decide) (ixT_some hx106).2
                  obtain ⟨v107, rfl, ev107, h108⟩ := eCx_open rel104; obtain ⟨yv107, eyv107, h108⟩ := eL_open h108; cases eyv107
                  refine FB.u (i := 3) (bs 12 239) [4, 10, 11] rfl (SP.on rfl (SP.nil ⟨_, S98, (Inc.rfl _)⟩)) rfl (E.indexAddr te22 rfl rfl (PtrOf.tail h81 pt101 (ixT_some hx106).1)) ?_
                  refine FB.u (i := 4) (bs 12 255) [10, 11] rfl (SP.on rfl (SP.nil ⟨_, S98, (Inc.rfl _)⟩)) rfl (E.load rfl (run_load0 Tryz.isAgg84 at103 rfl)) ?_
                  obtain ⟨p109, cs110, pt111, l112, at113, rel114⟩ := S98.row_at (i := 0) rfl els84 (by decide) (ixT_some hx116).2
                  obtain ⟨v117, rfl, ev117, h118⟩ := eCx_open rel114; obtain ⟨yv117, eyv117, h118⟩ := eL_open h118; cases eyv117
                  refine FB.u (i := 8) (bs 12 511) [9, 10, 11] rfl (SP.on rfl (SP.nil ⟨_, S98, (Inc.rfl _)⟩)) rfl (E.indexAddr te22 rfl rfl (PtrOf.tail h81 pt111 (ixT_some hx116).1)) ?_
                  refine FB.u (i := 9) (bs 12 1023) [10, 11] rfl (SP.on rfl (SP.nil ⟨_, S98, (Inc.rfl _)⟩)) rfl (E.load rfl (run_load0 Tryz.isAgg84 at113 rfl)) ?_
                  refine FB.all1 (i := 10) (by kernel_rfl) ?_
                  ·
                    obtain ⟨fi124, cs125, hv126, he127, hc128⟩ := (p1.mono ((i25.tr i69).tr i87)) H85 w96 (Inc.rfl _) S98.sl x105.2 v107 (h108.mono (hG.tr ((i25.tr i69).tr i87))) x115.2 v117 (h118.mono (hG.tr ((i25.tr i69).tr i87))) r119 hr120
                    refine FC.call (l' := (bs 12 2047)) rfl (by kernel_rfl) rfl rfl rfl (E.callV he127 (Eq.trans rfl hv126) (appA (A2 rfl rfl) cs125)) hc128 ?_
                    rintro e w121 ⟨rfl, r122⟩
                    refine ⟨_, rfl, ?_⟩
                    have S123 := S98.call r122
                    refine ⟨(SP.o (SP.nil ⟨_, S123, (Inc.rfl _)⟩)), ?_⟩
                    refine FB.t (i := 11) (bs 12 4095) rfl (SP.o (SP.nil ⟨_, S123, (Inc.rfl _)⟩)) rfl (fun w' hw' => (E.not rfl)) ?_
                    exact FB.done (by kernel_rfl) ⟨_, S123, (Inc.rfl _), k90, k91, k92, k93, k94, rfl⟩
                ·
                  rintro f133 w132 ⟨H129, S130, i131, k134, k135, k136, k137, k138, k139⟩
                  rcases ifB hp with ⟨c140, hp⟩ | ⟨c140, hp⟩
                  ·
                    refine FW.condT k139 c140 ?_
                    refine FW.seq (FW.region ?_)
                    refine FL.v (E.move k134) ?_
                    refine FL.v (E.move k136) ?_
                    refine FL.v (E.move k137) ?_
                    refine FL.v (E.move k138) ?_
                    obtain ⟨x147, hx148, hp⟩ := bnd hp
                    obtain ⟨p141, cs142, pt143, l144, at145, rel146⟩ := S130.row_at (i := 0) rfl els84 (by decide) (ixT_some hx148).2
                    obtain ⟨v149, rfl, ev149, h150⟩ := eCx_open rel146; obtain ⟨yv149, eyv149, h150⟩ := eL_open h150; cases eyv149
                    refine FL.v (E.indexAddr te22 rfl rfl (PtrOf.tail h81 pt143 (ixT_some hx148).1)) ?_
                    refine FL.v (E.load rfl (run_load0 Tryz.isAgg84 at145 rfl)) ?_
                    obtain ⟨x157, hx158, hp⟩ := bnd hp
                    obtain ⟨p151, cs152, pt153, l154, at155, rel156⟩ := S130.row_at (i := 0) rfl els84 (by decide) hx158
                    obtain ⟨v159, rfl, ev159, h160⟩ := eCx_open rel156; obtain ⟨yv159, eyv159, h160⟩ := eL_open h160; cases eyv159
                    refine FL.v (E.indexAddr te22 rfl rfl pt153) ?_
                    obtain ⟨xs164, hput165, hp⟩ := bnd hp
                    obtain ⟨w161, cs167, run162, S163, els166, ce168⟩ := S130.putEls (P := Tryz.prog) (t := 84) (i := 0) rfl els84 hput165 pt153 Tryz.sizeOf84 (u := v149) (c := [v149]) h150.cells rfl (ones_cons h150.one ones_nil) (eCx_mk ev149 ⟨_, rfl, h150⟩)
                    have S163 : St H0 w0 H129 w161 (.row 84 1 v0 n0 cs167 :: L) := S163
                    refine FL.act rfl rfl (E.store rfl rfl run162) ?_
                    refine FL.nil (FW.region ?_)
                    refine FL.v (E.move k136) ?_
                    refine FL.v (E.add rfl rfl) ?_
                    refine FL.v (E.assign (v := Value.int .i64 (wr (s82.2.1 + 1))) rfl) ?_
                    refine FL.nil (FW.region ?_)
                    refine FL.v (E.move k138) ?_
                    refine FL.v (E.add rfl rfl) ?_
                    refine FL.v (E.assign (v := Value.int .i64 (wr (s82.2.2 + 1))) rfl) ?_
                    refine FL.nil ?_
                    obtain rfl := Option.some.inj hp
                    exact ⟨rfl, ⟨_, _, S163, (i87.tr i131), els166, k134, k135, rfl, k137, rfl⟩⟩
                  ·
                    refine FW.condF k139 c140 ?_
                    refine FW.skip (FW.region ?_)
                    refine FL.v (E.move k138) ?_
                    refine FL.v (E.add rfl rfl) ?_
                    refine FL.v (E.assign (v := Value.int .i64 (wr (s82.2.2 + 1))) rfl) ?_
                    refine FL.nil ?_
                    obtain rfl := Option.some.inj hp
                    exact ⟨rfl, ⟨_, _, S130, (i87.tr i131), els84, k134, k135, k136, k137, rfl⟩⟩
              ·
                refine FW.condF rfl c95 ?_
                refine FW.exit ?_
                obtain rfl := Option.some.inj hp
                exact ⟨nofun, rfl, ⟨_, _, S86, i87, els84, k90, k92⟩⟩
            ·
              clear hq
              intro e f174 w173 hD
              rcases q82 with s82 | x82
              ·
                obtain ⟨rfl, hD⟩ := hD
                obtain ⟨H170, cs83, S171, i172, els84, k175, k176⟩ := hD
                replace hp := el_go hp
                refine FW.seq (FW.region ?_)
                refine FL.v (E.move k175) ?_
                refine FL.v (E.move k176) ?_
                obtain ⟨xs177, hc178, hp⟩ := bnd hp
                obtain ⟨v179, run180, h181⟩ := S171.tail te22 (kk := .i64) (i := 0) rfl els84 hc178
                refine FL.v (E.slice te22 rfl (congrArg some rfl) rfl rfl (run180 _)) ?_
                obtain ⟨w182, cs183, run184, S185, els186⟩ := S171.clearTail (P := Tryz.prog) te22 (i := 0) (x0 := (Value.slice none 0 0, [])) rfl els84 h181 (eCx_mk rfl ⟨_, rfl, RSl.nil _ _ _⟩) (ones_cons rfl ones_nil)
                have S185 : St H0 w0 H170 w182 (.row 84 1 v0 n0 cs183 :: L) := S185
                refine FL.val0 rfl rfl (E.clear rfl run184) ?_
                refine FL.nil (FW.seq (FW.region ?_))
                refine FL.v (E.move k175) ?_
                refine FL.v (E.move k176) ?_
                obtain ⟨xs187, hc188, hp⟩ := bnd hp
                obtain ⟨v189, n190, cs191, run192, S193, els194, nd195⟩ := S185.cutRow te22 (kk := .i64) (i := 0) rfl els186 hc188
                have S193 : St H0 w0 H170 w182 (.row 84 1 v189 n190 cs191 :: L) := S193
                refine FL.v (E.slice te22 rfl rfl (congrArg some rfl) rfl (run192 _)) ?_
                refine FL.v (E.assign (v := v189) rfl) ?_
                refine FL.nil ?_
                refine FW.ret ?_
                obtain rfl := Option.some.inj hp
                exact ⟨nofun, rfl, ⟨.inr rfl, res1 rfl rfl ⟨_, _, _, _, rfl, ⟨S193, ((i25.tr i69).tr i172)⟩, els194⟩⟩⟩
              · exact x82.elim
          ·
            refine FW.condF k75 c76 ?_
            refine FW.skip (FW.region ?_)
            refine FL.v (E.move k74) ?_
            refine FL.v (E.add rfl rfl) ?_
            refine FL.v (E.assign (v := Value.int .i64 (wr (s22 + 1))) rfl) ?_
            refine FL.nil ?_
            obtain rfl := Option.some.inj hp
            exact ⟨rfl, ⟨_, S68, (i25.tr i69), k72, k73, rfl⟩⟩
      ·
        refine FW.condF rfl c31 ?_
        refine FW.exit ?_
        obtain rfl := Option.some.inj hp
        exact ⟨nofun, rfl, ⟨_, S24, i25, k28⟩⟩
    ·
      clear hq
      intro e f201 w200 hD
      rcases q22 with s22 | x22
      ·
        obtain ⟨rfl, hD⟩ := hD
        obtain ⟨H197, S198, i199, k202⟩ := hD
        replace hp := el_go hp
        refine FW.seq (FW.region ?_)
        refine FL.v (E.move k202) ?_
        refine FL.v (E.assign (v := v0) rfl) ?_
        refine FL.nil ?_
        refine FW.ret ?_
        obtain rfl := Option.some.inj hp
        exact ⟨.inr rfl, res1 rfl rfl ⟨_, _, _, _, rfl, ⟨S198, i199⟩, p0⟩⟩
      ·
        obtain ⟨he, hL⟩ := hD
        replace hp := el_rt hp
        obtain rfl := Option.some.inj hp
        subst he
        exact hL
@[reducible] def p_slices_CompactFunc_LLint_Lint (H0 : GH) (w0 : World) (Ha : GH) (L : List MO) (r : (List (List Int))) : Ending → World → Prop :=
  fun e w' => ∃ H' : GH, ∃ v0r : Value, ∃ n0r : Nat, ∃ c0r : List Value, e = .returned (v0r) ∧ (St H0 w0 H' w' (.row 84 1 v0r n0r c0r :: L) ∧ Inc Ha H') ∧ Els (up w0.heap.size H') (eL eI 1) 1 c0r r ∧ (bl c0r).Nodup
theorem w_slices_CompactFunc_LLint_Lint {H0 Ha : GH} {w0 wa : World} {L : List MO} {v0 : Value} {n0 : Nat} {k0 : List Value} (S0 : St H0 w0 Ha wa (.row 84 1 v0 n0 k0 :: L)) (a0 : List (List Int)) (p0 : Els (up w0.heap.size Ha) (eL eI 1) 1 k0 a0) (d0 : (bl k0).Nodup) (v1 : Value) (a1 : (List Int) → (List Int) → Option Bool) (p1 : Fn_List_Int_List_Int_to_B Tryz.prog Ha v1 a1) {r : (List (List Int))} (hp : (PF.slices_CompactFunc_LLint_Lint a0 a1) = some r) :
    Calls Tryz.prog 52 #[v0, v1] wa (p_slices_CompactFunc_LLint_Lint H0 w0 Ha L r) := by
  unfold PF.slices_CompactFunc_LLint_Lint at hp
  have hl := S0.row_lim (i := 0) rfl p0
  obtain ⟨d, h1, rfl, rfl⟩ := els_pair p0
  obtain ⟨q, hq, rfl⟩ := compF_map hp
  refine (wc52 S0 upI d h1 v1 a1 p1 (compL_eq (by simpa using hl) hq)).mono ?_
  rintro e w' ⟨H', v, n, c, rfl, ⟨h2, hi⟩, h3⟩
  obtain ⟨h4, rfl⟩ := pair_els h3
  exact ⟨H', v, n, _, rfl, ⟨h2, hi⟩, h4.mono (up_mono hi), nd_sub ((compF_sub hq).map _) d0⟩

@[reducible] def p_impl_ClausesOfRun (Ha : GH) (wa : World) (r : ((List (List Int)) × Bool)) : Ending → World → Prop :=
  fun e w' => ∃ H' : GH, ∃ v0 : Value, ∃ n0 : Nat, ∃ c0 : List Value, e = .returned (Value.tuple #[v0, Value.bool r.2]) ∧ St Ha wa H' w' [.row 84 1 v0 n0 c0] ∧ Els (up wa.heap.size H') (eL eI 1) 1 c0 r.1 ∧ (bl c0).Nodup
theorem w_impl_ClausesOfRun {Ha : GH} {wa : World} (hs : Sl Ha wa) (a0 : Cnf) (v0_1 : Value) (p0_1 : RSl Ha (eL eI 1) 1 v0_1 a0.clauses) (v1 : Value) (a1 : List SpaceStep) (p1 : RSl Ha eSpaceStep 4 v1 a1) {r : ((List (List Int)) × Bool)} (hp : (PF.impl_ClausesOfRun a0 a1) = some r) :
    Calls Tryz.prog 13 #[Value.agg #[Value.int .i64 a0.vars, v0_1], v1] wa (p_impl_ClausesOfRun Ha wa r) := by
  unfold PF.impl_ClausesOfRun at hp
  have S0 := St.init hs
  refine calls_go (N := 34) (args := [Value.agg #[Value.int .i64 a0.vars, v0_1], v1]) Tryz.func13 rfl rfl rfl ?_
  refine FW.seq (FW.region ?_)
  obtain ⟨b21, w22, run23, S24⟩ := S0.box (P := Tryz.prog) 30 [Value.int .i64 a0.vars, v0_1] (v := Value.agg #[Value.int .i64 a0.vars, v0_1]) rfl (ones_cons rfl (ones_cons p0_1.one ones_nil))
  refine FL.v (E.box rfl run23) ?_
  obtain ⟨H25, S26, i27, at28⟩ := S24.sealBox (i := 0) (l' := []) rfl rfl
  refine FL.v (E.assign (v := Value.slice none 0 0) rfl) ?_
  refine FL.v (E.assign (v := Value.bool false) rfl) ?_
  refine FL.nil (FW.seq (FW.region ?_))
  refine FL.v (E.load rfl (run_loadA Tryz.isAgg30 Tryz.sizeOf30 (at28.now S26.sl) rfl)) ?_
  refine FL.v (E.move (v := v1) rfl) ?_
  obtain ⟨r29, hr30, hp⟩ := bnd hp
  refine FL.call rfl rfl rfl (E.call Tryz.call48 (A2 rfl rfl)) (w_impl_configs S26.sl a0 v0_1 (p0_1.mono i27) v1 a1 (p1.mono i27) hr30) ?_
  rintro e w32 ⟨H31, v35, n36, cs37, rfl, r34, els38⟩
  refine ⟨_, rfl, ?_⟩
  have S33 := S26.join (l' := [.row 82 1 v35 n36 cs37]) r34 rfl
  refine FL.v (E.move (v := Value.tuple #[v35, Value.bool r29.2]) rfl) ?_
  refine FL.v (E.extract (i := 0) rfl rfl) ?_
  refine FL.v (E.extract (i := 1) rfl rfl) ?_
  refine FL.v (E.assign (v := v35) rfl) ?_
  refine FL.v (E.assign (v := Value.bool r29.2) rfl) ?_
  refine FL.nil (FW.seq (FW.seq (FW.region ?_)))
  refine FL.v (E.move (v := Value.bool r29.2) rfl) ?_
  refine FL.v (E.not rfl) ?_
  refine FL.nil ?_
  rcases ifB hp with ⟨c39, hp⟩ | ⟨c39, hp⟩
  ·
    refine FW.condT rfl c39 ?_
    refine FW.seq (FW.region ?_)
    refine FL.v (E.assign (v := Value.slice none 0 0) rfl) ?_
    refine FL.v (E.assign (v := Value.bool false) rfl) ?_
    refine FL.nil ?_
    refine FW.ret ?_
    obtain rfl := Option.some.inj hp
    exact ⟨.inr rfl, res2 rfl rfl rfl ⟨_, _, _, _, rfl, ((S33.nil 84 1).sel [0] (by decide) rfl), Els.nil, List.nodup_nil⟩⟩
  ·
    refine FW.condF rfl c39 ?_
    refine FW.skip (FW.seq (FW.region ?_))
    refine FL.v (E.assign (v := Value.slice none 0 0) rfl) ?_
    refine FL.nil (FW.seq (FW.seq (FW.region ?_)))
    refine FL.v (E.move (v := v35) rfl) ?_
    refine FL.v (E.lenO te79 rfl S33 (i := 0) rfl els38 (by decide)) ?_
    refine FL.v (E.move (v := Value.int .i64 0) rfl) ?_
    refine FL.nil ?_
    obtain ⟨m40, hchk41, hp⟩ := bnd hp
    obtain ⟨q41, hq, hp⟩ := bndR hp
    refine FW.block ?_
    refine FW.mono (FW.forR (S := (List (List Int))) (X := Empty) (fun (i41 : Nat) (s41 : (List (List Int))) f w => ∃ H : GH, ∃ v42 : Value, ∃ n43 : Nat, ∃ cs44 : List Value, St Ha wa H w [.row 82 1 v35 n36 cs37, .row 84 1 v42 n43 cs44] ∧ Inc H31 H ∧ Els (up wa.heap.size H) (eL eI 1) 1 cs44 s41 ∧ (bl cs44).Nodup ∧ f 21 = Value.int .i64 ((i41 : Nat) : Int) ∧ f 8 = v42 ∧ f 19 = v35 ∧ f 20 = Value.int .i64 (len r29.1)) (fun (q : Rs (List (List Int)) Empty) e f w => match q with | .go s41 => e = Exit.exit 0 ∧ (∃ H : GH, ∃ v42 : Value, ∃ n43 : Nat, ∃ cs44 : List Value, St Ha wa H w [.row 82 1 v35 n36 cs37, .row 84 1 v42 n43 cs44] ∧ Inc H31 H ∧ Els (up wa.heap.size H) (eL eI 1) 1 cs44 s41 ∧ (bl cs44).Nodup ∧ f 8 = v42) | .rt x => x.elim) hq ⟨_, _, _, _, ((S33.nil 84 1).sel [1, 0] (by decide) rfl), (Inc.rfl _), Els.nil, List.nodup_nil, rfl, rfl, rfl, rfl⟩ ?_ ?_) ?_
    ·
      clear hp hq
      rintro i41 s41 f93 w92 ⟨H89, v42, n43, cs44, S90, i91, els45, nd46, k94, k95, k96, k97⟩ hi41 hj41 o131 hp
      refine FW.seq (FW.region ?_)
      refine FL.v (E.lssT k94 k97 (lss_chk hj41 hchk41)) ?_
      refine FL.nil (FW.seq ?_)
      refine FW.condT rfl rfl ?_
      refine FW.skip (FW.seq (FW.block (FW.seq (FW.region ?_))))
      obtain ⟨x104, hx105, hp⟩ := bnd hp
      obtain ⟨p98, cs99, pt100, l101, at102, rel103⟩ := S90.row_at (i := 0) rfl els38 (by decide) hx105
      obtain ⟨v106, rfl, h107⟩ := eL_open rel103
      refine FL.v (E.indexAddr te79 k96 k94 pt100) ?_
      refine FL.v (E.load rfl (run_load0 Tryz.isAgg82 at102 rfl)) ?_
      refine FL.v (E.assign (v := v106) rfl) ?_
      refine FL.nil (FW.region ?_)
      refine FL.v (E.move k95) ?_
      refine FL.v (E.move (v := v106) rfl) ?_
      obtain ⟨r108, hr109, hp⟩ := bnd hp
      refine FL.call rfl rfl rfl (E.call Tryz.call49 (A1 rfl)) (w_impl_cloneLists S90.sl v106 x104 (h107.mono i91) hr109) ?_
      rintro e w111 ⟨H110, v114, n115, cs116, rfl, r113, els117, nd118⟩
      refine ⟨_, rfl, ?_⟩
      have nv119 : New H89 cs116 := New.of_up S90.sl els117.dom
      have els117 := els117.mono (up_le S90.size)
      have S112 := S90.join (l' := [.row 84 1 v114 n115 cs116, .row 82 1 v35 n36 cs37, .row 84 1 v42 n43 cs44]) r113 rfl
      obtain ⟨xs120, hz121, hp⟩ := bnd hp
      obtain ⟨v122, w125, n123, cs124, run126, S127, els128, ce129⟩ := S112.appendO (P := Tryz.prog) te22 (i := 2) (j := 0) rfl (els45.mono (up_mono r113.run.inc)) rfl els117 hz121
      have S127 : St Ha wa H110 w125 [.row 84 1 v114 n115 cs116, .row 82 1 v35 n36 cs37, .row 84 1 v122 n123 cs124] := S127
      have nd130 : (bl cs124).Nodup := by rw [ce129]; exact nd_app nd46 nd118 (Els.dom (els45.mono (upI.tr (Inc.rfl _)))) (by exact nv119)
      refine FL.v (E.append rfl rfl run126) ?_
      refine FL.v (E.assign (v := v122) rfl) ?_
      refine FL.nil (FW.region ?_)
      refine FL.v (E.add k94 rfl) ?_
      refine FL.v (E.move (v := Value.int .i64 (wr (((i41 : Nat) : Int) + 1))) rfl) ?_
      refine FL.nil ?_
      obtain rfl := Option.some.inj hp
      exact ⟨rfl, ⟨_, _, _, _, (S127.sel [1, 2] (by decide) rfl), (i91.tr r113.run.inc), els128, nd130, (nat_succ rfl hj41 (chk_le hchk41)), rfl, k96, k97⟩⟩
    ·
      clear hp hq
      rintro s41 f163 w162 ⟨H159, v42, n43, cs44, S160, i161, els45, nd46, k164, k165, k166, k167⟩
      refine FW.seq (FW.region ?_)
      refine FL.v (E.lss k164 k167) ?_
      refine FL.nil (FW.seq ?_)
      refine FW.condF rfl (dlt_maxchk hchk41) ?_
      refine FW.exit ?_
      exact ⟨nofun, rfl, ⟨_, _, _, _, S160, i161, els45, nd46, k165⟩⟩
    ·
      clear hq
      intro e f136 w135 hD
      rcases q41 with s41 | x41
      ·
        obtain ⟨rfl, hD⟩ := hD
        obtain ⟨H132, v42, n43, cs44, S133, i134, els45, nd46, k137⟩ := hD
        replace hp := el_go hp
        refine FW.seq (FW.region ?_)
        refine FL.v (E.move k137) ?_
        obtain ⟨r138, hr139, hp⟩ := bnd hp
        have S140 : St Ha wa H132 w135 [.row 84 1 v42 n43 cs44, .row 82 1 v35 n36 cs37] := S133.front 1 rfl rfl
        refine FL.call rfl rfl rfl (E.call Tryz.call50 (A2 rfl rfl)) (w_slices_SortFunc_LLint_Lint (L := [.row 82 1 v35 n36 cs37]) S140 s41 els45 nd46 (Value.func (.func 51) #[] #[]) (fun x0 x1 => PF.impl_compareClauses x0 x1) (fun H2 w2 hi2 hs2 x0 y0 z0 x1 y1 z1 r hr => ⟨51, #[], rfl, Tryz.call51, w_impl_compareClauses hs2 y0 x0 z0 y1 x1 z1  hr⟩) hr139) ?_
        rintro e w142 ⟨H141, cs145, rfl, ⟨S143, i144⟩, els146, nd147⟩
        refine ⟨_, rfl, ?_⟩
        have S143 : St Ha wa H141 w142 [.row 84 1 v42 n43 cs145, .row 82 1 v35 n36 cs37] := S143
        refine FL.nil (FW.seq (FW.region ?_))
        refine FL.v (E.move k137) ?_
        obtain ⟨r148, hr149, hp⟩ := bnd hp
        refine FL.call rfl rfl rfl (E.call Tryz.call52 (A2 rfl rfl)) (w_slices_CompactFunc_LLint_Lint (L := [.row 82 1 v35 n36 cs37]) S143 r138 els146 nd147 (Value.func (.func 53) #[] #[]) (fun x0 x1 => PF.slices_Equal_int_int x0 x1) (fun H2 w2 hi2 hs2 x0 y0 z0 x1 y1 z1 r hr => ⟨53, #[], rfl, Tryz.call53, w_slices_Equal_int_int hs2 y0 x0 z0 y1 x1 z1  hr⟩) hr149) ?_
        rintro e w151 ⟨H150, v154, n155, cs156, rfl, ⟨S152, i153⟩, els157, nd158⟩
        refine ⟨_, rfl, ?_⟩
        have S152 : St Ha wa H150 w151 [.row 84 1 v154 n155 cs156, .row 82 1 v35 n36 cs37] := S152
        refine FL.v (E.assign (v := v154) rfl) ?_
        refine FL.v (E.assign (v := Value.bool true) rfl) ?_
        refine FL.nil ?_
        refine FW.ret ?_
        obtain rfl := Option.some.inj hp
        exact ⟨.inr rfl, res2 rfl rfl rfl ⟨_, _, _, _, rfl, (S152.sel [0] (by decide) rfl), els157, nd158⟩⟩
      · exact x41.elim

theorem w_laws_eqIntS {Ha : GH} {wa : World} (hs : Sl Ha wa) (v0 : Value) (a0 : List Int) (p0 : RSl Ha eI 1 v0 a0) (v1 : Value) (a1 : List Int) (p1 : RSl Ha eI 1 v1 a1) {r : Bool} (hp : (PF.laws_eqIntS a0 a1) = some r) :
  Calls Tryz.prog 54 #[v0, v1] wa (Sc Ha wa (Value.bool r)) := by
 unfold PF.laws_eqIntS at hp
 have S0 := St.init hs
 refine calls_go (N := 26) (args := [v0, v1]) Tryz.func54 rfl rfl rfl ?_
 refine FW.seq (FW.region ?_)
 refine FL.v (E.assign (v := Value.bool false) rfl) ?_
 refine FL.nil (FW.seq (FW.seq (FW.region ?_)))
 refine FL.v (E.move (v := v0) rfl) ?_
 refine FL.v (E.lenP te84 rfl p0) ?_
 refine FL.v (E.move (v := v1) rfl) ?_
 refine FL.v (E.lenP te84 rfl p1) ?_
 refine FL.v (E.neq rfl rfl) ?_
 refine FL.nil ?_
 rcases ifB hp with ⟨c21, hp⟩ | ⟨c21, hp⟩
 ·
  refine FW.condT rfl c21 ?_
  refine FW.seq (FW.region ?_)
  refine FL.v (E.assign (v := Value.bool false) rfl) ?_
  refine FL.nil ?_
  refine FW.ret ?_
  obtain rfl := Option.some.inj hp
  exact ⟨.inr rfl, res1 rfl rfl ⟨rfl, S0.back⟩⟩
 ·
  refine FW.condF rfl c21 ?_
  refine FW.skip (FW.seq (FW.seq (FW.region ?_)))
  refine FL.v (E.assign (v := Value.int .i64 0) rfl) ?_
  refine FL.nil ?_
  obtain ⟨q23, hq, hp⟩ := bndR hp
  refine FW.block ?_
  refine FW.mono (FW.forL (S := Unit) (X := Bool) (fun (i23 : Nat) (s23 : Unit) f w => ∃ H : GH, St Ha wa H w [] ∧ Inc Ha H ∧ f 5 = Value.int .i64 ((i23 : Nat) : Int) ∧ f 0 = v0 ∧ f 1 = v1) (fun q e f w => match q with | .go s23 => e = Exit.exit 0 ∧ (∃ H : GH, St Ha wa H w [] ∧ Inc Ha H) | .rt x => ((e = Exit.ret) ∧ (fun e f w => (e = Exit.normal ∨ e = Exit.ret) ∧ ∀ a, Fr (δ := []) 26 a f → ∃ v, (results Tryz.f54 a.tmps).run Tryz.prog w = .ok v w ∧ (Sc Ha wa (Value.bool x)) (.returned v) w) e f w)) hq ⟨_, S0, (Inc.rfl _), rfl, rfl, rfl⟩ ?_ ?_) ?_
  ·
   clear hp hq
   rintro i23 y22 s23 f55 w54 ⟨H51, S52, i53, k56, k57, k58⟩ hx23 o78 hp
   refine FW.seq (FW.seq (FW.region ?_))
   refine FL.v (E.move k56) ?_
   refine FL.v (E.move k57) ?_
   refine FL.v (E.lenP te84 rfl p0) ?_
   refine FL.v (E.lssT rfl rfl (lss_len hx23)) ?_
   refine FL.nil ?_
   refine FW.condT rfl rfl ?_
   refine FW.skip (FW.seq (FW.block (FW.seq ?_)))
   refine FW.draw (fun w' => Run w54.heap.size H51 w54 H51 w') (by kernel_rfl) (by kernel_rfl) (run_drew S52.sl) ?_
   refine FD.val rfl rfl rfl (fun w' hw' => (E.move k57)) ?_
   refine FD.val rfl rfl rfl (fun w' hw' => (E.move k56)) ?_
   obtain ⟨p60, cs61, pt62, l63, at64, rel65⟩ := p0.at (ix_nat hx23)
   obtain rfl := eI_open rel65
   refine FD.val rfl rfl rfl (fun w' hw' => (E.indexAddr te84 rfl rfl pt62)) ?_
   refine FD.val rfl rfl rfl (fun w' hw' => (E.load rfl (run_load0 Tryz.isAgg3 ((at64.mono i53).now (S52.call hw').sl) rfl))) ?_
   refine FD.val rfl rfl rfl (fun w' hw' => (E.move k58)) ?_
   refine FD.val rfl rfl rfl (fun w' hw' => (E.move k56)) ?_
   obtain ⟨x72, hx73, hp⟩ := bnd hp
   obtain ⟨p66, cs67, pt68, l69, at70, rel71⟩ := p1.at hx73
   obtain rfl := eI_open rel71
   refine FD.val rfl rfl rfl (fun w' hw' => (E.indexAddr te84 rfl rfl pt68)) ?_
   refine FD.val rfl rfl rfl (fun w' hw' => (E.load rfl (run_load0 Tryz.isAgg3 ((at70.mono i53).now (S52.call hw').sl) rfl))) ?_
   refine FD.val rfl rfl rfl (fun w' hw' => (E.neq rfl rfl)) ?_
   refine FD.nil ?_
   intro w74 r76
   have S75 := S52.call r76
   rcases ifB hp with ⟨c77, hp⟩ | ⟨c77, hp⟩
   ·
    refine FW.condT rfl c77 ?_
    refine FW.seq (FW.region ?_)
    refine FL.v (E.assign (v := Value.bool false) rfl) ?_
    refine FL.nil ?_
    refine FW.ret ?_
    obtain rfl := Option.some.inj hp
    exact ⟨nofun, rfl, ⟨.inr rfl, res1 rfl rfl ⟨rfl, S75.back⟩⟩⟩
   ·
    refine FW.condF rfl c77 ?_
    refine FW.skip (FW.region ?_)
    refine FL.v (E.move k56) ?_
    refine FL.v (E.add rfl rfl) ?_
    refine FL.v (E.assign (v := Value.int .i64 (wr (((i23 : Nat) : Int) + 1))) rfl) ?_
    refine FL.nil ?_
    obtain rfl := Option.some.inj hp
    exact ⟨rfl, ⟨_, S75, i53, (nat_succ rfl (lt_of_get hx23) (p0.mono i53).le), k57, k58⟩⟩
  ·
   clear hp hq
   rintro s23 f88 w87 ⟨H84, S85, i86, k89, k90, k91⟩
   refine FW.seq (FW.seq (FW.region ?_))
   refine FL.v (E.move k89) ?_
   refine FL.v (E.move k90) ?_
   refine FL.v (E.lenP te84 rfl p0) ?_
   refine FL.v (E.lss rfl rfl) ?_
   refine FL.nil ?_
   refine FW.condF rfl dlt_len ?_
   refine FW.exit ?_
   exact ⟨nofun, rfl, ⟨_, S85, i86⟩⟩
  ·
   clear hq
   intro e f83 w82 hD
   rcases q23 with s23 | x23
   ·
    obtain ⟨rfl, hD⟩ := hD
    obtain ⟨H79, S80, i81⟩ := hD
    replace hp := el_go hp
    refine FW.seq (FW.region ?_)
    refine FL.v (E.assign (v := Value.bool true) rfl) ?_
    refine FL.nil ?_
    refine FW.ret ?_
    obtain rfl := Option.some.inj hp
    exact ⟨.inr rfl, res1 rfl rfl ⟨rfl, S80.back⟩⟩
   ·
    obtain ⟨he, hL⟩ := hD
    replace hp := el_rt hp
    obtain rfl := Option.some.inj hp
    subst he
    exact hL

theorem w_laws_eqIntSS {Ha : GH} {wa : World} (hs : Sl Ha wa) (v0 : Value) (a0 : List (List Int)) (p0 : RSl Ha (eL eI 1) 1 v0 a0) (v1 : Value) (a1 : List (List Int)) (p1 : RSl Ha (eL eI 1) 1 v1 a1) {r : Bool} (hp : (PF.laws_eqIntSS a0 a1) = some r) :
  Calls Tryz.prog 14 #[v0, v1] wa (Sc Ha wa (Value.bool r)) := by
 unfold PF.laws_eqIntSS at hp
 have S0 := St.init hs
 refine calls_go (N := 27) (args := [v0, v1]) Tryz.func14 rfl rfl rfl ?_
 refine FW.seq (FW.region ?_)
 refine FL.v (E.assign (v := Value.bool false) rfl) ?_
 refine FL.nil (FW.seq (FW.seq (FW.region ?_)))
 refine FL.v (E.move (v := v0) rfl) ?_
 refine FL.v (E.lenP te22 rfl p0) ?_
 refine FL.v (E.move (v := v1) rfl) ?_
 refine FL.v (E.lenP te22 rfl p1) ?_
 refine FL.v (E.neq rfl rfl) ?_
 refine FL.nil ?_
 rcases ifB hp with ⟨c21, hp⟩ | ⟨c21, hp⟩
 ·
  refine FW.condT rfl c21 ?_
  refine FW.seq (FW.region ?_)
  refine FL.v (E.assign (v := Value.bool false) rfl) ?_
  refine FL.nil ?_
  refine FW.ret ?_
  obtain rfl := Option.some.inj hp
  exact ⟨.inr rfl, res1 rfl rfl ⟨rfl, S0.back⟩⟩
 ·
  refine FW.condF rfl c21 ?_
  refine FW.skip (FW.seq (FW.seq (FW.region ?_)))
  refine FL.v (E.assign (v := Value.int .i64 0) rfl) ?_
  refine FL.nil ?_
  obtain ⟨q23, hq, hp⟩ := bndR hp
  refine FW.block ?_
  refine FW.mono (FW.forL (S := Unit) (X := Bool) (fun (i23 : Nat) (s23 : Unit) f w => ∃ H : GH, St Ha wa H w [] ∧ Inc Ha H ∧ f 5 = Value.int .i64 ((i23 : Nat) : Int) ∧ f 0 = v0 ∧ f 1 = v1) (fun q e f w => match q with | .go s23 => e = Exit.exit 0 ∧ (∃ H : GH, St Ha wa H w [] ∧ Inc Ha H) | .rt x => ((e = Exit.ret) ∧ (fun e f w => (e = Exit.normal ∨ e = Exit.ret) ∧ ∀ a, Fr (δ := []) 27 a f → ∃ v, (results Tryz.f14 a.tmps).run Tryz.prog w = .ok v w ∧ (Sc Ha wa (Value.bool x)) (.returned v) w) e f w)) hq ⟨_, S0, (Inc.rfl _), rfl, rfl, rfl⟩ ?_ ?_) ?_
  ·
   clear hp hq
   rintro i23 y22 s23 f61 w60 ⟨H57, S58, i59, k62, k63, k64⟩ hx23 o90 hp
   refine FW.seq (FW.seq (FW.region ?_))
   refine FL.v (E.move k62) ?_
   refine FL.v (E.move k63) ?_
   refine FL.v (E.lenP te22 rfl p0) ?_
   refine FL.v (E.lssT rfl rfl (lss_len hx23)) ?_
   refine FL.nil ?_
   refine FW.condT rfl rfl ?_
   refine FW.skip (FW.seq (FW.block (FW.seq ?_)))
   refine FW.draw (fun w' => Run w60.heap.size H57 w60 H57 w') (by kernel_rfl) (by kernel_rfl) (run_drew S58.sl) ?_
   refine FD.val rfl rfl rfl (fun w' hw' => (E.move k63)) ?_
   refine FD.val rfl rfl rfl (fun w' hw' => (E.move k62)) ?_
   obtain ⟨p66, cs67, pt68, l69, at70, rel71⟩ := p0.at (ix_nat hx23)
   obtain ⟨v72, rfl, h73⟩ := eL_open rel71
   refine FD.val rfl rfl rfl (fun w' hw' => (E.indexAddr te22 rfl rfl pt68)) ?_
   refine FD.val rfl rfl rfl (fun w' hw' => (E.load rfl (run_load0 Tryz.isAgg84 ((at70.mono i59).now (S58.call hw').sl) rfl))) ?_
   refine FD.val rfl rfl rfl (fun w' hw' => (E.move k64)) ?_
   refine FD.val rfl rfl rfl (fun w' hw' => (E.move k62)) ?_
   obtain ⟨x80, hx81, hp⟩ := bnd hp
   obtain ⟨p74, cs75, pt76, l77, at78, rel79⟩ := p1.at hx81
   obtain ⟨v82, rfl, h83⟩ := eL_open rel79
   refine FD.val rfl rfl rfl (fun w' hw' => (E.indexAddr te22 rfl rfl pt76)) ?_
   refine FD.val rfl rfl rfl (fun w' hw' => (E.load rfl (run_load0 Tryz.isAgg84 ((at78.mono i59).now (S58.call hw').sl) rfl))) ?_
   obtain ⟨r84, hr85, hp⟩ := bnd hp
   refine FD.call rfl rfl rfl (fun w' hw' => (E.call Tryz.call54 (A2 rfl rfl))) (fun w' hw' => Calls.cls hw' (w_laws_eqIntS (S58.call hw').sl v72 y22 (h73.mono i59) v82 x80 (h83.mono i59) hr85)) ?_
   refine FD.val rfl rfl rfl (fun w' hw' => (E.not rfl)) ?_
   refine FD.nil ?_
   intro w86 r88
   have S87 := S58.call r88
   rcases ifB hp with ⟨c89, hp⟩ | ⟨c89, hp⟩
   ·
    refine FW.condT rfl c89 ?_
    refine FW.seq (FW.region ?_)
    refine FL.v (E.assign (v := Value.bool false) rfl) ?_
    refine FL.nil ?_
    refine FW.ret ?_
    obtain rfl := Option.some.inj hp
    exact ⟨nofun, rfl, ⟨.inr rfl, res1 rfl rfl ⟨rfl, S87.back⟩⟩⟩
   ·
    refine FW.condF rfl c89 ?_
    refine FW.skip (FW.region ?_)
    refine FL.v (E.move k62) ?_
    refine FL.v (E.add rfl rfl) ?_
    refine FL.v (E.assign (v := Value.int .i64 (wr (((i23 : Nat) : Int) + 1))) rfl) ?_
    refine FL.nil ?_
    obtain rfl := Option.some.inj hp
    exact ⟨rfl, ⟨_, S87, i59, (nat_succ rfl (lt_of_get hx23) (p0.mono i59).le), k63, k64⟩⟩
  ·
   clear hp hq
   rintro s23 f100 w99 ⟨H96, S97, i98, k101, k102, k103⟩
   refine FW.seq (FW.seq (FW.region ?_))
   refine FL.v (E.move k101) ?_
   refine FL.v (E.move k102) ?_
   refine FL.v (E.lenP te22 rfl p0) ?_
   refine FL.v (E.lss rfl rfl) ?_
   refine FL.nil ?_
   refine FW.condF rfl dlt_len ?_
   refine FW.exit ?_
   exact ⟨nofun, rfl, ⟨_, S97, i98⟩⟩
  ·
   clear hq
   intro e f95 w94 hD
   rcases q23 with s23 | x23
   ·
    obtain ⟨rfl, hD⟩ := hD
    obtain ⟨H91, S92, i93⟩ := hD
    replace hp := el_go hp
    refine FW.seq (FW.region ?_)
    refine FL.v (E.assign (v := Value.bool true) rfl) ?_
    refine FL.nil ?_
    refine FW.ret ?_
    obtain rfl := Option.some.inj hp
    exact ⟨.inr rfl, res1 rfl rfl ⟨rfl, S92.back⟩⟩
   ·
    obtain ⟨he, hL⟩ := hD
    replace hp := el_rt hp
    obtain rfl := Option.some.inj hp
    subst he
    exact hL

theorem w_laws_eqCnf {Ha : GH} {wa : World} (hs : Sl Ha wa) (a0 : Cnf) (v0_1 : Value) (p0_1 : RSl Ha (eL eI 1) 1 v0_1 a0.clauses) (a1 : Cnf) (v1_1 : Value) (p1_1 : RSl Ha (eL eI 1) 1 v1_1 a1.clauses) {r : Bool} (hp : (PF.laws_eqCnf a0 a1) = some r) :
  Calls Tryz.prog 15 #[Value.agg #[Value.int .i64 a0.vars, v0_1], Value.agg #[Value.int .i64 a1.vars, v1_1]] wa (Sc Ha wa (Value.bool r)) := by
 unfold PF.laws_eqCnf at hp
 have S0 := St.init hs
 refine calls_go (N := 16) (args := [Value.agg #[Value.int .i64 a0.vars, v0_1], Value.agg #[Value.int .i64 a1.vars, v1_1]]) Tryz.func15 rfl rfl rfl ?_
 refine FW.seq (FW.region ?_)
 obtain ⟨b21, w22, run23, S24⟩ := S0.box (P := Tryz.prog) 30 [Value.int .i64 a0.vars, v0_1] (v := Value.agg #[Value.int .i64 a0.vars, v0_1]) rfl (ones_cons rfl (ones_cons p0_1.one ones_nil))
 refine FL.v (E.box rfl run23) ?_
 obtain ⟨H25, S26, i27, at28⟩ := S24.sealBox (i := 0) (l' := []) rfl rfl
 obtain ⟨b29, w30, run31, S32⟩ := S26.box (P := Tryz.prog) 30 [Value.int .i64 a1.vars, v1_1] (v := Value.agg #[Value.int .i64 a1.vars, v1_1]) rfl (ones_cons rfl (ones_cons p1_1.one ones_nil))
 refine FL.v (E.box rfl run31) ?_
 obtain ⟨H33, S34, i35, at36⟩ := S32.sealBox (i := 0) (l' := []) rfl rfl
 refine FL.v (E.assign (v := Value.bool false) rfl) ?_
 refine FL.nil (FW.seq (FW.seq (FW.region ?_)))
 refine FL.v (E.fieldAddr tf30_0 rfl) ?_
 refine FL.v (E.load rfl (run_load1 Tryz.isAgg3 ((at28.mono i35).now S34.sl) rfl)) ?_
 refine FL.v (E.fieldAddr tf30_0 rfl) ?_
 refine FL.v (E.load rfl (run_load1 Tryz.isAgg3 (at36.now S34.sl) rfl)) ?_
 refine FL.v (E.neq rfl rfl) ?_
 refine FL.nil ?_
 rcases ifB hp with ⟨c37, hp⟩ | ⟨c37, hp⟩
 ·
  refine FW.condT rfl c37 ?_
  refine FW.seq (FW.region ?_)
  refine FL.v (E.assign (v := Value.bool false) rfl) ?_
  refine FL.nil ?_
  refine FW.ret ?_
  obtain rfl := Option.some.inj hp
  exact ⟨.inr rfl, res1 rfl rfl ⟨rfl, S34.back⟩⟩
 ·
  refine FW.condF rfl c37 ?_
  refine FW.skip (FW.seq (FW.seq (FW.region ?_)))
  refine FL.v (E.fieldAddr tf30_1 rfl) ?_
  refine FL.v (E.load rfl (run_load1 Tryz.isAgg22 ((at28.mono i35).now S34.sl) rfl)) ?_
  refine FL.v (E.fieldAddr tf30_1 rfl) ?_
  refine FL.v (E.load rfl (run_load1 Tryz.isAgg22 (at36.now S34.sl) rfl)) ?_
  obtain ⟨r38, hr39, hp⟩ := bnd hp
  refine FL.call rfl rfl rfl (E.call Tryz.call14 (A2 rfl rfl)) (w_laws_eqIntSS S34.sl v0_1 a0.clauses (p0_1.mono (i27.tr i35)) v1_1 a1.clauses (p1_1.mono (i27.tr i35)) hr39) ?_
  rintro e w40 ⟨rfl, r41⟩
  refine ⟨_, rfl, ?_⟩
  have S42 := S34.call r41
  refine FL.v (E.not rfl) ?_
  refine FL.nil ?_
  rcases ifB hp with ⟨c43, hp⟩ | ⟨c43, hp⟩
  ·
   refine FW.condT rfl c43 ?_
   refine FW.seq (FW.region ?_)
   refine FL.v (E.assign (v := Value.bool false) rfl) ?_
   refine FL.nil ?_
   refine FW.ret ?_
   obtain rfl := Option.some.inj hp
   exact ⟨.inr rfl, res1 rfl rfl ⟨rfl, S42.back⟩⟩
  ·
   refine FW.condF rfl c43 ?_
   refine FW.skip (FW.seq (FW.region ?_))
   refine FL.v (E.assign (v := Value.bool true) rfl) ?_
   refine FL.nil ?_
   refine FW.ret ?_
   obtain rfl := Option.some.inj hp
   exact ⟨.inr rfl, res1 rfl rfl ⟨rfl, S42.back⟩⟩

theorem w_laws_eqSpaceStep {Ha : GH} {wa : World} (hs : Sl Ha wa) (a0 : SpaceStep) (a1 : SpaceStep) :
  Calls Tryz.prog 55 #[Value.agg #[Value.int .i64 a0.kind, Value.int .i64 a0.a, Value.int .i64 a0.b, Value.int .i64 a0.pivot], Value.agg #[Value.int .i64 a1.kind, Value.int .i64 a1.a, Value.int .i64 a1.b, Value.int .i64 a1.pivot]] wa (Sc Ha wa (Value.bool (PF.laws_eqSpaceStep a0 a1))) := by
 obtain ⟨r, hp⟩ : ∃ r, (PF.laws_eqSpaceStep a0 a1) = r := ⟨_, rfl⟩
 rw [hp]
 unfold PF.laws_eqSpaceStep at hp
 have S0 := St.init hs
 refine calls_go (N := 25) (args := [Value.agg #[Value.int .i64 a0.kind, Value.int .i64 a0.a, Value.int .i64 a0.b, Value.int .i64 a0.pivot], Value.agg #[Value.int .i64 a1.kind, Value.int .i64 a1.a, Value.int .i64 a1.b, Value.int .i64 a1.pivot]]) Tryz.func55 rfl rfl rfl ?_
 refine FW.seq (FW.region ?_)
 obtain ⟨b21, w22, run23, S24⟩ := S0.box (P := Tryz.prog) 76 [Value.int .i64 a0.kind, Value.int .i64 a0.a, Value.int .i64 a0.b, Value.int .i64 a0.pivot] (v := Value.agg #[Value.int .i64 a0.kind, Value.int .i64 a0.a, Value.int .i64 a0.b, Value.int .i64 a0.pivot]) rfl (ones_cons rfl (ones_cons rfl (ones_cons rfl (ones_cons rfl ones_nil))))
 refine FL.v (E.box rfl run23) ?_
 obtain ⟨H25, S26, i27, at28⟩ := S24.sealBox (i := 0) (l' := []) rfl rfl
 obtain ⟨b29, w30, run31, S32⟩ := S26.box (P := Tryz.prog) 76 [Value.int .i64 a1.kind, Value.int .i64 a1.a, Value.int .i64 a1.b, Value.int .i64 a1.pivot] (v := Value.agg #[Value.int .i64 a1.kind, Value.int .i64 a1.a, Value.int .i64 a1.b, Value.int .i64 a1.pivot]) rfl (ones_cons rfl (ones_cons rfl (ones_cons rfl (ones_cons rfl ones_nil))))
 refine FL.v (E.box rfl run31) ?_
 obtain ⟨H33, S34, i35, at36⟩ := S32.sealBox (i := 0) (l' := []) rfl rfl
 refine FL.v (E.assign (v := Value.bool false) rfl) ?_
 refine FL.nil (FW.seq (FW.seq (FW.region ?_)))
 refine FL.v (E.fieldAddr tf76_0 rfl) ?_
 refine FL.v (E.load rfl (run_load1 Tryz.isAgg3 ((at28.mono i35).now S34.sl) rfl)) ?_
 refine FL.v (E.fieldAddr tf76_0 rfl) ?_
 refine FL.v (E.load rfl (run_load1 Tryz.isAgg3 (at36.now S34.sl) rfl)) ?_
 refine FL.v (E.neq rfl rfl) ?_
 refine FL.nil ?_
 rcases ifT hp with ⟨c37, hp⟩ | ⟨c37, hp⟩
 ·
  refine FW.condT rfl c37 ?_
  refine FW.seq (FW.region ?_)
  refine FL.v (E.assign (v := Value.bool false) rfl) ?_
  refine FL.nil ?_
  refine FW.ret ?_
  obtain rfl := hp
  exact ⟨.inr rfl, res1 rfl rfl ⟨rfl, S34.back⟩⟩
 ·
  refine FW.condF rfl c37 ?_
  refine FW.skip (FW.seq (FW.seq (FW.region ?_)))
  refine FL.v (E.fieldAddr tf76_1 rfl) ?_
  refine FL.v (E.load rfl (run_load1 Tryz.isAgg3 ((at28.mono i35).now S34.sl) rfl)) ?_
  refine FL.v (E.fieldAddr tf76_1 rfl) ?_
  refine FL.v (E.load rfl (run_load1 Tryz.isAgg3 (at36.now S34.sl) rfl)) ?_
  refine FL.v (E.neq rfl rfl) ?_
  refine FL.nil ?_
  rcases ifT hp with ⟨c38, hp⟩ | ⟨c38, hp⟩
  ·
   refine FW.condT rfl c38 ?_
   refine FW.seq (FW.region ?_)
   refine FL.v (E.assign (v := Value.bool false) rfl) ?_
   refine FL.nil ?_
   refine FW.ret ?_
   obtain rfl := hp
   exact ⟨.inr rfl, res1 rfl rfl ⟨rfl, S34.back⟩⟩
  ·
   refine FW.condF rfl c38 ?_
   refine FW.skip (FW.seq (FW.seq (FW.region ?_)))
   refine FL.v (E.fieldAddr tf76_2 rfl) ?_
   refine FL.v (E.load rfl (run_load1 Tryz.isAgg3 ((at28.mono i35).now S34.sl) rfl)) ?_
   refine FL.v (E.fieldAddr tf76_2 rfl) ?_
   refine FL.v (E.load rfl (run_load1 Tryz.isAgg3 (at36.now S34.sl) rfl)) ?_
   refine FL.v (E.neq rfl rfl) ?_
   refine FL.nil ?_
   rcases ifT hp with ⟨c39, hp⟩ | ⟨c39, hp⟩
   ·
    refine FW.condT rfl c39 ?_
    refine FW.seq (FW.region ?_)
    refine FL.v (E.assign (v := Value.bool false) rfl) ?_
    refine FL.nil ?_
    refine FW.ret ?_
    obtain rfl := hp
    exact ⟨.inr rfl, res1 rfl rfl ⟨rfl, S34.back⟩⟩
   ·
    refine FW.condF rfl c39 ?_
    refine FW.skip (FW.seq (FW.seq (FW.region ?_)))
    refine FL.v (E.fieldAddr tf76_3 rfl) ?_
    refine FL.v (E.load rfl (run_load1 Tryz.isAgg3 ((at28.mono i35).now S34.sl) rfl)) ?_
    refine FL.v (E.fieldAddr tf76_3 rfl) ?_
    refine FL.v (E.load rfl (run_load1 Tryz.isAgg3 (at36.now S34.sl) rfl)) ?_
    refine FL.v (E.neq rfl rfl) ?_
    refine FL.nil ?_
    rcases ifT hp with ⟨c40, hp⟩ | ⟨c40, hp⟩
    ·
     refine FW.condT rfl c40 ?_
     refine FW.seq (FW.region ?_)
     refine FL.v (E.assign (v := Value.bool false) rfl) ?_
     refine FL.nil ?_
     refine FW.ret ?_
     obtain rfl := hp
     exact ⟨.inr rfl, res1 rfl rfl ⟨rfl, S34.back⟩⟩
    ·
     refine FW.condF rfl c40 ?_
     refine FW.skip (FW.seq (FW.region ?_))
     refine FL.v (E.assign (v := Value.bool true) rfl) ?_
     refine FL.nil ?_
     refine FW.ret ?_
     obtain rfl := hp
     exact ⟨.inr rfl, res1 rfl rfl ⟨rfl, S34.back⟩⟩

theorem w_laws_eqSpaceStepS {Ha : GH} {wa : World} (hs : Sl Ha wa) (v0 : Value) (a0 : List SpaceStep) (p0 : RSl Ha eSpaceStep 4 v0 a0) (v1 : Value) (a1 : List SpaceStep) (p1 : RSl Ha eSpaceStep 4 v1 a1) {r : Bool} (hp : (PF.laws_eqSpaceStepS a0 a1) = some r) :
  Calls Tryz.prog 16 #[v0, v1] wa (Sc Ha wa (Value.bool r)) := by
 unfold PF.laws_eqSpaceStepS at hp
 have S0 := St.init hs
 refine calls_go (N := 27) (args := [v0, v1]) Tryz.func16 rfl rfl rfl ?_
 refine FW.seq (FW.region ?_)
 refine FL.v (E.assign (v := Value.bool false) rfl) ?_
 refine FL.nil (FW.seq (FW.seq (FW.region ?_)))
 refine FL.v (E.move (v := v0) rfl) ?_
 refine FL.v (E.lenP te32 rfl p0) ?_
 refine FL.v (E.move (v := v1) rfl) ?_
 refine FL.v (E.lenP te32 rfl p1) ?_
 refine FL.v (E.neq rfl rfl) ?_
 refine FL.nil ?_
 rcases ifB hp with ⟨c21, hp⟩ | ⟨c21, hp⟩
 ·
  refine FW.condT rfl c21 ?_
  refine FW.seq (FW.region ?_)
  refine FL.v (E.assign (v := Value.bool false) rfl) ?_
  refine FL.nil ?_
  refine FW.ret ?_
  obtain rfl := Option.some.inj hp
  exact ⟨.inr rfl, res1 rfl rfl ⟨rfl, S0.back⟩⟩
 ·
  refine FW.condF rfl c21 ?_
  refine FW.skip (FW.seq (FW.seq (FW.region ?_)))
  refine FL.v (E.assign (v := Value.int .i64 0) rfl) ?_
  refine FL.nil ?_
  obtain ⟨q23, hq, hp⟩ := bndR hp
  refine FW.block ?_
  refine FW.mono (FW.forL (S := Unit) (X := Bool) (fun (i23 : Nat) (s23 : Unit) f w => ∃ H : GH, St Ha wa H w [] ∧ Inc Ha H ∧ f 5 = Value.int .i64 ((i23 : Nat) : Int) ∧ f 0 = v0 ∧ f 1 = v1) (fun q e f w => match q with | .go s23 => e = Exit.exit 0 ∧ (∃ H : GH, St Ha wa H w [] ∧ Inc Ha H) | .rt x => ((e = Exit.ret) ∧ (fun e f w => (e = Exit.normal ∨ e = Exit.ret) ∧ ∀ a, Fr (δ := []) 27 a f → ∃ v, (results Tryz.f16 a.tmps).run Tryz.prog w = .ok v w ∧ (Sc Ha wa (Value.bool x)) (.returned v) w) e f w)) hq ⟨_, S0, (Inc.rfl _), rfl, rfl, rfl⟩ ?_ ?_) ?_
  ·
   clear hp hq
   rintro i23 y22 s23 f55 w54 ⟨H51, S52, i53, k56, k57, k58⟩ hx23 o78 hp
   refine FW.seq (FW.seq (FW.region ?_))
   refine FL.v (E.move k56) ?_
   refine FL.v (E.move k57) ?_
   refine FL.v (E.lenP te32 rfl p0) ?_
   refine FL.v (E.lssT rfl rfl (lss_len hx23)) ?_
   refine FL.nil ?_
   refine FW.condT rfl rfl ?_
   refine FW.skip (FW.seq (FW.block (FW.seq ?_)))
   refine FW.draw (fun w' => Run w54.heap.size H51 w54 H51 w') (by kernel_rfl) (by kernel_rfl) (run_drew S52.sl) ?_
   refine FD.val rfl rfl rfl (fun w' hw' => (E.move k57)) ?_
   refine FD.val rfl rfl rfl (fun w' hw' => (E.move k56)) ?_
   obtain ⟨p60, cs61, pt62, l63, at64, rel65⟩ := p0.at (ix_nat hx23)
   obtain rfl := eSpaceStep_open rel65
   refine FD.val rfl rfl rfl (fun w' hw' => (E.indexAddr te32 rfl rfl pt62)) ?_
   refine FD.val rfl rfl rfl (fun w' hw' => (E.load rfl (run_loadA Tryz.isAgg76 Tryz.sizeOf76 ((at64.mono i53).now (S52.call hw').sl) rfl))) ?_
   refine FD.val rfl rfl rfl (fun w' hw' => (E.move k58)) ?_
   refine FD.val rfl rfl rfl (fun w' hw' => (E.move k56)) ?_
   obtain ⟨x72, hx73, hp⟩ := bnd hp
   obtain ⟨p66, cs67, pt68, l69, at70, rel71⟩ := p1.at hx73
   obtain rfl := eSpaceStep_open rel71
   refine FD.val rfl rfl rfl (fun w' hw' => (E.indexAddr te32 rfl rfl pt68)) ?_
   refine FD.val rfl rfl rfl (fun w' hw' => (E.load rfl (run_loadA Tryz.isAgg76 Tryz.sizeOf76 ((at70.mono i53).now (S52.call hw').sl) rfl))) ?_
   refine FD.call rfl rfl rfl (fun w' hw' => (E.call Tryz.call55 (A2 rfl rfl))) (fun w' hw' => Calls.cls hw' (w_laws_eqSpaceStep (S52.call hw').sl y22 x72)) ?_
   refine FD.val rfl rfl rfl (fun w' hw' => (E.not rfl)) ?_
   refine FD.nil ?_
   intro w74 r76
   have S75 := S52.call r76
   rcases ifB hp with ⟨c77, hp⟩ | ⟨c77, hp⟩
   ·
    refine FW.condT rfl c77 ?_
    refine FW.seq (FW.region ?_)
    refine FL.v (E.assign (v := Value.bool false) rfl) ?_
    refine FL.nil ?_
    refine FW.ret ?_
    obtain rfl := Option.some.inj hp
    exact ⟨nofun, rfl, ⟨.inr rfl, res1 rfl rfl ⟨rfl, S75.back⟩⟩⟩
   ·
    refine FW.condF rfl c77 ?_
    refine FW.skip (FW.region ?_)
    refine FL.v (E.move k56) ?_
    refine FL.v (E.add rfl rfl) ?_
    refine FL.v (E.assign (v := Value.int .i64 (wr (((i23 : Nat) : Int) + 1))) rfl) ?_
    refine FL.nil ?_
    obtain rfl := Option.some.inj hp
    exact ⟨rfl, ⟨_, S75, i53, (nat_succ rfl (lt_of_get hx23) (p0.mono i53).le), k57, k58⟩⟩
  ·
   clear hp hq
   rintro s23 f88 w87 ⟨H84, S85, i86, k89, k90, k91⟩
   refine FW.seq (FW.seq (FW.region ?_))
   refine FL.v (E.move k89) ?_
   refine FL.v (E.move k90) ?_
   refine FL.v (E.lenP te32 rfl p0) ?_
   refine FL.v (E.lss rfl rfl) ?_
   refine FL.nil ?_
   refine FW.condF rfl dlt_len ?_
   refine FW.exit ?_
   exact ⟨nofun, rfl, ⟨_, S85, i86⟩⟩
  ·
   clear hq
   intro e f83 w82 hD
   rcases q23 with s23 | x23
   ·
    obtain ⟨rfl, hD⟩ := hD
    obtain ⟨H79, S80, i81⟩ := hD
    replace hp := el_go hp
    refine FW.seq (FW.region ?_)
    refine FL.v (E.assign (v := Value.bool true) rfl) ?_
    refine FL.nil ?_
    refine FW.ret ?_
    obtain rfl := Option.some.inj hp
    exact ⟨.inr rfl, res1 rfl rfl ⟨rfl, S80.back⟩⟩
   ·
    obtain ⟨he, hL⟩ := hD
    replace hp := el_rt hp
    obtain rfl := Option.some.inj hp
    subst he
    exact hL

theorem w_laws_markIntS {H0 Ha : GH} {w0 wa : World} {l : List MO} (S0 : St H0 w0 Ha wa l) (hs0 : Sl H0 w0) (v0 : Value) (a0 : List Int) (p0 : RSl (up w0.heap.size Ha) eI 1 v0 a0) (a1 : Int) :
  Calls Tryz.prog 56 #[v0, Value.int .i64 a1] wa (M1 H0 w0 Ha l eI 1 v0 (PF.laws_markIntS a0 a1)) := by
 obtain ⟨c0, n0, hc0⟩ := p0.nest eI_flat (by decide)
 have hln := p0.ln
 have hle := p0.le
 refine calls_go (N := 19) (args := [v0, Value.int .i64 a1]) Tryz.func56 rfl rfl rfl ?_
 refine FW.seq (FW.region ?_)
 refine FL.v (E.assign (v := Value.int .i64 0) rfl) ?_
 refine FL.nil (FW.seq (FW.seq (FW.region ?_)))
 refine FL.v (E.assign (v := Value.int .i64 0) rfl) ?_
 refine FL.nil (FW.block ?_)
 refine FW.mono (FW.mark (F := fun y m => (m, (wr (m + 1)))) (a0 := a0) (k0 := a1) (fun (i : Nat) (xs : List Int) (k : Int) f w => ∃ (H : GH) (c : List Value), St H0 w0 H w l ∧ Nest (up w0.heap.size H) eI 1 v0 xs c ∧ bl c = bl c0 ∧ (∀ b, b ∉ bl [v0] → b ∉ bl c0 → H b = Ha b) ∧ f 0 = v0 ∧ f 1 = Value.int .i64 k ∧ f 5 = Value.int .i64 ((i : Nat) : Int)) (fun e f w => e = Exit.exit 0 ∧ ∃ (H : GH) (c : List Value), St H0 w0 H w l ∧ Nest (up w0.heap.size H) eI 1 v0 (markFrom (fun y m => (m, (wr (m + 1)))) a0 a1).1 c ∧ bl c = bl c0 ∧ (∀ b, b ∉ bl [v0] → b ∉ bl c0 → H b = Ha b) ∧ f 0 = v0 ∧ f 1 = Value.int .i64 (markFrom (fun y m => (m, (wr (m + 1)))) a0 a1).2) ⟨_, _, S0, n0, rfl, fun _ _ _ => rfl, rfl, rfl, rfl⟩ ?_ ?_) ?_
 ·
  rintro i y xs m f1 w1 ⟨H1, c1, S1, n1, hb, ho, kv, kk, kc⟩ hx hy
  obtain ⟨p, hpt, wr0, hB, hr, nd⟩ := n1.begin hy (by decide)
  have hci := eI_open hr
  have rd := wr0.opens hci
  refine FW.seq (FW.seq (FW.region ?_))
  refine FL.v (E.move kc) ?_
  refine FL.v (E.move kv) ?_
  refine FL.v (E.len te84 rfl hln) ?_
  refine FL.v (E.lssT rfl rfl (lss_len hx)) ?_
  refine FL.nil ?_
  refine FW.condT rfl rfl ?_
  refine FW.skip (FW.seq (FW.block (FW.seq (FW.region ?_))))
  refine FL.v (E.move kv) ?_
  refine FL.v (E.move kc) ?_
  refine FL.v (E.move kk) ?_
  refine FL.v (E.indexAddr te84 rfl rfl hpt) ?_
  obtain ⟨w21, H22, run24, S23, wr25, o26⟩ := rd.poke0 (P := Tryz.prog) (t := 3) (u := Value.int .i64 m) S1 hs0 hB rfl rfl rfl Tryz.sizeOf3 rfl rfl (c2 := [Value.int .i64 m]) rfl
  refine FL.act rfl rfl (E.store rfl rfl run24) ?_
  refine FL.nil (FW.region ?_)
  refine FL.v (E.move kk) ?_
  refine FL.v (E.add rfl rfl) ?_
  refine FL.v (E.assign (v := Value.int .i64 (wr (m + 1))) rfl) ?_
  refine FL.nil (FW.region ?_)
  refine FL.v (E.move kc) ?_
  refine FL.v (E.add rfl rfl) ?_
  refine FL.v (E.assign (v := Value.int .i64 (wr (((i : Nat) : Int) + 1))) rfl) ?_
  refine FL.nil ?_
  obtain ⟨c2, n2, hb2, ho2⟩ := n1.round eI_flat.loc hy (by decide) hpt wr25 (y' := m) rfl
  exact ⟨rfl, _, _, S23, n2, hb2.trans hb, fun b q1 q2 => (ho2 b q1 (by rw [hb]; exact q2)).trans (ho b q1 q2), kv, rfl, nat_succ rfl (lt_of_get hx) hle⟩
 ·
  rintro f1 w1 ⟨H1, c1, S1, n1, hb, ho, kv, kk, kc⟩
  refine FW.seq (FW.seq (FW.region ?_))
  refine FL.v (E.move kc) ?_
  refine FL.v (E.move kv) ?_
  refine FL.v (E.len te84 rfl hln) ?_
  refine FL.v (E.lss rfl rfl) ?_
  refine FL.nil ?_
  refine FW.condF rfl dlt_len ?_
  refine FW.exit ?_
  exact ⟨nofun, rfl, _, _, S1, n1, hb, ho, kv, kk⟩
 ·
  rintro e f2 w2 ⟨rfl, H2, c2, S2, n2, hb, ho, kv, kk⟩
  refine FW.seq (FW.region ?_)
  refine FL.v (E.move kk) ?_
  refine FL.v (E.assign (v := Value.int .i64 ((markFrom (fun y m => (m, (wr (m + 1)))) a0 a1).2)) rfl) ?_
  refine FL.nil ?_
  refine FW.ret ?_
  exact ⟨.inr rfl, res1 rfl rfl ⟨_, rfl, S2, n2.rsl, fun b q => ho b q (by rw [hc0]; simp)⟩⟩

theorem w_laws_markIntSS {H0 Ha : GH} {w0 wa : World} {l : List MO} (S0 : St H0 w0 Ha wa l) (hs0 : Sl H0 w0) (v0 : Value) (a0 : List (List Int)) (c0 : List Value) (n0 : Nest (up w0.heap.size Ha) (eL eI 1) 1 v0 a0 c0) (a1 : Int) :
  Calls Tryz.prog 19 #[v0, Value.int .i64 a1] wa (M2 H0 w0 Ha l (eL eI 1) 1 v0 c0 (PF.laws_markIntSS a0 a1)) := by
 have hln := n0.rsl.ln
 have hle := n0.rsl.le
 refine calls_go (N := 19) (args := [v0, Value.int .i64 a1]) Tryz.func19 rfl rfl rfl ?_
 refine FW.seq (FW.region ?_)
 refine FL.v (E.assign (v := Value.int .i64 0) rfl) ?_
 refine FL.nil (FW.seq (FW.seq (FW.region ?_)))
 refine FL.v (E.assign (v := Value.int .i64 0) rfl) ?_
 refine FL.nil (FW.block ?_)
 refine FW.mono (FW.mark (F := fun y m => ((PF.laws_markIntS y m).1, (PF.laws_markIntS y m).2)) (a0 := a0) (k0 := a1) (fun (i : Nat) (xs : List (List Int)) (k : Int) f w => ∃ (H : GH) (c : List Value), St H0 w0 H w l ∧ Nest (up w0.heap.size H) (eL eI 1) 1 v0 xs c ∧ bl c = bl c0 ∧ (∀ b, b ∉ bl [v0] → b ∉ bl c0 → H b = Ha b) ∧ f 0 = v0 ∧ f 1 = Value.int .i64 k ∧ f 5 = Value.int .i64 ((i : Nat) : Int)) (fun e f w => e = Exit.exit 0 ∧ ∃ (H : GH) (c : List Value), St H0 w0 H w l ∧ Nest (up w0.heap.size H) (eL eI 1) 1 v0 (markFrom (fun y m => ((PF.laws_markIntS y m).1, (PF.laws_markIntS y m).2)) a0 a1).1 c ∧ bl c = bl c0 ∧ (∀ b, b ∉ bl [v0] → b ∉ bl c0 → H b = Ha b) ∧ f 0 = v0 ∧ f 1 = Value.int .i64 (markFrom (fun y m => ((PF.laws_markIntS y m).1, (PF.laws_markIntS y m).2)) a0 a1).2) ⟨_, _, S0, n0, rfl, fun _ _ _ => rfl, rfl, rfl, rfl⟩ ?_ ?_) ?_
 ·
  rintro i y xs m f1 w1 ⟨H1, c1, S1, n1, hb, ho, kv, kk, kc⟩ hx hy
  obtain ⟨p, hpt, wr0, hB, hr, nd⟩ := n1.begin hy (by decide)
  obtain ⟨u0, hci, hu0⟩ := eL_open hr
  have rd := wr0.opens hci
  refine FW.seq (FW.seq (FW.region ?_))
  refine FL.v (E.move kc) ?_
  refine FL.v (E.move kv) ?_
  refine FL.v (E.len te22 rfl hln) ?_
  refine FL.v (E.lssT rfl rfl (lss_len hx)) ?_
  refine FL.nil ?_
  refine FW.condT rfl rfl ?_
  refine FW.skip (FW.seq (FW.block (FW.region ?_)))
  refine FL.v (E.move kv) ?_
  refine FL.v (E.move kc) ?_
  refine FL.v (E.indexAddr te22 rfl rfl hpt) ?_
  refine FL.v (E.load rfl (run_load0 Tryz.isAgg84 (rd.now S1.sl) rfl)) ?_
  refine FL.v (E.move kk) ?_
  refine FL.call rfl rfl rfl (E.call Tryz.call56 (A2 rfl rfl)) (w_laws_markIntS S1 hs0 u0 y hu0 m) ?_
  rintro e w22 ⟨H21, rfl, S23, h24, o25⟩
  refine ⟨_, rfl, ?_⟩
  have wr26 := rd.inner (j := 0) rfl o25
  refine FL.v (E.assign (v := Value.int .i64 ((PF.laws_markIntS y m).2)) rfl) ?_
  refine FL.nil (FW.region ?_)
  refine FL.v (E.move kc) ?_
  refine FL.v (E.add rfl rfl) ?_
  refine FL.v (E.assign (v := Value.int .i64 (wr (((i : Nat) : Int) + 1))) rfl) ?_
  refine FL.nil ?_
  obtain ⟨c2, n2, hb2, ho2⟩ := n1.round (eL_loc eI_flat) hy (by decide) hpt wr26 (y' := (PF.laws_markIntS y m).1) ⟨_, rfl, h24⟩
  exact ⟨rfl, _, _, S23, n2, hb2.trans hb, fun b q1 q2 => (ho2 b q1 (by rw [hb]; exact q2)).trans (ho b q1 q2), kv, rfl, nat_succ rfl (lt_of_get hx) hle⟩
 ·
  rintro f1 w1 ⟨H1, c1, S1, n1, hb, ho, kv, kk, kc⟩
  refine FW.seq (FW.seq (FW.region ?_))
  refine FL.v (E.move kc) ?_
  refine FL.v (E.move kv) ?_
  refine FL.v (E.len te22 rfl hln) ?_
  refine FL.v (E.lss rfl rfl) ?_
  refine FL.nil ?_
  refine FW.condF rfl dlt_len ?_
  refine FW.exit ?_
  exact ⟨nofun, rfl, _, _, S1, n1, hb, ho, kv, kk⟩
 ·
  rintro e f2 w2 ⟨rfl, H2, c2, S2, n2, hb, ho, kv, kk⟩
  refine FW.seq (FW.region ?_)
  refine FL.v (E.move kk) ?_
  refine FL.v (E.assign (v := Value.int .i64 ((markFrom (fun y m => ((PF.laws_markIntS y m).1, (PF.laws_markIntS y m).2)) a0 a1).2)) rfl) ?_
  refine FL.nil ?_
  refine FW.ret ?_
  exact ⟨.inr rfl, res1 rfl rfl ⟨_, _, rfl, S2, n2, hb, fun b q1 q2 => weak (F := fun b => b ∉ bl [v0] ∧ b ∉ bl c0) (fun b q => ho b q.1 q.2) b ⟨q1, q2⟩⟩⟩

@[reducible] def p_laws_markCnf (H0 : GH) (w0 : World) (Ha : GH) (l : List MO) (v0 : Value) (c0 : List Value) (r : Cnf × Int) : Ending → World → Prop := fun e w' =>
 ∃ (H' : GH) (c' : List Value), e = .returned (.int .i64 r.2) ∧ St H0 w0 H' w' l ∧ Nest (up w0.heap.size H') (eL eI 1) 1 v0 r.1.clauses c' ∧ bl c' = bl c0 ∧ ∀ b, b ∉ bl [v0] → b ∉ bl c0 → ∀ o, Ha b = some o → H' b = some o
theorem w_laws_markCnf {H0 Ha : GH} {w0 wa : World} {l : List MO} (S0 : St H0 w0 Ha wa l) (hs0 : Sl H0 w0) (a0 : Cnf) (v0 : Value) (c0 : List Value) (n0 : Nest (up w0.heap.size Ha) (eL eI 1) 1 v0 a0.clauses c0) (a1 : Int) :
  Calls Tryz.prog 17 #[.agg #[Value.int .i64 a0.vars, v0], Value.int .i64 a1] wa (p_laws_markCnf H0 w0 Ha l v0 c0 (PF.laws_markCnf a0 a1)) := by
 refine calls_go (N := 10) (args := [.agg #[Value.int .i64 a0.vars, v0], Value.int .i64 a1]) Tryz.func17 rfl rfl rfl ?_
 refine FW.seq (FW.region ?_)
 obtain ⟨b21, w22, run23, S24⟩ := S0.box (P := Tryz.prog) 30 [Value.int .i64 a0.vars, v0] (v := Value.agg #[Value.int .i64 a0.vars, v0]) rfl (ones_cons rfl (ones_cons n0.rsl.one ones_nil))
 refine FL.v (E.box rfl run23) ?_
 obtain ⟨H25, S26, i27, at28⟩ := S24.sealBox (i := 0) (l' := l) rfl rfl
 refine FL.v (E.assign (v := Value.int .i64 0) rfl) ?_
 refine FL.nil (FW.seq (FW.region ?_))
 refine FL.v (E.fieldAddr tf30_1 rfl) ?_
 refine FL.v (E.load rfl (run_load1 Tryz.isAgg22 (at28.now S26.sl) rfl)) ?_
 refine FL.v (E.move (v := Value.int .i64 a1) rfl) ?_
 refine FL.call rfl rfl rfl (E.call Tryz.call19 (A2 rfl rfl)) (w_laws_markIntSS S26 hs0 v0 a0.clauses c0 (n0.mono (up_mono i27)) a1) ?_
 rintro e w30 ⟨H29, c34, rfl, S31, h32, hb35, o33⟩
 refine ⟨_, rfl, ?_⟩
 refine FL.v (E.assign (v := Value.int .i64 ((PF.laws_markIntSS a0.clauses a1).2)) rfl) ?_
 refine FL.nil (FW.seq (FW.region ?_))
 refine FL.v (E.move (v := Value.int .i64 ((PF.laws_markIntSS a0.clauses a1).2)) rfl) ?_
 refine FL.v (E.assign (v := Value.int .i64 ((PF.laws_markIntSS a0.clauses a1).2)) rfl) ?_
 refine FL.nil ?_
 refine FW.ret ?_
 exact ⟨.inr rfl, res1 rfl rfl ⟨_, _, rfl, S31, h32, hb35, fun b q1 q2 o ho => o33 b q1 q2 o (i27 b o ho)⟩⟩

theorem w_laws_markSpaceStepS {H0 Ha : GH} {w0 wa : World} {l : List MO} (S0 : St H0 w0 Ha wa l) (hs0 : Sl H0 w0) (v0 : Value) (a0 : List SpaceStep) (p0 : RSl (up w0.heap.size Ha) eSpaceStep 4 v0 a0) (a1 : Int) :
  Calls Tryz.prog 18 #[v0, Value.int .i64 a1] wa (M1 H0 w0 Ha l eSpaceStep 4 v0 (PF.laws_markSpaceStepS a0 a1)) := by
 obtain ⟨c0, n0, hc0⟩ := p0.nest eSpaceStep_flat (by decide)
 have hln := p0.ln
 have hle := p0.le
 refine calls_go (N := 41) (args := [v0, Value.int .i64 a1]) Tryz.func18 rfl rfl rfl ?_
 refine FW.seq (FW.region ?_)
 refine FL.v (E.assign (v := Value.int .i64 0) rfl) ?_
 refine FL.nil (FW.seq (FW.seq (FW.region ?_)))
 refine FL.v (E.assign (v := Value.int .i64 0) rfl) ?_
 refine FL.nil (FW.block ?_)
 refine FW.mono (FW.mark (F := fun y m => ((SpaceStep.mk m (wr (m + 1)) (wr ((wr (m + 1)) + 1)) (wr ((wr ((wr (m + 1)) + 1)) + 1))), (wr ((wr ((wr ((wr (m + 1)) + 1)) + 1)) + 1)))) (a0 := a0) (k0 := a1) (fun (i : Nat) (xs : List SpaceStep) (k : Int) f w => ∃ (H : GH) (c : List Value), St H0 w0 H w l ∧ Nest (up w0.heap.size H) eSpaceStep 4 v0 xs c ∧ bl c = bl c0 ∧ (∀ b, b ∉ bl [v0] → b ∉ bl c0 → H b = Ha b) ∧ f 0 = v0 ∧ f 1 = Value.int .i64 k ∧ f 5 = Value.int .i64 ((i : Nat) : Int)) (fun e f w => e = Exit.exit 0 ∧ ∃ (H : GH) (c : List Value), St H0 w0 H w l ∧ Nest (up w0.heap.size H) eSpaceStep 4 v0 (markFrom (fun y m => ((SpaceStep.mk m (wr (m + 1)) (wr ((wr (m + 1)) + 1)) (wr ((wr ((wr (m + 1)) + 1)) + 1))), (wr ((wr ((wr ((wr (m + 1)) + 1)) + 1)) + 1)))) a0 a1).1 c ∧ bl c = bl c0 ∧ (∀ b, b ∉ bl [v0] → b ∉ bl c0 → H b = Ha b) ∧ f 0 = v0 ∧ f 1 = Value.int .i64 (markFrom (fun y m => ((SpaceStep.mk m (wr (m + 1)) (wr ((wr (m + 1)) + 1)) (wr ((wr ((wr (m + 1)) + 1)) + 1))), (wr ((wr ((wr ((wr (m + 1)) + 1)) + 1)) + 1)))) a0 a1).2) ⟨_, _, S0, n0, rfl, fun _ _ _ => rfl, rfl, rfl, rfl⟩ ?_ ?_) ?_
 ·
  rintro i y xs m f1 w1 ⟨H1, c1, S1, n1, hb, ho, kv, kk, kc⟩ hx hy
  obtain ⟨p, hpt, wr0, hB, hr, nd⟩ := n1.begin hy (by decide)
  have hci := eSpaceStep_open hr
  have rd := wr0.opens hci
  refine FW.seq (FW.seq (FW.region ?_))
  refine FL.v (E.move kc) ?_
  refine FL.v (E.move kv) ?_
  refine FL.v (E.len te32 rfl hln) ?_
  refine FL.v (E.lssT rfl rfl (lss_len hx)) ?_
  refine FL.nil ?_
  refine FW.condT rfl rfl ?_
  refine FW.skip (FW.seq (FW.block (FW.seq (FW.region ?_))))
  refine FL.v (E.move kv) ?_
  refine FL.v (E.move kc) ?_
  refine FL.v (E.move kk) ?_
  refine FL.v (E.indexAddr te32 rfl rfl hpt) ?_
  refine FL.v (E.fieldAddr tf76_0 rfl) ?_
  obtain ⟨w21, H22, run24, S23, wr25, o26⟩ := rd.poke (P := Tryz.prog) (t := 3) (u := Value.int .i64 m) S1 hs0 hB (j := 0) rfl rfl rfl Tryz.sizeOf3 rfl rfl (c2 := [Value.int .i64 m, Value.int .i64 y.a, Value.int .i64 y.b, Value.int .i64 y.pivot]) rfl
  refine FL.act rfl rfl (E.store rfl rfl run24) ?_
  refine FL.nil (FW.seq (FW.region ?_))
  refine FL.v (E.move kk) ?_
  refine FL.v (E.add rfl rfl) ?_
  refine FL.v (E.assign (v := Value.int .i64 (wr (m + 1))) rfl) ?_
  refine FL.nil (FW.seq (FW.region ?_))
  refine FL.v (E.move kv) ?_
  refine FL.v (E.move kc) ?_
  refine FL.v (E.move (v := Value.int .i64 (wr (m + 1))) rfl) ?_
  refine FL.v (E.indexAddr te32 rfl rfl hpt) ?_
  refine FL.v (E.fieldAddr tf76_1 rfl) ?_
  obtain ⟨w27, H28, run30, S29, wr31, o32⟩ := wr25.poke (P := Tryz.prog) (t := 3) (u := Value.int .i64 (wr (m + 1))) S23 hs0 hB (j := 1) rfl rfl rfl Tryz.sizeOf3 rfl rfl (c2 := [Value.int .i64 m, Value.int .i64 (wr (m + 1)), Value.int .i64 y.b, Value.int .i64 y.pivot]) rfl
  refine FL.act rfl rfl (E.store rfl rfl run30) ?_
  refine FL.nil (FW.seq (FW.region ?_))
  refine FL.v (E.move (v := Value.int .i64 (wr (m + 1))) rfl) ?_
  refine FL.v (E.add rfl rfl) ?_
  refine FL.v (E.assign (v := Value.int .i64 (wr ((wr (m + 1)) + 1))) rfl) ?_
  refine FL.nil (FW.seq (FW.region ?_))
  refine FL.v (E.move kv) ?_
  refine FL.v (E.move kc) ?_
  refine FL.v (E.move (v := Value.int .i64 (wr ((wr (m + 1)) + 1))) rfl) ?_
  refine FL.v (E.indexAddr te32 rfl rfl hpt) ?_
  refine FL.v (E.fieldAddr tf76_2 rfl) ?_
  obtain ⟨w33, H34, run36, S35, wr37, o38⟩ := wr31.poke (P := Tryz.prog) (t := 3) (u := Value.int .i64 (wr ((wr (m + 1)) + 1))) S29 hs0 hB (j := 2) rfl rfl rfl Tryz.sizeOf3 rfl rfl (c2 := [Value.int .i64 m, Value.int .i64 (wr (m + 1)), Value.int .i64 (wr ((wr (m + 1)) + 1)), Value.int .i64 y.pivot]) rfl
  refine FL.act rfl rfl (E.store rfl rfl run36) ?_
  refine FL.nil (FW.seq (FW.region ?_))
  refine FL.v (E.move (v := Value.int .i64 (wr ((wr (m + 1)) + 1))) rfl) ?_
  refine FL.v (E.add rfl rfl) ?_
  refine FL.v (E.assign (v := Value.int .i64 (wr ((wr ((wr (m + 1)) + 1)) + 1))) rfl) ?_
  refine FL.nil (FW.seq (FW.region ?_))
  refine FL.v (E.move kv) ?_
  refine FL.v (E.move kc) ?_
  refine FL.v (E.move (v := Value.int .i64 (wr ((wr ((wr (m + 1)) + 1)) + 1))) rfl) ?_
  refine FL.v (E.indexAddr te32 rfl rfl hpt) ?_
  refine FL.v (E.fieldAddr tf76_3 rfl) ?_
  obtain ⟨w39, H40, run42, S41, wr43, o44⟩ := wr37.poke (P := Tryz.prog) (t := 3) (u := Value.int .i64 (wr ((wr ((wr (m + 1)) + 1)) + 1))) S35 hs0 hB (j := 3) rfl rfl rfl Tryz.sizeOf3 rfl rfl (c2 := [Value.int .i64 m, Value.int .i64 (wr (m + 1)), Value.int .i64 (wr ((wr (m + 1)) + 1)), Value.int .i64 (wr ((wr ((wr (m + 1)) + 1)) + 1))]) rfl
  refine FL.act rfl rfl (E.store rfl rfl run42) ?_
  refine FL.nil (FW.region ?_)
  refine FL.v (E.move (v := Value.int .i64 (wr ((wr ((wr (m + 1)) + 1)) + 1))) rfl) ?_
  refine FL.v (E.add rfl rfl) ?_
  refine FL.v (E.assign (v := Value.int .i64 (wr ((wr ((wr ((wr (m + 1)) + 1)) + 1)) + 1))) rfl) ?_
  refine FL.nil (FW.region ?_)
  refine FL.v (E.move kc) ?_
  refine FL.v (E.add rfl rfl) ?_
  refine FL.v (E.assign (v := Value.int .i64 (wr (((i : Nat) : Int) + 1))) rfl) ?_
  refine FL.nil ?_
  obtain ⟨c2, n2, hb2, ho2⟩ := n1.round eSpaceStep_flat.loc hy (by decide) hpt wr43 (y' := (SpaceStep.mk m (wr (m + 1)) (wr ((wr (m + 1)) + 1)) (wr ((wr ((wr (m + 1)) + 1)) + 1)))) rfl
  exact ⟨rfl, _, _, S41, n2, hb2.trans hb, fun b q1 q2 => (ho2 b q1 (by rw [hb]; exact q2)).trans (ho b q1 q2), kv, rfl, nat_succ rfl (lt_of_get hx) hle⟩
 ·
  rintro f1 w1 ⟨H1, c1, S1, n1, hb, ho, kv, kk, kc⟩
  refine FW.seq (FW.seq (FW.region ?_))
  refine FL.v (E.move kc) ?_
  refine FL.v (E.move kv) ?_
  refine FL.v (E.len te32 rfl hln) ?_
  refine FL.v (E.lss rfl rfl) ?_
  refine FL.nil ?_
  refine FW.condF rfl dlt_len ?_
  refine FW.exit ?_
  exact ⟨nofun, rfl, _, _, S1, n1, hb, ho, kv, kk⟩
 ·
  rintro e f2 w2 ⟨rfl, H2, c2, S2, n2, hb, ho, kv, kk⟩
  refine FW.seq (FW.region ?_)
  refine FL.v (E.move kk) ?_
  refine FL.v (E.assign (v := Value.int .i64 ((markFrom (fun y m => ((SpaceStep.mk m (wr (m + 1)) (wr ((wr (m + 1)) + 1)) (wr ((wr ((wr (m + 1)) + 1)) + 1))), (wr ((wr ((wr ((wr (m + 1)) + 1)) + 1)) + 1)))) a0 a1).2)) rfl) ?_
  refine FL.nil ?_
  refine FW.ret ?_
  exact ⟨.inr rfl, res1 rfl rfl ⟨_, rfl, S2, n2.rsl, fun b q => ho b q (by rw [hc0]; simp)⟩⟩

theorem w_laws_heldIntS {Ha : GH} {wa : World} (hs : Sl Ha wa) (v0 : Value) (a0 : List Int) (p0 : RSl Ha eI 1 v0 a0) (a1 : Int) {r : Int} (hp : (PF.laws_heldIntS a0 a1) = some r) :
  Calls Tryz.prog 57 #[v0, Value.int .i64 a1] wa (Sc Ha wa (Value.int .i64 r)) := by
 unfold PF.laws_heldIntS at hp
 have S0 := St.init hs
 refine calls_go (N := 21) (args := [v0, Value.int .i64 a1]) Tryz.func57 rfl rfl rfl ?_
 refine FW.seq (FW.region ?_)
 refine FL.v (E.assign (v := Value.int .i64 0) rfl) ?_
 refine FL.nil (FW.seq (FW.seq (FW.region ?_)))
 refine FL.v (E.assign (v := Value.int .i64 0) rfl) ?_
 refine FL.nil ?_
 obtain ⟨q22, hq, hp⟩ := bndR hp
 refine FW.block ?_
 refine FW.mono (FW.forL (S := Int) (X := Int) (fun (i22 : Nat) (s22 : Int) f w => ∃ H : GH, St Ha wa H w [] ∧ Inc Ha H ∧ f 5 = Value.int .i64 ((i22 : Nat) : Int) ∧ f 0 = v0 ∧ f 1 = Value.int .i64 s22) (fun q e f w => match q with | .go s22 => e = Exit.exit 0 ∧ (∃ H : GH, St Ha wa H w [] ∧ Inc Ha H ∧ f 1 = Value.int .i64 s22) | .rt x => ((e = Exit.ret) ∧ (fun e f w => (e = Exit.normal ∨ e = Exit.ret) ∧ ∀ a, Fr (δ := []) 21 a f → ∃ v, (results Tryz.f57 a.tmps).run Tryz.prog w = .ok v w ∧ (Sc Ha wa (Value.int .i64 x)) (.returned v) w) e f w)) hq ⟨_, S0, (Inc.rfl _), rfl, rfl, rfl⟩ ?_ ?_) ?_
 ·
  clear hp hq
  rintro i22 y21 s22 f42 w41 ⟨H38, S39, i40, k43, k44, k45⟩ hx22 o53 hp
  refine FW.seq (FW.seq (FW.region ?_))
  refine FL.v (E.move k43) ?_
  refine FL.v (E.move k44) ?_
  refine FL.v (E.lenP te84 rfl p0) ?_
  refine FL.v (E.lssT rfl rfl (lss_len hx22)) ?_
  refine FL.nil ?_
  refine FW.condT rfl rfl ?_
  refine FW.skip (FW.seq (FW.block (FW.seq (FW.seq (FW.region ?_)))))
  refine FL.v (E.move k44) ?_
  refine FL.v (E.move k43) ?_
  obtain ⟨p46, cs47, pt48, l49, at50, rel51⟩ := p0.at (ix_nat hx22)
  obtain rfl := eI_open rel51
  refine FL.v (E.indexAddr te84 rfl rfl pt48) ?_
  refine FL.v (E.load rfl (run_load0 Tryz.isAgg3 ((at50.mono i40).now S39.sl) rfl)) ?_
  refine FL.v (E.move k45) ?_
  refine FL.v (E.neq rfl rfl) ?_
  refine FL.nil ?_
  rcases ifB hp with ⟨c52, hp⟩ | ⟨c52, hp⟩
  ·
   refine FW.condT rfl c52 ?_
   refine FW.seq (FW.region ?_)
   refine FL.v (E.assign (v := Value.int .i64 (-1)) rfl) ?_
   refine FL.nil ?_
   refine FW.ret ?_
   obtain rfl := Option.some.inj hp
   exact ⟨nofun, rfl, ⟨.inr rfl, res1 rfl rfl ⟨rfl, S39.back⟩⟩⟩
  ·
   refine FW.condF rfl c52 ?_
   refine FW.skip (FW.region ?_)
   refine FL.v (E.move k45) ?_
   refine FL.v (E.add rfl rfl) ?_
   refine FL.v (E.assign (v := Value.int .i64 (wr (s22 + 1))) rfl) ?_
   refine FL.nil (FW.region ?_)
   refine FL.v (E.move k43) ?_
   refine FL.v (E.add rfl rfl) ?_
   refine FL.v (E.assign (v := Value.int .i64 (wr (((i22 : Nat) : Int) + 1))) rfl) ?_
   refine FL.nil ?_
   obtain rfl := Option.some.inj hp
   exact ⟨rfl, ⟨_, S39, i40, (nat_succ rfl (lt_of_get hx22) (p0.mono i40).le), k44, rfl⟩⟩
 ·
  clear hp hq
  rintro s22 f64 w63 ⟨H60, S61, i62, k65, k66, k67⟩
  refine FW.seq (FW.seq (FW.region ?_))
  refine FL.v (E.move k65) ?_
  refine FL.v (E.move k66) ?_
  refine FL.v (E.lenP te84 rfl p0) ?_
  refine FL.v (E.lss rfl rfl) ?_
  refine FL.nil ?_
  refine FW.condF rfl dlt_len ?_
  refine FW.exit ?_
  exact ⟨nofun, rfl, ⟨_, S61, i62, k67⟩⟩
 ·
  clear hq
  intro e f58 w57 hD
  rcases q22 with s22 | x22
  ·
   obtain ⟨rfl, hD⟩ := hD
   obtain ⟨H54, S55, i56, k59⟩ := hD
   replace hp := el_go hp
   refine FW.seq (FW.region ?_)
   refine FL.v (E.move k59) ?_
   refine FL.v (E.assign (v := Value.int .i64 s22) rfl) ?_
   refine FL.nil ?_
   refine FW.ret ?_
   obtain rfl := Option.some.inj hp
   exact ⟨.inr rfl, res1 rfl rfl ⟨rfl, S55.back⟩⟩
  ·
   obtain ⟨he, hL⟩ := hD
   replace hp := el_rt hp
   obtain rfl := Option.some.inj hp
   subst he
   exact hL

theorem w_laws_heldIntSS {Ha : GH} {wa : World} (hs : Sl Ha wa) (v0 : Value) (a0 : List (List Int)) (p0 : RSl Ha (eL eI 1) 1 v0 a0) (a1 : Int) {r : Int} (hp : (PF.laws_heldIntSS a0 a1) = some r) :
  Calls Tryz.prog 20 #[v0, Value.int .i64 a1] wa (Sc Ha wa (Value.int .i64 r)) := by
 unfold PF.laws_heldIntSS at hp
 have S0 := St.init hs
 refine calls_go (N := 21) (args := [v0, Value.int .i64 a1]) Tryz.func20 rfl rfl rfl ?_
 refine FW.seq (FW.region ?_)
 refine FL.v (E.assign (v := Value.int .i64 0) rfl) ?_
 refine FL.nil (FW.seq (FW.seq (FW.region ?_)))
 refine FL.v (E.assign (v := Value.int .i64 0) rfl) ?_
 refine FL.nil ?_
 obtain ⟨q22, hq, hp⟩ := bndR hp
 refine FW.block ?_
 refine FW.mono (FW.forL (S := Int) (X := Int) (fun (i22 : Nat) (s22 : Int) f w => ∃ H : GH, St Ha wa H w [] ∧ Inc Ha H ∧ f 5 = Value.int .i64 ((i22 : Nat) : Int) ∧ f 0 = v0 ∧ f 1 = Value.int .i64 s22) (fun q e f w => match q with | .go s22 => e = Exit.exit 0 ∧ (∃ H : GH, St Ha wa H w [] ∧ Inc Ha H ∧ f 1 = Value.int .i64 s22) | .rt x => ((e = Exit.ret) ∧ (fun e f w => (e = Exit.normal ∨ e = Exit.ret) ∧ ∀ a, Fr (δ := []) 21 a f → ∃ v, (results Tryz.f20 a.tmps).run Tryz.prog w = .ok v w ∧ (Sc Ha wa (Value.int .i64 x)) (.returned v) w) e f w)) hq ⟨_, S0, (Inc.rfl _), rfl, rfl, rfl⟩ ?_ ?_) ?_
 ·
  clear hp hq
  rintro i22 y21 s22 f49 w48 ⟨H45, S46, i47, k50, k51, k52⟩ hx22 o67 hp
  refine FW.seq (FW.seq (FW.region ?_))
  refine FL.v (E.move k50) ?_
  refine FL.v (E.move k51) ?_
  refine FL.v (E.lenP te22 rfl p0) ?_
  refine FL.v (E.lssT rfl rfl (lss_len hx22)) ?_
  refine FL.nil ?_
  refine FW.condT rfl rfl ?_
  refine FW.skip (FW.seq (FW.block (FW.seq (FW.region ?_))))
  refine FL.v (E.move k51) ?_
  refine FL.v (E.move k50) ?_
  obtain ⟨p53, cs54, pt55, l56, at57, rel58⟩ := p0.at (ix_nat hx22)
  obtain ⟨v59, rfl, h60⟩ := eL_open rel58
  refine FL.v (E.indexAddr te22 rfl rfl pt55) ?_
  refine FL.v (E.load rfl (run_load0 Tryz.isAgg84 ((at57.mono i47).now S46.sl) rfl)) ?_
  refine FL.v (E.move k52) ?_
  obtain ⟨r61, hr62, hp⟩ := bnd hp
  refine FL.call rfl rfl rfl (E.call Tryz.call57 (A2 rfl rfl)) (w_laws_heldIntS S46.sl v59 y21 (h60.mono i47) s22 hr62) ?_
  rintro e w63 ⟨rfl, r64⟩
  refine ⟨_, rfl, ?_⟩
  have S65 := S46.call r64
  refine FL.v (E.assign (v := Value.int .i64 r61) rfl) ?_
  refine FL.nil (FW.seq (FW.region ?_))
  refine FL.v (E.move (v := Value.int .i64 r61) rfl) ?_
  refine FL.v (E.lss rfl rfl) ?_
  refine FL.nil ?_
  rcases ifB hp with ⟨c66, hp⟩ | ⟨c66, hp⟩
  ·
   refine FW.condT rfl c66 ?_
   refine FW.seq (FW.region ?_)
   refine FL.v (E.assign (v := Value.int .i64 (-1)) rfl) ?_
   refine FL.nil ?_
   refine FW.ret ?_
   obtain rfl := Option.some.inj hp
   exact ⟨nofun, rfl, ⟨.inr rfl, res1 rfl rfl ⟨rfl, S65.back⟩⟩⟩
  ·
   refine FW.condF rfl c66 ?_
   refine FW.skip (FW.region ?_)
   refine FL.v (E.move k50) ?_
   refine FL.v (E.add rfl rfl) ?_
   refine FL.v (E.assign (v := Value.int .i64 (wr (((i22 : Nat) : Int) + 1))) rfl) ?_
   refine FL.nil ?_
   obtain rfl := Option.some.inj hp
   exact ⟨rfl, ⟨_, S65, i47, (nat_succ rfl (lt_of_get hx22) (p0.mono i47).le), k51, rfl⟩⟩
 ·
  clear hp hq
  rintro s22 f78 w77 ⟨H74, S75, i76, k79, k80, k81⟩
  refine FW.seq (FW.seq (FW.region ?_))
  refine FL.v (E.move k79) ?_
  refine FL.v (E.move k80) ?_
  refine FL.v (E.lenP te22 rfl p0) ?_
  refine FL.v (E.lss rfl rfl) ?_
  refine FL.nil ?_
  refine FW.condF rfl dlt_len ?_
  refine FW.exit ?_
  exact ⟨nofun, rfl, ⟨_, S75, i76, k81⟩⟩
 ·
  clear hq
  intro e f72 w71 hD
  rcases q22 with s22 | x22
  ·
   obtain ⟨rfl, hD⟩ := hD
   obtain ⟨H68, S69, i70, k73⟩ := hD
   replace hp := el_go hp
   refine FW.seq (FW.region ?_)
   refine FL.v (E.move k73) ?_
   refine FL.v (E.assign (v := Value.int .i64 s22) rfl) ?_
   refine FL.nil ?_
   refine FW.ret ?_
   obtain rfl := Option.some.inj hp
   exact ⟨.inr rfl, res1 rfl rfl ⟨rfl, S69.back⟩⟩
  ·
   obtain ⟨he, hL⟩ := hD
   replace hp := el_rt hp
   obtain rfl := Option.some.inj hp
   subst he
   exact hL

set_option maxHeartbeats 4000000 in
theorem w_laws_FnExactClausesOfRun {Ha : GH} {wa : World} (hs : Sl Ha wa) (a0 : Cnf) (v0_1 : Value) (p0_1 : RSl Ha (eL eI 1) 1 v0_1 a0.clauses) (v1 : Value) (a1 : List SpaceStep) (p1 : RSl Ha eSpaceStep 4 v1 a1) {r : Bool} (hp : (PF.laws_FnExactClausesOfRun a0 a1) = some r) :
  Calls Tryz.prog 3 #[Value.agg #[Value.int .i64 a0.vars, v0_1], v1] wa (Sc Ha wa (Value.bool r)) := by
 unfold PF.laws_FnExactClausesOfRun at hp
 have S0 := St.init hs
 refine calls_go (N := 119) (args := [Value.agg #[Value.int .i64 a0.vars, v0_1], v1]) Tryz.func3 rfl rfl rfl ?_
 refine FW.seq (FW.region ?_)
 obtain ⟨w21, run22, S23, z24⟩ := S0.boxB (P := Tryz.prog) 24 [Value.int .i64 a0.vars, v0_1] (v := Value.agg #[Value.int .i64 a0.vars, v0_1]) rfl (ones_cons rfl (ones_cons p0_1.one ones_nil))
 refine FL.v (E.box rfl run22) ?_
 obtain ⟨H25, S26, i27, at28⟩ := S23.sealBoxB (i := 0) (l' := []) rfl rfl
 refine FL.v (E.assign (v := Value.bool false) rfl) ?_
 refine FL.nil (FW.seq (FW.region ?_))
 refine FL.v (E.assign (v := Value.int .i64 1048576) rfl) ?_
 refine FL.nil (FW.seq (FW.region ?_))
 refine FL.v (E.load rfl (run_loadA Tryz.isAgg24 Tryz.sizeOf24 ((at28.mono sgI).now S26.sl) rfl)) ?_
 refine FL.v (E.move (v := Value.int .i64 1048576) rfl) ?_
 obtain ⟨r29, hr30, hp⟩ := bnd hp
 refine FL.call rfl rfl rfl (E.call Tryz.call8 (A2 rfl rfl)) (w_laws_szCnf S26.sl a0 v0_1 (p0_1.mono i27) 1048576 hr30) ?_
 rintro e w31 ⟨rfl, r32⟩
 refine ⟨_, rfl, ?_⟩
 have S33 := S26.call r32
 have z34 := r32.bel.size
 refine FL.v (E.assign (v := Value.int .i64 r29) rfl) ?_
 refine FL.nil (FW.seq (FW.seq (FW.region ?_)))
 refine FL.v (E.move (v := Value.int .i64 r29) rfl) ?_
 refine FL.v (E.lss rfl rfl) ?_
 refine FL.nil ?_
 rcases ifB hp with ⟨c35, hp⟩ | ⟨c35, hp⟩
 ·
  refine FW.condT rfl c35 ?_
  refine FW.seq (FW.region ?_)
  refine FL.v (E.assign (v := Value.bool true) rfl) ?_
  refine FL.nil ?_
  refine FW.ret ?_
  obtain rfl := Option.some.inj hp
  exact ⟨.inr rfl, res1 rfl rfl ⟨rfl, S33.back⟩⟩
 ·
  refine FW.condF rfl c35 ?_
  refine FW.skip (FW.seq (FW.region ?_))
  refine FL.v (E.move (v := v1) rfl) ?_
  refine FL.v (E.move (v := Value.int .i64 r29) rfl) ?_
  refine FL.call rfl rfl rfl (E.call Tryz.call9 (A2 rfl rfl)) (w_laws_szSpaceStepS S33.sl v1 a1 (p1.mono i27) r29) ?_
  rintro e w36 ⟨rfl, r37⟩
  refine ⟨_, rfl, ?_⟩
  have S38 := S33.call r37
  have z39 := r37.bel.size
  refine FL.v (E.assign (v := Value.int .i64 (PF.laws_szSpaceStepS a1 r29)) rfl) ?_
  refine FL.nil (FW.seq (FW.seq (FW.region ?_)))
  refine FL.v (E.move (v := Value.int .i64 (PF.laws_szSpaceStepS a1 r29)) rfl) ?_
  refine FL.v (E.lss rfl rfl) ?_
  refine FL.nil ?_
  rcases ifB hp with ⟨c40, hp⟩ | ⟨c40, hp⟩
  ·
   refine FW.condT rfl c40 ?_
   refine FW.seq (FW.region ?_)
   refine FL.v (E.assign (v := Value.bool true) rfl) ?_
   refine FL.nil ?_
   refine FW.ret ?_
   obtain rfl := Option.some.inj hp
   exact ⟨.inr rfl, res1 rfl rfl ⟨rfl, S38.back⟩⟩
  ·
   refine FW.condF rfl c40 ?_
   refine FW.skip (FW.seq (FW.region ?_))
   refine FL.v (E.load rfl (run_loadA Tryz.isAgg24 Tryz.sizeOf24 ((at28.mono sgI).now S38.sl) rfl)) ?_
   obtain ⟨r41, hr42, hp⟩ := bnd hp
   refine FL.call rfl rfl rfl (E.call Tryz.call11 (A1 rfl)) (w_laws_toCnf S38.sl a0 v0_1 (p0_1.mono i27) hr42) ?_
   rintro e w44 ⟨H43, v47, rfl, r46, ⟨c50, ns49⟩⟩
   refine ⟨_, rfl, ?_⟩
   have h48 := ns49.rsl
   have nv51 : New H25 c50 := New.of_up S38.sl (fun b hb => ns49.dom b (.inr hb))
   have nv52 : New H25 [v47] := New.of_up S38.sl h48.dom
   have S45 := S38.call r46
   have z53 := r46.bel.size
   have h48 := h48.mono (sg_of S45.sl)
   have ns49 := ns49.mono (sg_of S45.sl)
   refine FL.v (E.move (v := v1) rfl) ?_
   obtain ⟨r54, hr55, hp⟩ := bnd hp
   refine FL.call rfl rfl rfl (E.call Tryz.call12 (A1 rfl)) (w_laws_toSpaceStepS S45.sl v1 a1 (p1.mono (i27.tr r46.inc)) hr55) ?_
   rintro e w57 ⟨H56, v60, n61, cs62, rfl, r59, els63⟩
   refine ⟨_, rfl, ?_⟩
   obtain ⟨H64, r65, i66, h67, nv68⟩ := r59.sealRowU (i := 0) (l' := []) rfl els63 (by decide) rfl
   have S58 := S45.call r65.run
   have z69 := r65.run.bel.size
   have h67 := h67.mono (sg_of S58.sl)
   obtain ⟨r70, hr71, hp⟩ := bnd hp
   refine FL.call rfl rfl rfl (E.call Tryz.call10 (A2 rfl rfl)) (w_spec_ClausesOfRun S58.sl r41 v47 (h48.mono (sgI.tr r65.run.inc)) v60 r54 (h67.mono sgI) hr71) ?_
   rintro e w73 ⟨H72, v76, n77, cs78, rfl, r75, els79, nd80⟩
   refine ⟨_, rfl, ?_⟩
   have nv81 : New H64 cs78 := New.of_up S58.sl els79.dom
   obtain ⟨H82, r83, i84, ns87, nv86⟩ := r75.sealRowN (i := 0) (l' := []) rfl els79 nd80 (by decide) rfl
   have h85 := ns87.rsl
   have S74 := S58.call r83.run
   have z88 := r83.run.bel.size
   have h85 := h85.mono (sg_of S74.sl)
   have ns87 := ns87.mono (sg_of S74.sl)
   refine FL.v (E.move (v := Value.tuple #[v76, Value.bool r70.2]) rfl) ?_
   refine FL.v (E.extract (i := 0) rfl rfl) ?_
   refine FL.v (E.extract (i := 1) rfl rfl) ?_
   refine FL.v (E.assign (v := v76) rfl) ?_
   refine FL.v (E.assign (v := Value.bool r70.2) rfl) ?_
   refine FL.nil (FW.seq (FW.region ?_))
   refine FL.v (E.load rfl (run_loadA Tryz.isAgg24 Tryz.sizeOf24 ((at28.mono (sgI.tr ((r46.inc.tr r65.run.inc).tr r83.run.inc))).now S74.sl) rfl)) ?_
   obtain ⟨r89, hr90, hp⟩ := bnd hp
   refine FL.call rfl rfl rfl (E.call Tryz.call11 (A1 rfl)) (w_laws_toCnf S74.sl a0 v0_1 (p0_1.mono (((i27.tr r46.inc).tr r65.run.inc).tr r83.run.inc)) hr90) ?_
   rintro e w92 ⟨H91, v95, rfl, r94, ⟨c98, ns97⟩⟩
   refine ⟨_, rfl, ?_⟩
   have h96 := ns97.rsl
   have nv99 : New H82 c98 := New.of_up S74.sl (fun b hb => ns97.dom b (.inr hb))
   have nv100 : New H82 [v95] := New.of_up S74.sl h96.dom
   have S93 := S74.call r94
   have z101 := r94.bel.size
   have h96 := h96.mono (sg_of S93.sl)
   have ns97 := ns97.mono (sg_of S93.sl)
   obtain ⟨w102, run103, S104, z105⟩ := S93.allocB (P := Tryz.prog) 30 [Value.int .i64 0, Value.slice none 0 0] Tryz.zeroValue30 rfl (ones_cons rfl (ones_cons rfl ones_nil))
   refine FL.v (E.alloc run103) ?_
   obtain ⟨w106, run107, S108, z109⟩ := S104.store0B (P := Tryz.prog) (t := 30) (i := 0) (cs' := [Value.int .i64 r89.vars, v95]) (l' := [.box w92.heap.size 30 [Value.int .i64 r89.vars, v95]]) (v := Value.agg #[Value.int .i64 r89.vars, v95]) (c := [Value.int .i64 r89.vars, v95]) rfl Tryz.sizeOf30 rfl rfl (ones_cons rfl (ones_cons h96.one ones_nil)) (Nat.le_of_ble_eq_true rfl) rfl rfl
   refine FL.act rfl rfl (E.store rfl rfl run107) ?_
   obtain ⟨H110, S111, i112, at113⟩ := S108.sealBoxB (i := 0) (l' := []) rfl rfl
   refine FL.nil (FW.seq (FW.region ?_))
   refine FL.v (E.move (v := v1) rfl) ?_
   obtain ⟨r114, hr115, hp⟩ := bnd hp
   refine FL.call rfl rfl rfl (E.call Tryz.call12 (A1 rfl)) (w_laws_toSpaceStepS S111.sl v1 a1 (p1.mono (((((i27.tr r46.inc).tr r65.run.inc).tr r83.run.inc).tr r94.inc).tr i112)) hr115) ?_
   rintro e w117 ⟨H116, v120, n121, cs122, rfl, r119, els123⟩
   refine ⟨_, rfl, ?_⟩
   obtain ⟨H124, r125, i126, h127, nv128⟩ := r119.sealRowU (i := 0) (l' := []) rfl els123 (by decide) rfl
   have S118 := S111.call r125.run
   have z129 := r125.run.bel.size
   have h127 := h127.mono (sg_of S118.sl)
   refine FL.v (E.assign (v := v120) rfl) ?_
   refine FL.nil (FW.seq (FW.region ?_))
   refine FL.v (E.load rfl (run_loadA Tryz.isAgg30 Tryz.sizeOf30 ((at113.mono (sgI.tr r125.run.inc)).now S118.sl) rfl)) ?_
   refine FL.v (E.move (v := v120) rfl) ?_
   obtain ⟨r130, hr131, hp⟩ := bnd hp
   refine FL.call rfl rfl rfl (E.call Tryz.call13 (A2 rfl rfl)) (w_impl_ClausesOfRun S118.sl r89 v95 (h96.mono (sgI.tr (i112.tr r125.run.inc))) v120 r114 (h127.mono sgI) hr131) ?_
   rintro e w133 ⟨H132, v136, n137, cs138, rfl, r135, els139, nd140⟩
   refine ⟨_, rfl, ?_⟩
   have nv141 : New H124 cs138 := New.of_up S118.sl els139.dom
   obtain ⟨H142, r143, i144, ns147, nv146⟩ := r135.sealRowN (i := 0) (l' := []) rfl els139 nd140 (by decide) rfl
   have h145 := ns147.rsl
   have S134 := S118.call r143.run
   have z148 := r143.run.bel.size
   have h145 := h145.mono (sg_of S134.sl)
   have ns147 := ns147.mono (sg_of S134.sl)
   refine FL.v (E.move (v := Value.tuple #[v136, Value.bool r130.2]) rfl) ?_
   refine FL.v (E.extract (i := 0) rfl rfl) ?_
   refine FL.v (E.extract (i := 1) rfl rfl) ?_
   refine FL.v (E.assign (v := v136) rfl) ?_
   refine FL.v (E.assign (v := Value.bool r130.2) rfl) ?_
   refine FL.nil (FW.seq (FW.seq (FW.region ?_)))
   refine FL.v (E.move (v := v136) rfl) ?_
   refine FL.v (E.move (v := v76) rfl) ?_
   obtain ⟨r149, hr150, hp⟩ := bnd hp
   refine FL.call rfl rfl rfl (E.call Tryz.call14 (A2 rfl rfl)) (w_laws_eqIntSS S134.sl v136 r130.1 (h145.mono sgI) v76 r70.1 (h85.mono (sgI.tr (((r94.inc.tr i112).tr r125.run.inc).tr r143.run.inc))) hr150) ?_
   rintro e w151 ⟨rfl, r152⟩
   refine ⟨_, rfl, ?_⟩
   have S153 := S134.call r152
   have z154 := r152.bel.size
   refine FL.v (E.not rfl) ?_
   refine FL.v (E.move (v := Value.bool (!r149)) rfl) ?_
   refine FL.cut 4 (fun f w => ∃ H : GH, St Ha wa H w [] ∧ Inc H142 H ∧ f 1 = v1 ∧ f 2 = Value.pointer (some ⟨wa.heap.size, 0, none⟩) ∧ f 6 = v76 ∧ f 7 = Value.bool r70.2 ∧ f 8 = Value.pointer (some ⟨w92.heap.size, 0, none⟩) ∧ f 9 = v120 ∧ f 10 = v136 ∧ f 11 = Value.bool r130.2 ∧ f 53 = Value.bool (bif (!r149) then true else (!(r130.2 == r70.2)))) ?_ ?_
   ·
    rcases bcase (!r149) with c161 | c161
    ·
     refine FL.skip (wF_no rfl rfl rfl c161) rfl ?_
     refine FL.skip (wF_no rfl rfl rfl c161) rfl ?_
     refine FL.skip (wF_no rfl rfl rfl c161) rfl ?_
     refine FL.v (E.pickT rfl c161 rfl) ?_
     exact FL.nil ⟨rfl, _, S153, (Inc.rfl _), rfl, rfl, rfl, rfl, rfl, rfl, rfl, rfl, (congrArg Value.bool (bifT c161).symm)⟩
    ·
     refine FL.val (wF_yes rfl rfl rfl c161) rfl rfl (E.move (v := Value.bool r130.2) rfl) ?_
     refine FL.val (wF_yes rfl rfl rfl c161) rfl rfl (E.move (v := Value.bool r70.2) rfl) ?_
     refine FL.val (wF_yes rfl rfl rfl c161) rfl rfl (E.neqB Tryz.runUnderlying4 rfl rfl) ?_
     refine FL.v (E.pickF rfl c161 rfl) ?_
     exact FL.nil ⟨rfl, _, S153, (Inc.rfl _), rfl, rfl, rfl, rfl, rfl, rfl, rfl, rfl, (congrArg Value.bool (bifF c161).symm)⟩
   rintro f160 w159 ⟨H156, S157, i158, k162, k163, k164, k165, k166, k167, k168, k169, k170⟩
   refine FL.nil ?_
   rcases ifB hp with ⟨c171, hp⟩ | ⟨c171, hp⟩
   ·
    refine FW.condT k170 c171 ?_
    refine FW.seq (FW.region ?_)
    refine FL.v (E.assign (v := Value.bool false) rfl) ?_
    refine FL.nil ?_
    refine FW.ret ?_
    obtain rfl := Option.some.inj hp
    exact ⟨.inr rfl, res1 rfl rfl ⟨rfl, S157.back⟩⟩
   ·
    refine FW.condF k170 c171 ?_
    refine FW.skip (FW.seq (FW.seq ?_))
    obtain ⟨r155, hr175, hp⟩ := bnd hp
    obtain ⟨r187, hr188, hp⟩ := bnd hp
    refine FW.drawB (Sl H156) (fun f w => ∃ H : GH, St Ha wa H w [] ∧ Inc H156 H ∧ f 1 = v1 ∧ f 2 = Value.pointer (some ⟨wa.heap.size, 0, none⟩) ∧ f 6 = v76 ∧ f 7 = Value.bool r70.2 ∧ f 8 = Value.pointer (some ⟨w92.heap.size, 0, none⟩) ∧ f 9 = v120 ∧ f 10 = v136 ∧ f 11 = Value.bool r130.2 ∧ f 58 = Value.bool (!r187)) (by kernel_rfl) S157.sl ?_ ?_
    ·
     intro w172 r173
     have S174 := S157.call r173
     refine FB.t (i := 0) (bs 5 1) rfl (SP.nil S174.sl) rfl (fun w' hw' => (E.load k166 (run_loadA Tryz.isAgg30 Tryz.sizeOf30 ((at113.mono (sgI.tr ((r125.run.inc.tr r143.run.inc).tr i158))).now hw') rfl))) ?_
     refine FB.t (i := 1) (bs 5 3) rfl (SP.nil S174.sl) rfl (fun w' hw' => (E.load k163 (run_loadA Tryz.isAgg24 Tryz.sizeOf24 ((at28.mono (sgI.tr (((((((r46.inc.tr r65.run.inc).tr r83.run.inc).tr r94.inc).tr i112).tr r125.run.inc).tr r143.run.inc).tr i158))).now hw') rfl))) ?_
     refine FB.all1 (i := 2) (by kernel_rfl) ?_
     ·
      refine FC.call (l' := (bs 5 7)) rfl (by kernel_rfl) rfl rfl rfl (E.call Tryz.call11 (A1 rfl)) (w_laws_toCnf S174.sl a0 v0_1 (p0_1.mono ((((((((i27.tr r46.inc).tr r65.run.inc).tr r83.run.inc).tr r94.inc).tr i112).tr r125.run.inc).tr r143.run.inc).tr i158)) hr175) ?_
      rintro e w177 ⟨H176, v180, rfl, r179, ⟨c183, ns182⟩⟩
      refine ⟨_, rfl, ?_⟩
      have h181 := ns182.rsl
      have nv184 : New H156 c183 := New.of_up S174.sl (fun b hb => ns182.dom b (.inr hb))
      have nv185 : New H156 [v180] := New.of_up S174.sl h181.dom
      have S178 := S174.call r179
      have z186 := r179.bel.size
      have h181 := h181.mono (sg_of S178.sl)
      have ns182 := ns182.mono (sg_of S178.sl)
      refine ⟨(SP.nil (Sl.of_inc r179.inc S178.sl)), ?_⟩
      refine FB.all1 (i := 3) (by kernel_rfl) ?_
      ·
       refine FC.call (l' := (bs 5 15)) rfl (by kernel_rfl) rfl rfl rfl (E.call Tryz.call15 (A2 rfl rfl)) (w_laws_eqCnf S178.sl r89 v95 (h96.mono (sgI.tr ((((i112.tr r125.run.inc).tr r143.run.inc).tr i158).tr r179.inc))) r155 v180 (h181.mono sgI) hr188) ?_
       rintro e w189 ⟨rfl, r190⟩
       refine ⟨_, rfl, ?_⟩
       have S191 := S178.call r190
       have z192 := r190.bel.size
       refine ⟨(SP.nil (Sl.of_inc r179.inc S191.sl)), ?_⟩
       refine FB.t (i := 4) (bs 5 31) rfl (SP.nil (Sl.of_inc r179.inc S191.sl)) rfl (fun w' hw' => (E.not rfl)) ?_
       exact FB.done (by kernel_rfl) ⟨_, S191, r179.inc, k162, k163, k164, k165, k166, k167, k168, k169, rfl⟩
    ·
     rintro f197 w196 ⟨H193, S194, i195, k198, k199, k200, k201, k202, k203, k204, k205, k206⟩
     rcases ifB hp with ⟨c207, hp⟩ | ⟨c207, hp⟩
     ·
      refine FW.condT k206 c207 ?_
      refine FW.seq (FW.region ?_)
      refine FL.v (E.assign (v := Value.bool false) rfl) ?_
      refine FL.nil ?_
      refine FW.ret ?_
      obtain rfl := Option.some.inj hp
      exact ⟨.inr rfl, res1 rfl rfl ⟨rfl, S194.back⟩⟩
     ·
      refine FW.condF k206 c207 ?_
      refine FW.skip (FW.seq (FW.seq (FW.region ?_)))
      refine FL.v (E.move k203) ?_
      refine FL.v (E.move k198) ?_
      obtain ⟨r208, hr209, hp⟩ := bnd hp
      refine FL.call rfl rfl rfl (E.call Tryz.call12 (A1 rfl)) (w_laws_toSpaceStepS S194.sl v1 a1 (p1.mono (((((((((i27.tr r46.inc).tr r65.run.inc).tr r83.run.inc).tr r94.inc).tr i112).tr r125.run.inc).tr r143.run.inc).tr i158).tr i195)) hr209) ?_
      rintro e w211 ⟨H210, v214, n215, cs216, rfl, r213, els217⟩
      refine ⟨_, rfl, ?_⟩
      obtain ⟨H218, r219, i220, h221, nv222⟩ := r213.sealRowU (i := 0) (l' := []) rfl els217 (by decide) rfl
      have S212 := S194.call r219.run
      have z223 := r219.run.bel.size
      have h221 := h221.mono (sg_of S212.sl)
      obtain ⟨r224, hr225, hp⟩ := bnd hp
      refine FL.call rfl rfl rfl (E.call Tryz.call16 (A2 rfl rfl)) (w_laws_eqSpaceStepS S212.sl v120 r114 (h127.mono (sgI.tr (((r143.run.inc.tr i158).tr i195).tr r219.run.inc))) v214 r208 (h221.mono sgI) hr225) ?_
      rintro e w226 ⟨rfl, r227⟩
      refine ⟨_, rfl, ?_⟩
      have S228 := S212.call r227
      have z229 := r227.bel.size
      refine FL.v (E.not rfl) ?_
      refine FL.nil ?_
      rcases ifB hp with ⟨c230, hp⟩ | ⟨c230, hp⟩
      ·
       refine FW.condT rfl c230 ?_
       refine FW.seq (FW.region ?_)
       refine FL.v (E.assign (v := Value.bool false) rfl) ?_
       refine FL.nil ?_
       refine FW.ret ?_
       obtain rfl := Option.some.inj hp
       exact ⟨.inr rfl, res1 rfl rfl ⟨rfl, S228.back⟩⟩
      ·
       refine FW.condF rfl c230 ?_
       refine FW.skip (FW.seq (FW.region ?_))
       refine FL.v (E.assign (v := Value.int .i64 1) rfl) ?_
       refine FL.nil (FW.seq (FW.region ?_))
       refine FL.v (E.load k202 (run_loadA Tryz.isAgg30 Tryz.sizeOf30 ((at113.mono (sgI.tr ((((r125.run.inc.tr r143.run.inc).tr i158).tr i195).tr r219.run.inc))).now S228.sl) rfl)) ?_
       refine FL.v (E.move (v := Value.int .i64 1) rfl) ?_
       refine FL.call rfl rfl rfl (E.call Tryz.call17 (A2 rfl rfl)) (w_laws_markCnf S228 hs r89 v95 c98 (ns97.mono (sg_up (by omega) (((((i112.tr r125.run.inc).tr r143.run.inc).tr i158).tr i195).tr r219.run.inc))) 1) ?_
       rintro e w232 ⟨H231, c237, rfl, S233, ns239, hb238, o235⟩
       refine ⟨_, rfl, ?_⟩
       have o236 := (ns97.mono (sg_mono (hi := w92.heap.size) (((((i112.tr r125.run.inc).tr r143.run.inc).tr i158).tr i195).tr r219.run.inc))).outside o235
       have ns239 := ns97.span (eL_loc eI_flat) (by omega) ns239 hb238
       have h234 := ns239.rsl
       have f240 := at28.mono ((sg_mono (lo := wa.heap.size) (hi := wa.heap.size + 1) (((((((((r46.inc.tr r65.run.inc).tr r83.run.inc).tr r94.inc).tr i112).tr r125.run.inc).tr r143.run.inc).tr i158).tr i195).tr r219.run.inc)).tr (sg_keep o236 (by omega)))
       have f241 := h85.mono ((sg_mono (lo := w57.heap.size) (hi := w73.heap.size) ((((((r94.inc.tr i112).tr r125.run.inc).tr r143.run.inc).tr i158).tr i195).tr r219.run.inc)).tr (sg_keep o236 (by omega)))
       have f242 := ns87.mono ((sg_mono (lo := w57.heap.size) (hi := w73.heap.size) ((((((r94.inc.tr i112).tr r125.run.inc).tr r143.run.inc).tr i158).tr i195).tr r219.run.inc)).tr (sg_keep o236 (by omega)))
       have f243 := at113.mono ((sg_mono (lo := w92.heap.size) (hi := w92.heap.size + 1) ((((r125.run.inc.tr r143.run.inc).tr i158).tr i195).tr r219.run.inc)).tr (sg_keep o236 (by omega)))
       have f244 := h127.mono ((sg_mono (lo := w106.heap.size) (hi := w117.heap.size) (((r143.run.inc.tr i158).tr i195).tr r219.run.inc)).tr (sg_keep o236 (by omega)))
       have f245 := h145.mono ((sg_mono (lo := w117.heap.size) (hi := w133.heap.size) ((i158.tr i195).tr r219.run.inc)).tr (sg_keep o236 (by omega)))
       have f246 := ns147.mono ((sg_mono (lo := w117.heap.size) (hi := w133.heap.size) ((i158.tr i195).tr r219.run.inc)).tr (sg_keep o236 (by omega)))
       refine FL.v (E.assign (v := Value.int .i64 ((PF.laws_markCnf r89 1).2)) rfl) ?_
       refine FL.nil (FW.seq (FW.region ?_))
       refine FL.v (E.move k203) ?_
       refine FL.v (E.move (v := Value.int .i64 ((PF.laws_markCnf r89 1).2)) rfl) ?_
       refine FL.call rfl rfl rfl (E.call Tryz.call18 (A2 rfl rfl)) (w_laws_markSpaceStepS S233 hs v120 r114 (f244.mono (sg_up (by omega) (Inc.rfl _))) ((PF.laws_markCnf r89 1).2)) ?_
       rintro e w248 ⟨H247, rfl, S249, h250, o251⟩
       refine ⟨_, rfl, ?_⟩
       have o252 := (f244.mono (sg_mono (hi := w117.heap.size) (Inc.rfl _))).outside o251
       have h250 := f244.span eSpaceStep_flat (by omega) h250
       have f253 := f240.mono ((sg_mono (lo := wa.heap.size) (hi := wa.heap.size + 1) (Inc.rfl _)).tr (sg_keep o252 (by omega)))
       have f254 := f241.mono ((sg_mono (lo := w57.heap.size) (hi := w73.heap.size) (Inc.rfl _)).tr (sg_keep o252 (by omega)))
       have f255 := f242.mono ((sg_mono (lo := w57.heap.size) (hi := w73.heap.size) (Inc.rfl _)).tr (sg_keep o252 (by omega)))
       have f256 := f243.mono ((sg_mono (lo := w92.heap.size) (hi := w92.heap.size + 1) (Inc.rfl _)).tr (sg_keep o252 (by omega)))
       have f257 := h234.mono ((sg_mono (lo := w73.heap.size) (hi := w92.heap.size) (Inc.rfl _)).tr (sg_keep o252 (by omega)))
       have f258 := ns239.mono ((sg_mono (lo := w73.heap.size) (hi := w92.heap.size) (Inc.rfl _)).tr (sg_keep o252 (by omega)))
       have f259 := f245.mono ((sg_mono (lo := w117.heap.size) (hi := w133.heap.size) (Inc.rfl _)).tr (sg_keep o252 (by omega)))
       have f260 := f246.mono ((sg_mono (lo := w117.heap.size) (hi := w133.heap.size) (Inc.rfl _)).tr (sg_keep o252 (by omega)))
       refine FL.v (E.assign (v := Value.int .i64 ((PF.laws_markSpaceStepS r114 ((PF.laws_markCnf r89 1).2)).2)) rfl) ?_
       refine FL.nil (FW.seq (FW.seq (FW.region ?_)))
       refine FL.v (E.move (v := Value.int .i64 ((PF.laws_markSpaceStepS r114 ((PF.laws_markCnf r89 1).2)).2)) rfl) ?_
       refine FL.v (E.lss rfl rfl) ?_
       refine FL.v (E.move (v := Value.bool (decide ((PF.laws_markSpaceStepS r114 ((PF.laws_markCnf r89 1).2)).2 < 0))) rfl) ?_
       obtain ⟨t261, hqt261, hp⟩ := bnd hp
       refine FL.cut 5 (fun f w => ∃ H : GH, St Ha wa H w [] ∧ Inc H247 H ∧ f 1 = v1 ∧ f 2 = Value.pointer (some ⟨wa.heap.size, 0, none⟩) ∧ f 6 = v76 ∧ f 7 = Value.bool r70.2 ∧ f 10 = v136 ∧ f 11 = Value.bool r130.2 ∧ f 77 = Value.bool t261) ?_ ?_
       ·
        clear hp; have hp := hqt261; clear hqt261
        rcases ifB hp with ⟨c267, hp⟩ | ⟨c267, hp⟩
        ·
         refine FL.skip (wF_no rfl rfl rfl c267) rfl ?_
         refine FL.skip (wF_no rfl rfl rfl c267) rfl ?_
         refine FL.skip (wF_no rfl rfl rfl c267) rfl ?_
         refine FL.skip (wF_no rfl rfl rfl c267) rfl ?_
         obtain rfl := Option.some.inj hp
         refine FL.v (E.pickT rfl c267 rfl) ?_
         exact FL.nil ⟨rfl, _, S249, (Inc.rfl _), k198, k199, k200, k201, k204, k205, rfl⟩
        ·
         refine FL.val (wF_yes rfl rfl rfl c267) rfl rfl (E.move k204) ?_
         refine FL.val (wF_yes rfl rfl rfl c267) rfl rfl (E.move k200) ?_
         obtain ⟨r268, hr269, hp⟩ := bnd hp
         refine FL.call (wF_yes rfl rfl rfl c267) rfl rfl (E.call Tryz.call14 (A2 rfl rfl)) (w_laws_eqIntSS S249.sl v136 r130.1 (f259.mono sgI) v76 r70.1 (f254.mono sgI) hr269) ?_
         rintro e w270 ⟨rfl, r271⟩
         refine ⟨_, rfl, ?_⟩
         have S272 := S249.call r271
         have z273 := r271.bel.size
         refine FL.val (wF_yes rfl rfl rfl c267) rfl rfl (E.not rfl) ?_
         obtain rfl := Option.some.inj hp
         refine FL.v (E.pickF rfl c267 rfl) ?_
         exact FL.nil ⟨rfl, _, S272, (Inc.rfl _), k198, k199, k200, k201, k204, k205, rfl⟩
       rintro f266 w265 ⟨H262, S263, i264, k274, k275, k276, k277, k278, k279, k280⟩
       refine FL.v (E.move k280) ?_
       refine FL.cut 4 (fun f w => ∃ H : GH, St Ha wa H w [] ∧ Inc H262 H ∧ f 1 = v1 ∧ f 2 = Value.pointer (some ⟨wa.heap.size, 0, none⟩) ∧ f 6 = v76 ∧ f 7 = Value.bool r70.2 ∧ f 10 = v136 ∧ f 82 = Value.bool (bif t261 then true else (!(r130.2 == r70.2)))) ?_ ?_
       ·
        rcases bcase t261 with c286 | c286
        ·
         refine FL.skip (wF_no rfl rfl rfl c286) rfl ?_
         refine FL.skip (wF_no rfl rfl rfl c286) rfl ?_
         refine FL.skip (wF_no rfl rfl rfl c286) rfl ?_
         refine FL.v (E.pickT rfl c286 rfl) ?_
         exact FL.nil ⟨rfl, _, S263, (Inc.rfl _), k274, k275, k276, k277, k278, (congrArg Value.bool (bifT c286).symm)⟩
        ·
         refine FL.val (wF_yes rfl rfl rfl c286) rfl rfl (E.move k279) ?_
         refine FL.val (wF_yes rfl rfl rfl c286) rfl rfl (E.move k277) ?_
         refine FL.val (wF_yes rfl rfl rfl c286) rfl rfl (E.neqB Tryz.runUnderlying4 rfl rfl) ?_
         refine FL.v (E.pickF rfl c286 rfl) ?_
         exact FL.nil ⟨rfl, _, S263, (Inc.rfl _), k274, k275, k276, k277, k278, (congrArg Value.bool (bifF c286).symm)⟩
       rintro f285 w284 ⟨H281, S282, i283, k287, k288, k289, k290, k291, k292⟩
       refine FL.nil ?_
       rcases ifB hp with ⟨c293, hp⟩ | ⟨c293, hp⟩
       ·
        refine FW.condT k292 c293 ?_
        refine FW.seq (FW.region ?_)
        refine FL.v (E.assign (v := Value.bool false) rfl) ?_
        refine FL.nil ?_
        refine FW.ret ?_
        obtain rfl := Option.some.inj hp
        exact ⟨.inr rfl, res1 rfl rfl ⟨rfl, S282.back⟩⟩
       ·
        refine FW.condF k292 c293 ?_
        refine FW.skip (FW.seq (FW.region ?_))
        refine FL.v (E.assign (v := Value.int .i64 1) rfl) ?_
        refine FL.nil (FW.seq (FW.region ?_))
        refine FL.v (E.move k291) ?_
        refine FL.v (E.move (v := Value.int .i64 1) rfl) ?_
        refine FL.call rfl rfl rfl (E.call Tryz.call19 (A2 rfl rfl)) (w_laws_markIntSS S282 hs v136 r130.1 cs138 (f260.mono (sg_up (by omega) (i264.tr i283))) 1) ?_
        rintro e w295 ⟨H294, c300, rfl, S296, ns302, hb301, o298⟩
        refine ⟨_, rfl, ?_⟩
        have o299 := (f260.mono (sg_mono (hi := w133.heap.size) (i264.tr i283))).outside o298
        have ns302 := f260.span (eL_loc eI_flat) (by omega) ns302 hb301
        have h297 := ns302.rsl
        have f303 := f253.mono ((sg_mono (lo := wa.heap.size) (hi := wa.heap.size + 1) (i264.tr i283)).tr (sg_keep o299 (by omega)))
        have f304 := f254.mono ((sg_mono (lo := w57.heap.size) (hi := w73.heap.size) (i264.tr i283)).tr (sg_keep o299 (by omega)))
        have f305 := f255.mono ((sg_mono (lo := w57.heap.size) (hi := w73.heap.size) (i264.tr i283)).tr (sg_keep o299 (by omega)))
        refine FL.v (E.assign (v := Value.int .i64 ((PF.laws_markIntSS r130.1 1).2)) rfl) ?_
        refine FL.nil (FW.seq (FW.region ?_))
        refine FL.v (E.assign (v := Value.int .i64 1) rfl) ?_
        refine FL.nil (FW.seq (FW.region ?_))
        refine FL.v (E.move k291) ?_
        refine FL.v (E.move (v := Value.int .i64 1) rfl) ?_
        obtain ⟨r306, hr307, hp⟩ := bnd hp
        refine FL.call rfl rfl rfl (E.call Tryz.call20 (A2 rfl rfl)) (w_laws_heldIntSS S296.sl v136 ((PF.laws_markIntSS r130.1 1).1) (h297.mono sgI) 1 hr307) ?_
        rintro e w308 ⟨rfl, r309⟩
        refine ⟨_, rfl, ?_⟩
        have S310 := S296.call r309
        have z311 := r309.bel.size
        refine FL.v (E.assign (v := Value.int .i64 r306) rfl) ?_
        refine FL.nil (FW.seq (FW.seq (FW.region ?_)))
        refine FL.v (E.move (v := Value.int .i64 r306) rfl) ?_
        refine FL.v (E.lss rfl rfl) ?_
        refine FL.nil ?_
        rcases ifB hp with ⟨c312, hp⟩ | ⟨c312, hp⟩
        ·
         refine FW.condT rfl c312 ?_
         refine FW.seq (FW.region ?_)
         refine FL.v (E.assign (v := Value.bool false) rfl) ?_
         refine FL.nil ?_
         refine FW.ret ?_
         obtain rfl := Option.some.inj hp
         exact ⟨.inr rfl, res1 rfl rfl ⟨rfl, S310.back⟩⟩
        ·
         refine FW.condF rfl c312 ?_
         refine FW.skip (FW.seq (FW.seq (FW.region ?_)))
         refine FL.v (E.move (v := Value.int .i64 r306) rfl) ?_
         refine FL.v (E.move (v := Value.int .i64 ((PF.laws_markIntSS r130.1 1).2)) rfl) ?_
         refine FL.v (E.neq rfl rfl) ?_
         refine FL.nil ?_
         rcases ifB hp with ⟨c313, hp⟩ | ⟨c313, hp⟩
         ·
          refine FW.condT rfl c313 ?_
          refine FW.seq (FW.region ?_)
          refine FL.v (E.assign (v := Value.bool false) rfl) ?_
          refine FL.nil ?_
          refine FW.ret ?_
          obtain rfl := Option.some.inj hp
          exact ⟨.inr rfl, res1 rfl rfl ⟨rfl, S310.back⟩⟩
         ·
          refine FW.condF rfl c313 ?_
          refine FW.skip (FW.seq (FW.region ?_))
          refine FL.v (E.load k288 (run_loadA Tryz.isAgg24 Tryz.sizeOf24 ((f303.mono sgI).now S310.sl) rfl)) ?_
          obtain ⟨r314, hr315, hp⟩ := bnd hp
          refine FL.call rfl rfl rfl (E.call Tryz.call11 (A1 rfl)) (w_laws_toCnf S310.sl a0 v0_1 (p0_1.mono S296.inc) hr315) ?_
          rintro e w317 ⟨H316, v320, rfl, r319, ⟨c323, ns322⟩⟩
          refine ⟨_, rfl, ?_⟩
          have h321 := ns322.rsl
          have nv324 : New H294 c323 := New.of_up S310.sl (fun b hb => ns322.dom b (.inr hb))
          have nv325 : New H294 [v320] := New.of_up S310.sl h321.dom
          have S318 := S310.call r319
          have z326 := r319.bel.size
          have h321 := h321.mono (sg_of S318.sl)
          have ns322 := ns322.mono (sg_of S318.sl)
          refine FL.v (E.move k287) ?_
          obtain ⟨r327, hr328, hp⟩ := bnd hp
          refine FL.call rfl rfl rfl (E.call Tryz.call12 (A1 rfl)) (w_laws_toSpaceStepS S318.sl v1 a1 (p1.mono (S296.inc.tr r319.inc)) hr328) ?_
          rintro e w330 ⟨H329, v333, n334, cs335, rfl, r332, els336⟩
          refine ⟨_, rfl, ?_⟩
          obtain ⟨H337, r338, i339, h340, nv341⟩ := r332.sealRowU (i := 0) (l' := []) rfl els336 (by decide) rfl
          have S331 := S318.call r338.run
          have z342 := r338.run.bel.size
          have h340 := h340.mono (sg_of S331.sl)
          obtain ⟨r343, hr344, hp⟩ := bnd hp
          refine FL.call rfl rfl rfl (E.call Tryz.call13 (A2 rfl rfl)) (w_impl_ClausesOfRun S331.sl r314 v320 (h321.mono (sgI.tr r338.run.inc)) v333 r327 (h340.mono sgI) hr344) ?_
          rintro e w346 ⟨H345, v349, n350, cs351, rfl, r348, els352, nd353⟩
          refine ⟨_, rfl, ?_⟩
          have nv354 : New H337 cs351 := New.of_up S331.sl els352.dom
          obtain ⟨H355, r356, i357, ns360, nv359⟩ := r348.sealRowN (i := 0) (l' := []) rfl els352 nd353 (by decide) rfl
          have h358 := ns360.rsl
          have S347 := S331.call r356.run
          have z361 := r356.run.bel.size
          have h358 := h358.mono (sg_of S347.sl)
          have ns360 := ns360.mono (sg_of S347.sl)
          refine FL.v (E.move (v := Value.tuple #[v349, Value.bool r343.2]) rfl) ?_
          refine FL.v (E.extract (i := 0) rfl rfl) ?_
          refine FL.v (E.extract (i := 1) rfl rfl) ?_
          refine FL.v (E.assign (v := v349) rfl) ?_
          refine FL.v (E.assign (v := Value.bool r343.2) rfl) ?_
          refine FL.nil (FW.seq (FW.seq (FW.region ?_)))
          refine FL.v (E.move (v := v349) rfl) ?_
          refine FL.v (E.move k289) ?_
          obtain ⟨r362, hr363, hp⟩ := bnd hp
          refine FL.call rfl rfl rfl (E.call Tryz.call14 (A2 rfl rfl)) (w_laws_eqIntSS S347.sl v349 r343.1 (h358.mono sgI) v76 r70.1 (f304.mono (sgI.tr ((r319.inc.tr r338.run.inc).tr r356.run.inc))) hr363) ?_
          rintro e w364 ⟨rfl, r365⟩
          refine ⟨_, rfl, ?_⟩
          have S366 := S347.call r365
          have z367 := r365.bel.size
          refine FL.v (E.not rfl) ?_
          refine FL.v (E.move (v := Value.bool (!r362)) rfl) ?_
          refine FL.cut 4 (fun f w => ∃ H : GH, St Ha wa H w [] ∧ Inc H355 H ∧ f 10 = v136 ∧ f 13 = Value.int .i64 ((PF.laws_markIntSS r130.1 1).2) ∧ f 110 = Value.bool (bif (!r362) then true else (!(r343.2 == r70.2)))) ?_ ?_
          ·
           rcases bcase (!r362) with c373 | c373
           ·
            refine FL.skip (wF_no rfl rfl rfl c373) rfl ?_
            refine FL.skip (wF_no rfl rfl rfl c373) rfl ?_
            refine FL.skip (wF_no rfl rfl rfl c373) rfl ?_
            refine FL.v (E.pickT rfl c373 rfl) ?_
            exact FL.nil ⟨rfl, _, S366, (Inc.rfl _), k291, rfl, (congrArg Value.bool (bifT c373).symm)⟩
           ·
            refine FL.val (wF_yes rfl rfl rfl c373) rfl rfl (E.move (v := Value.bool r343.2) rfl) ?_
            refine FL.val (wF_yes rfl rfl rfl c373) rfl rfl (E.move k290) ?_
            refine FL.val (wF_yes rfl rfl rfl c373) rfl rfl (E.neqB Tryz.runUnderlying4 rfl rfl) ?_
            refine FL.v (E.pickF rfl c373 rfl) ?_
            exact FL.nil ⟨rfl, _, S366, (Inc.rfl _), k291, rfl, (congrArg Value.bool (bifF c373).symm)⟩
          rintro f372 w371 ⟨H368, S369, i370, k374, k375, k376⟩
          refine FL.nil ?_
          rcases ifB hp with ⟨c377, hp⟩ | ⟨c377, hp⟩
          ·
           refine FW.condT k376 c377 ?_
           refine FW.seq (FW.region ?_)
           refine FL.v (E.assign (v := Value.bool false) rfl) ?_
           refine FL.nil ?_
           refine FW.ret ?_
           obtain rfl := Option.some.inj hp
           exact ⟨.inr rfl, res1 rfl rfl ⟨rfl, S369.back⟩⟩
          ·
           refine FW.condF k376 c377 ?_
           refine FW.skip (FW.seq (FW.region ?_))
           refine FL.v (E.assign (v := Value.int .i64 1) rfl) ?_
           refine FL.nil (FW.seq (FW.region ?_))
           refine FL.v (E.move k374) ?_
           refine FL.v (E.move (v := Value.int .i64 1) rfl) ?_
           obtain ⟨r378, hr379, hp⟩ := bnd hp
           refine FL.call rfl rfl rfl (E.call Tryz.call20 (A2 rfl rfl)) (w_laws_heldIntSS S369.sl v136 ((PF.laws_markIntSS r130.1 1).1) (h297.mono (sgI.tr (((r319.inc.tr r338.run.inc).tr r356.run.inc).tr i370))) 1 hr379) ?_
           rintro e w380 ⟨rfl, r381⟩
           refine ⟨_, rfl, ?_⟩
           have S382 := S369.call r381
           have z383 := r381.bel.size
           refine FL.v (E.assign (v := Value.int .i64 r378) rfl) ?_
           refine FL.nil (FW.seq (FW.seq (FW.region ?_)))
           refine FL.v (E.move (v := Value.int .i64 r378) rfl) ?_
           refine FL.v (E.lss rfl rfl) ?_
           refine FL.nil ?_
           rcases ifB hp with ⟨c384, hp⟩ | ⟨c384, hp⟩
           ·
            refine FW.condT rfl c384 ?_
            refine FW.seq (FW.region ?_)
            refine FL.v (E.assign (v := Value.bool false) rfl) ?_
            refine FL.nil ?_
            refine FW.ret ?_
            obtain rfl := Option.some.inj hp
            exact ⟨.inr rfl, res1 rfl rfl ⟨rfl, S382.back⟩⟩
           ·
            refine FW.condF rfl c384 ?_
            refine FW.skip (FW.seq (FW.seq (FW.region ?_)))
            refine FL.v (E.move (v := Value.int .i64 r378) rfl) ?_
            refine FL.v (E.move k375) ?_
            refine FL.v (E.neq rfl rfl) ?_
            refine FL.nil ?_
            rcases ifB hp with ⟨c385, hp⟩ | ⟨c385, hp⟩
            ·
             refine FW.condT rfl c385 ?_
             refine FW.seq (FW.region ?_)
             refine FL.v (E.assign (v := Value.bool false) rfl) ?_
             refine FL.nil ?_
             refine FW.ret ?_
             obtain rfl := Option.some.inj hp
             exact ⟨.inr rfl, res1 rfl rfl ⟨rfl, S382.back⟩⟩
            ·
             refine FW.condF rfl c385 ?_
             refine FW.skip (FW.seq (FW.region ?_))
             refine FL.v (E.assign (v := Value.bool true) rfl) ?_
             refine FL.nil ?_
             refine FW.ret ?_
             obtain rfl := Option.some.inj hp
             exact ⟨.inr rfl, res1 rfl rfl ⟨rfl, S382.back⟩⟩

end Go.Proofs
