/- Part of the walks and plain laws behind the claim: it proves helpers, under no condition beyond their own. -/
import Derived.Test.YtbbdfaegfiepeaaGreatAsWk1
set_option linter.unusedVariables false
set_option maxRecDepth 100000
namespace Go.Proofs
open Go.Mr Go.Pu Go.PF Go.RowKit

@[reducible] def p_slices_Grow_int_int (Ha : GH) (wa : World) (r : List Int) : Ending → World → Prop :=
  fun e w' => ∃ H' : GH, ∃ v0 : Value, ∃ n0 : Nat, ∃ c0 : List Value, e = .returned (v0) ∧ St Ha wa H' w' [.row 3 1 v0 n0 c0] ∧ Els (up wa.heap.size H') eI 1 c0 r
theorem w_slices_Grow_int_int {Ha : GH} {wa : World} (hs : Sl Ha wa) (a1 : Int) {r : List Int} (hp : PF.slices_Grow_int_int a1 = some r) :
    Calls Tryz.prog 253 #[.slice none 0 0, .int .i64 a1] wa (p_slices_Grow_int_int Ha wa r) := by
  unfold PF.slices_Grow_int_int at hp
  split at hp
  · rename_i h
    cases hp
    refine (growNil (En := eI) te76 hs h.1 h.2 (fun w => Any8.slices_Grow_room (P := Tryz.prog) Tryz.grow253 none 0 0 0 w (Nat.le_refl _) (by decide) (by decide) (by decide))
      (fun n w h0 hl => ?_)).mono ?_
    · have h := Any8.slices_Grow_grow (P := Tryz.prog) Tryz.grow253 _ _ Tryz.type3 rfl (by decide) none 0 0 n [] w (Nat.le_refl _) (by omega) ?_ (by unfold lim at hl; omega) (by simp) (fun _ => rfl) (by simp)
      · refine h.mono ?_
        rintro _ _ ⟨rfl, rfl⟩
        refine ⟨by simp; rfl, ?_⟩
        simp
        rfl
      · rw [Nat.zero_add]; refine Nat.le_trans (Nat.mul_le_mul hl (show _ ≤ 4096 by decide)) (by decide)
    · rintro e w' ⟨v, n, c, rfl, h1, h2⟩
      exact ⟨_, _, _, _, rfl, h1, h2 _⟩
  · cases hp

@[reducible] def p_slices_Concat_int_int (Ha : GH) (wa : World) (r : (List Int)) : Ending → World → Prop :=
  fun e w' => ∃ H' : GH, ∃ v0 : Value, ∃ n0 : Nat, ∃ c0 : List Value, e = .returned (v0) ∧ St Ha wa H' w' [.row 3 1 v0 n0 c0] ∧ Els (up wa.heap.size H') eI 1 c0 r
theorem w_slices_Concat_int_int {Ha : GH} {wa : World} (hs : Sl Ha wa) (v0 : Value) (a0 : List (List Int)) (p0 : RSl Ha (eL eI 1) 1 v0 a0) {r : (List Int)} (hp : (PF.slices_Concat_int_int a0) = some r) :
    Calls Tryz.prog 209 #[v0] wa (p_slices_Concat_int_int Ha wa r) := by
  unfold PF.slices_Concat_int_int at hp
  have S0 := St.init hs
  refine calls_go (N := 36) (args := [v0]) Tryz.func209 rfl rfl rfl ?_
  refine FW.seq (FW.region ?_)
  refine FL.v (E.assign (v := Value.slice none 0 0) rfl) ?_
  refine FL.nil (FW.seq (FW.region ?_))
  refine FL.v (E.assign (v := Value.int .i64 0) rfl) ?_
  refine FL.nil (FW.seq (FW.seq (FW.region ?_)))
  refine FL.v (E.move (v := v0) rfl) ?_
  refine FL.v (E.lenP te22 rfl p0) ?_
  refine FL.v (E.move (v := Value.int .i64 0) rfl) ?_
  refine FL.nil ?_
  obtain ⟨q22, hq, hp⟩ := bndR hp
  refine FW.block ?_
  refine FW.mono (FW.forL (S := Int) (X := Empty) (fun (i22 : Nat) (s22 : Int) f w => ∃ H : GH, St Ha wa H w [] ∧ Inc Ha H ∧ f 11 = Value.int .i64 ((i22 : Nat) : Int) ∧ f 0 = v0 ∧ f 3 = Value.int .i64 s22 ∧ f 9 = v0 ∧ f 10 = Value.int .i64 (len a0)) (fun (q : Rs Int Empty) e f w => match q with | .go s22 => e = Exit.exit 0 ∧ (∃ H : GH, St Ha wa H w [] ∧ Inc Ha H ∧ f 0 = v0 ∧ f 3 = Value.int .i64 s22) | .rt x => x.elim) hq ⟨_, S0, (Inc.rfl _), rfl, rfl, rfl, rfl, rfl⟩ ?_ ?_) ?_
  ·
    clear hp hq
    rintro i22 y21 s22 f46 w45 ⟨H42, S43, i44, k47, k48, k49, k50, k51⟩ hx22 o61 hp
    refine FW.seq (FW.region ?_)
    refine FL.v (E.lssT k47 k51 (lss_len hx22)) ?_
    refine FL.nil (FW.seq ?_)
    refine FW.condT rfl rfl ?_
    refine FW.skip (FW.seq (FW.block (FW.seq (FW.region ?_))))
    obtain ⟨p52, cs53, pt54, l55, at56, rel57⟩ := p0.at (ix_nat hx22)
    obtain ⟨v58, rfl, h59⟩ := eL_open rel57
    refine FL.v (E.indexAddr te22 k50 k47 pt54) ?_
    refine FL.v (E.load rfl (run_load0 Tryz.isAgg76 ((at56.mono i44).now S43.sl) rfl)) ?_
    refine FL.v (E.assign (v := v58) rfl) ?_
    refine FL.nil (FW.seq (FW.region ?_))
    refine FL.v (E.move k49) ?_
    refine FL.v (E.move (v := v58) rfl) ?_
    refine FL.v (E.lenP te76 rfl h59) ?_
    refine FL.v (E.add rfl rfl) ?_
    refine FL.v (E.assign (v := Value.int .i64 (wr (s22 + (len y21)))) rfl) ?_
    refine FL.nil (FW.seq (FW.region ?_))
    refine FL.v (E.move (v := Value.int .i64 (wr (s22 + (len y21)))) rfl) ?_
    refine FL.v (E.lss rfl rfl) ?_
    refine FL.nil ?_
    rcases ifB hp with ⟨c60, hp⟩ | ⟨c60, hp⟩
    ·
      refine FW.condT rfl c60 ?_
      cases hp
    ·
      refine FW.condF rfl c60 ?_
      refine FW.skip (FW.region ?_)
      refine FL.v (E.add k47 rfl) ?_
      refine FL.v (E.move (v := Value.int .i64 (wr (((i22 : Nat) : Int) + 1))) rfl) ?_
      refine FL.nil ?_
      obtain rfl := Option.some.inj hp
      exact ⟨rfl, ⟨_, S43, i44, (nat_succ rfl (lt_of_get hx22) (p0.mono i44).le), k48, rfl, k50, k51⟩⟩
  ·
    clear hp hq
    rintro s22 f159 w158 ⟨H155, S156, i157, k160, k161, k162, k163, k164⟩
    refine FW.seq (FW.region ?_)
    refine FL.v (E.lss k160 k164) ?_
    refine FL.nil (FW.seq ?_)
    refine FW.condF rfl dlt_len ?_
    refine FW.exit ?_
    exact ⟨nofun, rfl, ⟨_, S156, i157, k161, k162⟩⟩
  ·
    clear hq
    intro e f66 w65 hD
    rcases q22 with s22 | x22
    ·
      obtain ⟨rfl, hD⟩ := hD
      obtain ⟨H62, S63, i64, k67, k68⟩ := hD
      replace hp := el_go hp
      refine FW.seq (FW.region ?_)
      refine FL.v (E.move k68) ?_
      obtain ⟨r69, hr70, hp⟩ := bnd hp
      refine FL.call rfl rfl rfl (E.call Tryz.call253 (A2 rfl rfl)) (w_slices_Grow_int_int S63.sl s22 hr70) ?_
      rintro e w72 ⟨H71, v75, n76, cs77, rfl, r74, els78⟩
      refine ⟨_, rfl, ?_⟩
      have els78 := els78.mono (up_le S63.size)
      have S73 := S63.join (l' := [.row 3 1 v75 n76 cs77]) r74 rfl
      refine FL.v (E.assign (v := v75) rfl) ?_
      refine FL.nil (FW.seq (FW.seq (FW.region ?_)))
      refine FL.v (E.move k67) ?_
      refine FL.v (E.lenP te22 rfl p0) ?_
      refine FL.v (E.move (v := Value.int .i64 0) rfl) ?_
      refine FL.nil ?_
      obtain ⟨q80, hq, hp⟩ := bndR hp
      refine FW.block ?_
      refine FW.mono (FW.forL (S := (List Int)) (X := Empty) (fun (i80 : Nat) (s80 : (List Int)) f w => ∃ H : GH, ∃ v81 : Value, ∃ n82 : Nat, ∃ cs83 : List Value, St Ha wa H w [.row 3 1 v81 n82 cs83] ∧ Inc H71 H ∧ Els (up wa.heap.size H) eI 1 cs83 s80 ∧ f 27 = Value.int .i64 ((i80 : Nat) : Int) ∧ f 6 = v81 ∧ f 25 = v0 ∧ f 26 = Value.int .i64 (len a0)) (fun (q : Rs (List Int) Empty) e f w => match q with | .go s80 => e = Exit.exit 2 ∧ (∃ H : GH, ∃ v81 : Value, ∃ n82 : Nat, ∃ cs83 : List Value, St Ha wa H w [.row 3 1 v81 n82 cs83] ∧ Inc H71 H ∧ Els (up wa.heap.size H) eI 1 cs83 s80 ∧ f 6 = v81) | .rt x => x.elim) hq ⟨_, _, _, _, S73, (Inc.rfl _), els78, rfl, rfl, rfl, rfl⟩ ?_ ?_) ?_
      ·
        clear hp hq
        rintro i80 y79 s80 f116 w115 ⟨H112, v81, n82, cs83, S113, i114, els84, k117, k118, k119, k120⟩ hx80 o139 hp
        refine FW.seq (FW.region ?_)
        refine FL.v (E.lssT k117 k120 (lss_len hx80)) ?_
        refine FL.nil (FW.seq ?_)
        refine FW.condT rfl rfl ?_
        refine FW.skip (FW.seq (FW.block (FW.seq (FW.region ?_))))
        obtain ⟨p121, cs122, pt123, l124, at125, rel126⟩ := p0.at (ix_nat hx80)
        obtain ⟨v127, rfl, h128⟩ := eL_open rel126
        refine FL.v (E.indexAddr te22 k119 k117 pt123) ?_
        refine FL.v (E.load rfl (run_load0 Tryz.isAgg76 ((at125.mono ((i64.tr r74.run.inc).tr i114)).now S113.sl) rfl)) ?_
        refine FL.v (E.assign (v := v127) rfl) ?_
        refine FL.nil (FW.region ?_)
        refine FL.v (E.move k118) ?_
        refine FL.v (E.move (v := v127) rfl) ?_
        obtain ⟨xs129, hz130, hp⟩ := bnd hp
        obtain ⟨v131, w134, n132, cs133, run135, S136, els137⟩ := S113.appendP (P := Tryz.prog) (Inc.rfl _) te76 (i := 0) rfl (els84.mono upI) (h128.mono ((i64.tr r74.run.inc).tr i114)) hz130
        have S136 : St Ha wa H112 w134 [.row 3 1 v131 n132 cs133] := S136
        have els137 : Els (up wa.heap.size H112) eI 1 cs133 xs129 := els137.any (fun _ _ _ _ h => h)
        refine FL.v (E.append rfl rfl run135) ?_
        refine FL.v (E.assign (v := v131) rfl) ?_
        refine FL.nil (FW.region ?_)
        refine FL.v (E.add k117 rfl) ?_
        refine FL.v (E.move (v := Value.int .i64 (wr (((i80 : Nat) : Int) + 1))) rfl) ?_
        refine FL.nil ?_
        obtain rfl := Option.some.inj hp
        exact ⟨rfl, ⟨_, _, _, _, S136, i114, els137, (nat_succ rfl (lt_of_get hx80) (p0.mono ((i64.tr r74.run.inc).tr i114)).le), rfl, k119, k120⟩⟩
      ·
        clear hp hq
        rintro s80 f150 w149 ⟨H146, v81, n82, cs83, S147, i148, els84, k151, k152, k153, k154⟩
        refine FW.seq (FW.region ?_)
        refine FL.v (E.lss k151 k154) ?_
        refine FL.nil (FW.seq ?_)
        refine FW.condF rfl dlt_len ?_
        refine FW.exit ?_
        exact ⟨nofun, rfl, ⟨_, _, _, _, S147, i148, els84, k152⟩⟩
      ·
        clear hq
        intro e f144 w143 hD
        rcases q80 with s80 | x80
        ·
          obtain ⟨rfl, hD⟩ := hD
          obtain ⟨H140, v81, n82, cs83, S141, i142, els84, k145⟩ := hD
          replace hp := el_go hp
          refine FW.seq (FW.region ?_)
          refine FL.v (E.move k145) ?_
          refine FL.v (E.assign (v := v81) rfl) ?_
          refine FL.nil ?_
          refine FW.ret ?_
          obtain rfl := Option.some.inj hp
          exact ⟨.inr rfl, res1 rfl rfl ⟨_, _, _, _, rfl, S141, els84⟩⟩
        · exact x80.elim
    · exact x22.elim

@[reducible] def p_slices_SortFunc_int_int (H0 : GH) (w0 : World) (Ha : GH) (L : List MO) (v0 : Value) (n0 : Nat) (r : (List Int)) : Ending → World → Prop :=
 fun e w' => ∃ H' : GH, ∃ c0k : List Value, e = .returned (Value.tuple #[]) ∧ (St H0 w0 H' w' (.row 3 1 v0 n0 c0k :: L) ∧ Inc Ha H') ∧ Els (up w0.heap.size H') eI 1 c0k r
theorem w_slices_SortFunc_int_int {H0 Ha : GH} {w0 wa : World} {L : List MO} {v0 : Value} {n0 : Nat} {k0 : List Value} (S0 : St H0 w0 Ha wa (.row 3 1 v0 n0 k0 :: L)) (a0 : List Int) (p0 : Els (up w0.heap.size Ha) eI 1 k0 a0) (v1 : Value) (a1 : Int → Int → Option Int) (p1 : Fn_I_I_to_I Tryz.prog Ha v1 a1) {r : (List Int)} (hp : (PF.slices_SortFunc_int_int a0 a1) = some r) :
  Calls Tryz.prog 252 #[v0, v1] wa (p_slices_SortFunc_int_int H0 w0 Ha L v0 n0 r) := by
 refine (St.sortF (l := .row 3 1 v0 n0 k0 :: L) (i := 0) upI S0 rfl p0 (fun H2 w2 hi hs2 c x hc d y hd r hr => by cases eI_open hc; cases eI_open hd; exact p1 H2 w2 hi hs2 x y r hr) (fun p cap fv w => AnyF.slices_SortFunc_none (P := Tryz.prog) (ρ := Tryz.sort252_ren) { Tryz.sort252 with } p cap fv w) (fun α _ enc h1 cf hO g cb blk off cap d w eg hc hH hb hs => Any.slices_SortFunc Tryz.sort252 enc h1 cf hO g cb blk off cap d w eg hc hH hb hs) hp).mono ?_
 rintro e w' ⟨rfl, c', h1, h2⟩
 exact ⟨_, _, rfl, ⟨h1, Inc.rfl _⟩, h2⟩

theorem w_cmp_isNaN_int {Ha : GH} {wa : World} (hs : Sl Ha wa) (a0 : Int) :
  Calls Tryz.prog 204 #[Value.int .i64 a0] wa (Sc Ha wa (Value.bool (PF.cmp_isNaN_int a0))) := by
 obtain ⟨r, hp⟩ : ∃ r, (PF.cmp_isNaN_int a0) = r := ⟨_, rfl⟩
 rw [hp]
 unfold PF.cmp_isNaN_int at hp
 have S0 := St.init hs
 refine calls_go (N := 6) (args := [Value.int .i64 a0]) Tryz.func204 rfl rfl rfl ?_
 refine FW.seq (FW.region ?_)
 refine FL.v (E.assign (v := Value.bool false) rfl) ?_
 refine FL.nil (FW.seq (FW.region ?_))
 refine FL.v (E.move (v := Value.int .i64 a0) rfl) ?_
 refine FL.v (E.move (v := Value.int .i64 a0) rfl) ?_
 refine FL.v (E.neq rfl rfl) ?_
 refine FL.v (E.assign (v := Value.bool (!(a0 == a0))) rfl) ?_
 refine FL.nil ?_
 refine FW.ret ?_
 obtain rfl := hp
 exact ⟨.inr rfl, res1 rfl rfl ⟨rfl, S0.back⟩⟩

theorem w_cmp_Compare_int {Ha : GH} {wa : World} (hs : Sl Ha wa) (a0 : Int) (a1 : Int) :
  Calls Tryz.prog 136 #[Value.int .i64 a0, Value.int .i64 a1] wa (Sc Ha wa (Value.int .i64 (PF.cmp_Compare_int a0 a1))) := by
 obtain ⟨r, hp⟩ : ∃ r, (PF.cmp_Compare_int a0 a1) = r := ⟨_, rfl⟩
 rw [hp]
 unfold PF.cmp_Compare_int at hp
 have S0 := St.init hs
 refine calls_go (N := 20) (args := [Value.int .i64 a0, Value.int .i64 a1]) Tryz.func136 rfl rfl rfl ?_
 refine FW.seq (FW.region ?_)
 refine FL.v (E.assign (v := Value.int .i64 0) rfl) ?_
 refine FL.nil (FW.seq (FW.region ?_))
 refine FL.v (E.move (v := Value.int .i64 a0) rfl) ?_
 refine FL.call rfl rfl rfl (E.call Tryz.call204 (A1 rfl)) (w_cmp_isNaN_int S0.sl a0) ?_
 rintro e w21 ⟨rfl, r22⟩
 refine ⟨_, rfl, ?_⟩
 have S23 := S0.call r22
 refine FL.v (E.assign (v := Value.bool (PF.cmp_isNaN_int a0)) rfl) ?_
 refine FL.nil (FW.seq (FW.region ?_))
 refine FL.v (E.move (v := Value.int .i64 a1) rfl) ?_
 refine FL.call rfl rfl rfl (E.call Tryz.call204 (A1 rfl)) (w_cmp_isNaN_int S23.sl a1) ?_
 rintro e w24 ⟨rfl, r25⟩
 refine ⟨_, rfl, ?_⟩
 have S26 := S23.call r25
 refine FL.v (E.assign (v := Value.bool (PF.cmp_isNaN_int a1)) rfl) ?_
 refine FL.nil (FW.seq (FW.seq (FW.region ?_)))
 refine FL.v (E.move (v := Value.bool (PF.cmp_isNaN_int a0)) rfl) ?_
 refine FL.nil ?_
 rcases ifT hp with ⟨c27, hp⟩ | ⟨c27, hp⟩
 ·
  refine FW.condT rfl c27 ?_
  refine FW.seq (FW.seq (FW.region ?_))
  refine FL.v (E.move (v := Value.bool (PF.cmp_isNaN_int a1)) rfl) ?_
  refine FL.nil ?_
  rcases ifT hp with ⟨c28, hp⟩ | ⟨c28, hp⟩
  ·
   refine FW.condT rfl c28 ?_
   refine FW.seq (FW.region ?_)
   refine FL.v (E.assign (v := Value.int .i64 0) rfl) ?_
   refine FL.nil ?_
   refine FW.ret ?_
   obtain rfl := hp
   exact ⟨.inr rfl, res1 rfl rfl ⟨rfl, S26.back⟩⟩
  ·
   refine FW.condF rfl c28 ?_
   refine FW.skip (FW.seq (FW.region ?_))
   refine FL.v (E.assign (v := Value.int .i64 (-1)) rfl) ?_
   refine FL.nil ?_
   refine FW.ret ?_
   obtain rfl := hp
   exact ⟨.inr rfl, res1 rfl rfl ⟨rfl, S26.back⟩⟩
 ·
  refine FW.condF rfl c27 ?_
  refine FW.skip (FW.seq (FW.seq (FW.region ?_)))
  refine FL.v (E.move (v := Value.bool (PF.cmp_isNaN_int a1)) rfl) ?_
  refine FL.nil ?_
  rcases ifT hp with ⟨c29, hp⟩ | ⟨c29, hp⟩
  ·
   refine FW.condT rfl c29 ?_
   refine FW.seq (FW.region ?_)
   refine FL.v (E.assign (v := Value.int .i64 1) rfl) ?_
   refine FL.nil ?_
   refine FW.ret ?_
   obtain rfl := hp
   exact ⟨.inr rfl, res1 rfl rfl ⟨rfl, S26.back⟩⟩
  ·
   refine FW.condF rfl c29 ?_
   refine FW.skip (FW.seq (FW.seq (FW.region ?_)))
   refine FL.v (E.move (v := Value.int .i64 a0) rfl) ?_
   refine FL.v (E.move (v := Value.int .i64 a1) rfl) ?_
   refine FL.v (E.lss rfl rfl) ?_
   refine FL.nil ?_
   rcases ifT hp with ⟨c30, hp⟩ | ⟨c30, hp⟩
   ·
    refine FW.condT rfl c30 ?_
    refine FW.seq (FW.region ?_)
    refine FL.v (E.assign (v := Value.int .i64 (-1)) rfl) ?_
    refine FL.nil ?_
    refine FW.ret ?_
    obtain rfl := hp
    exact ⟨.inr rfl, res1 rfl rfl ⟨rfl, S26.back⟩⟩
   ·
    refine FW.condF rfl c30 ?_
    refine FW.skip (FW.seq (FW.seq (FW.region ?_)))
    refine FL.v (E.move (v := Value.int .i64 a0) rfl) ?_
    refine FL.v (E.move (v := Value.int .i64 a1) rfl) ?_
    refine FL.v (E.gtr rfl rfl) ?_
    refine FL.nil ?_
    rcases ifT hp with ⟨c31, hp⟩ | ⟨c31, hp⟩
    ·
     refine FW.condT rfl c31 ?_
     refine FW.seq (FW.region ?_)
     refine FL.v (E.assign (v := Value.int .i64 1) rfl) ?_
     refine FL.nil ?_
     refine FW.ret ?_
     obtain rfl := hp
     exact ⟨.inr rfl, res1 rfl rfl ⟨rfl, S26.back⟩⟩
    ·
     refine FW.condF rfl c31 ?_
     refine FW.skip (FW.seq (FW.region ?_))
     refine FL.v (E.assign (v := Value.int .i64 0) rfl) ?_
     refine FL.nil ?_
     refine FW.ret ?_
     obtain rfl := hp
     exact ⟨.inr rfl, res1 rfl rfl ⟨rfl, S26.back⟩⟩

theorem w_cmp_Or_int {Ha : GH} {wa : World} (hs : Sl Ha wa) (v0 : Value) (a0 : List Int) (p0 : RSl Ha eI 1 v0 a0) {r : Int} (hp : (PF.cmp_Or_int a0) = some r) :
  Calls Tryz.prog 135 #[v0] wa (Sc Ha wa (Value.int .i64 r)) := by
 unfold PF.cmp_Or_int at hp
 have S0 := St.init hs
 refine calls_go (N := 18) (args := [v0]) Tryz.func135 rfl rfl rfl ?_
 refine FW.seq (FW.region ?_)
 refine FL.v (E.assign (v := Value.int .i64 0) rfl) ?_
 refine FL.nil (FW.seq (FW.region ?_))
 refine FL.v (E.assign (v := Value.int .i64 0) rfl) ?_
 refine FL.nil (FW.seq (FW.seq (FW.region ?_)))
 refine FL.v (E.move (v := v0) rfl) ?_
 refine FL.v (E.lenP te76 rfl p0) ?_
 refine FL.v (E.move (v := Value.int .i64 0) rfl) ?_
 refine FL.nil ?_
 obtain ⟨q22, hq, hp⟩ := bndR hp
 refine FW.block ?_
 refine FW.mono (FW.forL (S := Unit) (X := Int) (fun (i22 : Nat) (s22 : Unit) f w => ∃ H : GH, St Ha wa H w [] ∧ Inc Ha H ∧ f 8 = Value.int .i64 ((i22 : Nat) : Int) ∧ f 3 = Value.int .i64 0 ∧ f 6 = v0 ∧ f 7 = Value.int .i64 (len a0)) (fun q e f w => match q with | .go s22 => e = Exit.exit 0 ∧ (∃ H : GH, St Ha wa H w [] ∧ Inc Ha H ∧ f 3 = Value.int .i64 0) | .rt x => ((e = Exit.ret) ∧ (fun e f w => (e = Exit.normal ∨ e = Exit.ret) ∧ ∀ a, Fr (δ := []) 18 a f → ∃ v, (results Tryz.f135 a.tmps).run Tryz.prog w = .ok v w ∧ (Sc Ha wa (Value.int .i64 x)) (.returned v) w) e f w)) hq ⟨_, S0, (Inc.rfl _), rfl, rfl, rfl, rfl⟩ ?_ ?_) ?_
 ·
  clear hp hq
  rintro i22 y21 s22 f43 w42 ⟨H39, S40, i41, k44, k45, k46, k47⟩ hx22 o55 hp
  refine FW.seq (FW.region ?_)
  refine FL.v (E.lssT k44 k47 (lss_len hx22)) ?_
  refine FL.nil (FW.seq ?_)
  refine FW.condT rfl rfl ?_
  refine FW.skip (FW.seq (FW.block (FW.seq (FW.region ?_))))
  obtain ⟨p48, cs49, pt50, l51, at52, rel53⟩ := p0.at (ix_nat hx22)
  obtain rfl := eI_open rel53
  refine FL.v (E.indexAddr te76 k46 k44 pt50) ?_
  refine FL.v (E.load rfl (run_load0 Tryz.isAgg3 ((at52.mono i41).now S40.sl) rfl)) ?_
  refine FL.v (E.assign (v := Value.int .i64 y21) rfl) ?_
  refine FL.nil (FW.seq (FW.region ?_))
  refine FL.v (E.move (v := Value.int .i64 y21) rfl) ?_
  refine FL.v (E.move k45) ?_
  refine FL.v (E.neq rfl rfl) ?_
  refine FL.nil ?_
  rcases ifB hp with ⟨c54, hp⟩ | ⟨c54, hp⟩
  ·
   refine FW.condT rfl c54 ?_
   refine FW.seq (FW.region ?_)
   refine FL.v (E.move (v := Value.int .i64 y21) rfl) ?_
   refine FL.v (E.assign (v := Value.int .i64 y21) rfl) ?_
   refine FL.nil ?_
   refine FW.ret ?_
   obtain rfl := Option.some.inj hp
   exact ⟨nofun, rfl, ⟨.inr rfl, res1 rfl rfl ⟨rfl, S40.back⟩⟩⟩
  ·
   refine FW.condF rfl c54 ?_
   refine FW.skip (FW.region ?_)
   refine FL.v (E.add k44 rfl) ?_
   refine FL.v (E.move (v := Value.int .i64 (wr (((i22 : Nat) : Int) + 1))) rfl) ?_
   refine FL.nil ?_
   obtain rfl := Option.some.inj hp
   exact ⟨rfl, ⟨_, S40, i41, (nat_succ rfl (lt_of_get hx22) (p0.mono i41).le), k45, k46, k47⟩⟩
 ·
  clear hp hq
  rintro s22 f66 w65 ⟨H62, S63, i64, k67, k68, k69, k70⟩
  refine FW.seq (FW.region ?_)
  refine FL.v (E.lss k67 k70) ?_
  refine FL.nil (FW.seq ?_)
  refine FW.condF rfl dlt_len ?_
  refine FW.exit ?_
  exact ⟨nofun, rfl, ⟨_, S63, i64, k68⟩⟩
 ·
  clear hq
  intro e f60 w59 hD
  rcases q22 with s22 | x22
  ·
   obtain ⟨rfl, hD⟩ := hD
   obtain ⟨H56, S57, i58, k61⟩ := hD
   replace hp := el_go hp
   refine FW.seq (FW.region ?_)
   refine FL.v (E.move k61) ?_
   refine FL.v (E.assign (v := Value.int .i64 0) rfl) ?_
   refine FL.nil ?_
   refine FW.ret ?_
   obtain rfl := Option.some.inj hp
   exact ⟨.inr rfl, res1 rfl rfl ⟨rfl, S57.back⟩⟩
  ·
   obtain ⟨he, hL⟩ := hD
   replace hp := el_rt hp
   obtain rfl := Option.some.inj hp
   subst he
   exact hL

theorem w_impl_compareLiterals {Ha : GH} {wa : World} (hs : Sl Ha wa) (a0 : Int) (a1 : Int) {r : Int} (hp : (PF.impl_compareLiterals a0 a1) = some r) :
  Calls Tryz.prog 138 #[Value.int .i64 a0, Value.int .i64 a1] wa (Sc Ha wa (Value.int .i64 r)) := by
 unfold PF.impl_compareLiterals at hp
 have S0 := St.init hs
 refine calls_go (N := 15) (args := [Value.int .i64 a0, Value.int .i64 a1]) Tryz.func138 rfl rfl rfl ?_
 refine FW.seq (FW.region ?_)
 refine FL.v (E.assign (v := Value.int .i64 0) rfl) ?_
 refine FL.nil (FW.seq (FW.region ?_))
 refine FL.v (E.move (v := Value.int .i64 a0) rfl) ?_
 refine FL.call rfl rfl rfl (E.call Tryz.call205 (A1 rfl)) (w_impl_abs S0.sl a0) ?_
 rintro e w21 ⟨rfl, r22⟩
 refine ⟨_, rfl, ?_⟩
 have S23 := S0.call r22
 refine FL.v (E.move (v := Value.int .i64 a1) rfl) ?_
 refine FL.call rfl rfl rfl (E.call Tryz.call205 (A1 rfl)) (w_impl_abs S23.sl a1) ?_
 rintro e w24 ⟨rfl, r25⟩
 refine ⟨_, rfl, ?_⟩
 have S26 := S23.call r25
 refine FL.call rfl rfl rfl (E.call Tryz.call136 (A2 rfl rfl)) (w_cmp_Compare_int S26.sl (PF.impl_abs a0) (PF.impl_abs a1)) ?_
 rintro e w27 ⟨rfl, r28⟩
 refine ⟨_, rfl, ?_⟩
 have S29 := S26.call r28
 refine FL.v (E.move (v := Value.int .i64 a1) rfl) ?_
 refine FL.v (E.move (v := Value.int .i64 a0) rfl) ?_
 refine FL.call rfl rfl rfl (E.call Tryz.call136 (A2 rfl rfl)) (w_cmp_Compare_int S29.sl a1 a0) ?_
 rintro e w30 ⟨rfl, r31⟩
 refine ⟨_, rfl, ?_⟩
 have S32 := S29.call r31
 obtain ⟨v33, w34, run35, S36⟩ := S32.buildSlice (P := Tryz.prog) te76 [Value.int .i64 (PF.cmp_Compare_int (PF.impl_abs a0) (PF.impl_abs a1)), Value.int .i64 (PF.cmp_Compare_int a1 a0)] (parts := #[(0, Value.int .i64 (PF.cmp_Compare_int (PF.impl_abs a0) (PF.impl_abs a1))), (1, Value.int .i64 (PF.cmp_Compare_int a1 a0))]) (cells := [Value.int .i64 (PF.cmp_Compare_int (PF.impl_abs a0) (PF.impl_abs a1)), Value.int .i64 (PF.cmp_Compare_int a1 a0)]) rfl (szs_cons rfl (szs_cons rfl szs_nil)) (fc_cons rfl (fc_cons rfl fc_nil)) (ones_cons rfl (ones_cons rfl ones_nil)) (Nat.le_of_ble_eq_true rfl)
 have els37 : Els (up wa.heap.size Ha) eI 1 [Value.int .i64 (PF.cmp_Compare_int (PF.impl_abs a0) (PF.impl_abs a1)), Value.int .i64 (PF.cmp_Compare_int a1 a0)] [(PF.cmp_Compare_int (PF.impl_abs a0) (PF.impl_abs a1)), (PF.cmp_Compare_int a1 a0)] := (Els.snoc (H := (up wa.heap.size Ha)) (E := eI) (k := 1) (c := [Value.int .i64 (PF.cmp_Compare_int a1 a0)]) (x := (PF.cmp_Compare_int a1 a0)) (Els.snoc (H := (up wa.heap.size Ha)) (E := eI) (k := 1) (c := [Value.int .i64 (PF.cmp_Compare_int (PF.impl_abs a0) (PF.impl_abs a1))]) (x := (PF.cmp_Compare_int (PF.impl_abs a0) (PF.impl_abs a1))) Els.nil rfl rfl) rfl rfl)
 refine FL.v (E.buildSlice (B2 rfl rfl) run35) ?_
 obtain ⟨H38, S39, i40, h41, nv42⟩ := S36.sealRowU (i := 0) (l' := []) rfl els37 (by decide) rfl
 obtain ⟨r43, hr44, hp⟩ := bnd hp
 refine FL.call rfl rfl rfl (E.call Tryz.call135 (A1 rfl)) (w_cmp_Or_int S39.sl v33 [(PF.cmp_Compare_int (PF.impl_abs a0) (PF.impl_abs a1)), (PF.cmp_Compare_int a1 a0)] (h41.mono upI) hr44) ?_
 rintro e w45 ⟨rfl, r46⟩
 refine ⟨_, rfl, ?_⟩
 have r46 := Run.lend i40 S36.sl r46
 have S47 := S36.call r46
 refine FL.v (E.assign (v := Value.int .i64 r43) rfl) ?_
 refine FL.nil ?_
 refine FW.ret ?_
 obtain rfl := Option.some.inj hp
 exact ⟨.inr rfl, res1 rfl rfl ⟨rfl, S47.back⟩⟩

@[reducible] def p_slices_Compact_int_int (H0 : GH) (w0 : World) (Ha : GH) (L : List MO) (r : (List Int)) : Ending → World → Prop :=
 fun e w' => ∃ H' : GH, ∃ v0r : Value, ∃ n0r : Nat, ∃ c0r : List Value, e = .returned (v0r) ∧ (St H0 w0 H' w' (.row 3 1 v0r n0r c0r :: L) ∧ Inc Ha H') ∧ Els (up w0.heap.size H') eI 1 c0r r
theorem w_slices_Compact_int_int {H0 Ha : GH} {w0 wa : World} {L : List MO} {v0 : Value} {n0 : Nat} {k0 : List Value} (S0 : St H0 w0 Ha wa (.row 3 1 v0 n0 k0 :: L)) (a0 : List Int) (p0 : Els (up w0.heap.size Ha) eI 1 k0 a0) {r : (List Int)} (hp : (PF.slices_Compact_int_int a0) = some r) :
  Calls Tryz.prog 189 #[v0] wa (p_slices_Compact_int_int H0 w0 Ha L r) := by
 cases hp
 refine (St.compactF (l := .row 3 1 v0 n0 k0 :: L) (i := 0) S0 rfl p0 (enc := Value.int .i64) (fun _ => rfl) (fun _ _ _ h => by cases eI_open h; rfl) (fun _ _ => rfl) 0 (fun w => compact_none Tryz.comp189 w) (fun blk off cap d w hH hs hc => AnyE.slices_Compact Tryz.comp189 (Value.int .i64) (fun _ => rfl) (EqlAt.intD _ _ _) (NeqAt.intD _ _ _) 0 (fun w => Tryz.zeroValue3 w) blk off cap d w hH hs hc)).mono ?_
 rintro e w' ⟨v', n', c', rfl, h1, h2⟩
 exact ⟨_, _, _, _, rfl, ⟨h1, Inc.rfl _⟩, h2⟩

@[reducible] def p_impl_clause (Ha : GH) (wa : World) (r : ((List Int) × Bool)) : Ending → World → Prop :=
 fun e w' => ∃ H' : GH, ∃ v0 : Value, ∃ n0 : Nat, ∃ c0 : List Value, e = .returned (Value.tuple #[v0, Value.bool r.2]) ∧ St Ha wa H' w' [.row 3 1 v0 n0 c0] ∧ Els (up wa.heap.size H') eI 1 c0 r.1
theorem w_impl_clause {Ha : GH} {wa : World} (hs : Sl Ha wa) (v0 : Value) (a0 : List Int) (p0 : RSl Ha eI 1 v0 a0) {r : ((List Int) × Bool)} (hp : (PF.impl_clause a0) = some r) :
  Calls Tryz.prog 208 #[v0] wa (p_impl_clause Ha wa r) := by
 unfold PF.impl_clause at hp
 have S0 := St.init hs
 refine calls_go (N := 30) (args := [v0]) Tryz.func208 rfl rfl rfl ?_
 refine FW.seq (FW.region ?_)
 refine FL.v (E.assign (v := Value.slice none 0 0) rfl) ?_
 refine FL.v (E.assign (v := Value.bool false) rfl) ?_
 refine FL.nil (FW.seq (FW.region ?_))
 refine FL.v (E.move (v := v0) rfl) ?_
 obtain ⟨r21, hr22, hp⟩ := bnd hp
 refine FL.call rfl rfl rfl (E.call Tryz.call82 (A1 rfl)) (w_slices_Clone_int_int S0.sl v0 a0 p0 hr22) ?_
 rintro e w24 ⟨H23, v27, n28, cs29, rfl, r26, els30⟩
 refine ⟨_, rfl, ?_⟩
 have els30 := els30.mono (up_le S0.size)
 have S25 := S0.join (l' := [.row 3 1 v27 n28 cs29]) r26 rfl
 refine FL.v (E.assign (v := v27) rfl) ?_
 refine FL.nil (FW.seq (FW.region ?_))
 refine FL.v (E.move (v := v27) rfl) ?_
 obtain ⟨r31, hr32, hp⟩ := bnd hp
 refine FL.call rfl rfl rfl (E.call Tryz.call252 (A2 rfl rfl)) (w_slices_SortFunc_int_int (L := []) S25 r21 els30 (Value.func (.func 138) #[] #[]) (fun x0 x1 => PF.impl_compareLiterals x0 x1) (fun H2 w2 hi2 hs2 x0 x1 r hr => ⟨138, #[], rfl, Tryz.call138, w_impl_compareLiterals hs2 x0 x1  hr⟩) hr32) ?_
 rintro e w34 ⟨H33, cs37, rfl, ⟨S35, i36⟩, els38⟩
 refine ⟨_, rfl, ?_⟩
 have S35 : St Ha wa H33 w34 [.row 3 1 v27 n28 cs37] := S35
 refine FL.nil (FW.seq (FW.region ?_))
 refine FL.v (E.move (v := v27) rfl) ?_
 obtain ⟨r39, hr40, hp⟩ := bnd hp
 refine FL.call rfl rfl rfl (E.call Tryz.call189 (A1 rfl)) (w_slices_Compact_int_int (L := []) S35 r31 els38 hr40) ?_
 rintro e w42 ⟨H41, v45, n46, cs47, rfl, ⟨S43, i44⟩, els48⟩
 refine ⟨_, rfl, ?_⟩
 have S43 : St Ha wa H41 w42 [.row 3 1 v45 n46 cs47] := S43
 refine FL.v (E.assign (v := v45) rfl) ?_
 refine FL.nil (FW.seq (FW.seq (FW.region ?_)))
 refine FL.v (E.assign (v := Value.int .i64 1) rfl) ?_
 refine FL.nil ?_
 obtain ⟨q49, hq, hp⟩ := bndR hp
 refine FW.block ?_
 refine FW.mono (FW.iter (S := Int) (X := ((List Int) × Bool)) (fun (s49 : Int) f w => ∃ H : GH, St Ha wa H w [.row 3 1 v45 n46 cs47] ∧ Inc H41 H ∧ f 4 = v45 ∧ f 5 = Value.int .i64 s49) (fun q e f w => match q with | .go s49 => e = Exit.exit 0 ∧ (∃ H : GH, St Ha wa H w [.row 3 1 v45 n46 cs47] ∧ Inc H41 H ∧ f 4 = v45) | .rt x => ((e = Exit.ret) ∧ (fun e f w => (e = Exit.normal ∨ e = Exit.ret) ∧ ∀ a, Fr (δ := []) 30 a f → ∃ v, (results Tryz.f208 a.tmps).run Tryz.prog w = .ok v w ∧ (p_impl_clause Ha wa x) (.returned v) w) e f w)) hq ⟨_, S43, (Inc.rfl _), rfl, rfl⟩ ?_) ?_
 ·
  clear hp hq
  rintro s49 f83 w82 ⟨H79, S80, i81, k84, k85⟩ o108 hp
  refine FW.seq (FW.seq (FW.region ?_))
  refine FL.v (E.move k85) ?_
  refine FL.v (E.move k84) ?_
  refine FL.v (E.lenO te76 rfl S80 (i := 0) rfl els48 (by decide)) ?_
  refine FL.v (E.lss rfl rfl) ?_
  refine FL.nil ?_
  rcases ifB hp with ⟨c86, hp⟩ | ⟨c86, hp⟩
  ·
   refine FW.condT rfl c86 ?_
   refine FW.skip (FW.seq (FW.block (FW.seq ?_)))
   refine FW.draw (fun w' => Run w82.heap.size H79 w82 H79 w') (by kernel_rfl) (by kernel_rfl) (run_drew S80.sl) ?_
   refine FD.val rfl rfl rfl (fun w' hw' => (E.move k84)) ?_
   refine FD.val rfl rfl rfl (fun w' hw' => (E.move k85)) ?_
   obtain ⟨x94, hx95, hp⟩ := bnd hp
   obtain ⟨p88, cs89, pt90, l91, at92, rel93⟩ := S80.row_at (i := 0) rfl els48 (by decide) hx95
   obtain rfl := eI_open rel93
   refine FD.val rfl rfl rfl (fun w' hw' => (E.indexAddr te76 rfl rfl pt90)) ?_
   refine FD.val rfl rfl rfl (fun w' hw' => (E.load rfl (run_load0 Tryz.isAgg3 (at92.cls hw') rfl))) ?_
   refine FD.val rfl rfl rfl (fun w' hw' => (E.move k84)) ?_
   refine FD.val rfl rfl rfl (fun w' hw' => (E.move k85)) ?_
   refine FD.val rfl rfl rfl (fun w' hw' => (E.sub rfl rfl)) ?_
   obtain ⟨x102, hx103, hp⟩ := bnd hp
   obtain ⟨p96, cs97, pt98, l99, at100, rel101⟩ := S80.row_at (i := 0) rfl els48 (by decide) hx103
   obtain rfl := eI_open rel101
   refine FD.val rfl rfl rfl (fun w' hw' => (E.indexAddr te76 rfl rfl pt98)) ?_
   refine FD.val rfl rfl rfl (fun w' hw' => (E.load rfl (run_load0 Tryz.isAgg3 (at100.cls hw') rfl))) ?_
   refine FD.val rfl rfl rfl (fun w' hw' => (E.neg rfl)) ?_
   refine FD.val rfl rfl rfl (fun w' hw' => (E.eql rfl rfl)) ?_
   refine FD.nil ?_
   intro w104 r106
   have S105 := S80.call r106
   rcases ifB hp with ⟨c107, hp⟩ | ⟨c107, hp⟩
   ·
    refine FW.condT rfl c107 ?_
    refine FW.seq (FW.region ?_)
    refine FL.v (E.assign (v := Value.slice none 0 0) rfl) ?_
    refine FL.v (E.assign (v := Value.bool false) rfl) ?_
    refine FL.nil ?_
    refine FW.ret ?_
    obtain rfl := Option.some.inj hp
    exact ⟨nofun, rfl, ⟨.inr rfl, res2 rfl rfl rfl ⟨_, _, _, _, rfl, ((S105.nil 3 1).sel [0] (by decide) rfl), Els.nil⟩⟩⟩
   ·
    refine FW.condF rfl c107 ?_
    refine FW.skip (FW.region ?_)
    refine FL.v (E.move k85) ?_
    refine FL.v (E.add rfl rfl) ?_
    refine FL.v (E.assign (v := Value.int .i64 (wr (s49 + 1))) rfl) ?_
    refine FL.nil ?_
    obtain rfl := Option.some.inj hp
    exact ⟨rfl, ⟨_, S105, i81, k84, rfl⟩⟩
  ·
   refine FW.condF rfl c86 ?_
   refine FW.exit ?_
   obtain rfl := Option.some.inj hp
   exact ⟨nofun, rfl, ⟨_, S80, i81, k84⟩⟩
 ·
  clear hq
  intro e f113 w112 hD
  rcases q49 with s49 | x49
  ·
   obtain ⟨rfl, hD⟩ := hD
   obtain ⟨H109, S110, i111, k114⟩ := hD
   replace hp := el_go hp
   refine FW.seq (FW.region ?_)
   refine FL.v (E.move k114) ?_
   refine FL.v (E.assign (v := v45) rfl) ?_
   refine FL.v (E.assign (v := Value.bool true) rfl) ?_
   refine FL.nil ?_
   refine FW.ret ?_
   obtain rfl := Option.some.inj hp
   exact ⟨.inr rfl, res2 rfl rfl rfl ⟨_, _, _, _, rfl, S110, (els48.mono (up_mono i111))⟩⟩
  ·
   obtain ⟨he, hL⟩ := hD
   replace hp := el_rt hp
   obtain rfl := Option.some.inj hp
   subst he
   exact hL

@[reducible] def p_impl_resolve (Ha : GH) (wa : World) (r : ((List Int) × Bool)) : Ending → World → Prop :=
 fun e w' => ∃ H' : GH, ∃ v0 : Value, ∃ n0 : Nat, ∃ c0 : List Value, e = .returned (Value.tuple #[v0, Value.bool r.2]) ∧ St Ha wa H' w' [.row 3 1 v0 n0 c0] ∧ Els (up wa.heap.size H') eI 1 c0 r.1
theorem w_impl_resolve {Ha : GH} {wa : World} (hs : Sl Ha wa) (v0 : Value) (a0 : List Int) (p0 : RSl Ha eI 1 v0 a0) (v1 : Value) (a1 : List Int) (p1 : RSl Ha eI 1 v1 a1) (a2 : Int) {r : ((List Int) × Bool)} (hp : (PF.impl_resolve a0 a1 a2) = some r) :
  Calls Tryz.prog 143 #[v0, v1, Value.int .i64 a2] wa (p_impl_resolve Ha wa r) := by
 unfold PF.impl_resolve at hp
 have S0 := St.init hs
 refine calls_go (N := 30) (args := [v0, v1, Value.int .i64 a2]) Tryz.func143 rfl rfl rfl ?_
 refine FW.seq (FW.region ?_)
 refine FL.v (E.assign (v := Value.slice none 0 0) rfl) ?_
 refine FL.v (E.assign (v := Value.bool false) rfl) ?_
 refine FL.nil (FW.seq (FW.seq (FW.region ?_)))
 refine FL.v (E.move (v := v0) rfl) ?_
 refine FL.v (E.move (v := Value.int .i64 a2) rfl) ?_
 obtain ⟨r21, hr22, hp⟩ := bnd hp
 refine FL.call rfl rfl rfl (E.call Tryz.call163 (A2 rfl rfl)) (w_slices_Contains_int_int S0.sl v0 a0 p0 a2 hr22) ?_
 rintro e w23 ⟨rfl, r24⟩
 refine ⟨_, rfl, ?_⟩
 have S25 := S0.call r24
 refine FL.v (E.not rfl) ?_
 refine FL.v (E.move (v := Value.bool (!r21)) rfl) ?_
 obtain ⟨t31, hqt31, hp⟩ := bnd hp
 refine FL.cut 6 (fun f w => ∃ H : GH, St Ha wa H w [] ∧ Inc Ha H ∧ f 0 = v0 ∧ f 1 = v1 ∧ f 2 = Value.int .i64 a2 ∧ f 18 = Value.bool t31) ?_ ?_
 ·
  clear hp; have hp := hqt31; clear hqt31
  rcases ifB hp with ⟨c37, hp⟩ | ⟨c37, hp⟩
  ·
   refine FL.skip (wF_no rfl rfl rfl c37) rfl ?_
   refine FL.skip (wF_no rfl rfl rfl c37) rfl ?_
   refine FL.skip (wF_no rfl rfl rfl c37) rfl ?_
   refine FL.skip (wF_no rfl rfl rfl c37) rfl ?_
   refine FL.skip (wF_no rfl rfl rfl c37) rfl ?_
   obtain rfl := Option.some.inj hp
   refine FL.v (E.pickT rfl c37 rfl) ?_
   exact FL.nil ⟨rfl, _, S25, (Inc.rfl _), rfl, rfl, rfl, rfl⟩
  ·
   refine FL.val (wF_yes rfl rfl rfl c37) rfl rfl (E.move (v := v1) rfl) ?_
   refine FL.val (wF_yes rfl rfl rfl c37) rfl rfl (E.move (v := Value.int .i64 a2) rfl) ?_
   refine FL.val (wF_yes rfl rfl rfl c37) rfl rfl (E.neg rfl) ?_
   obtain ⟨r38, hr39, hp⟩ := bnd hp
   refine FL.call (wF_yes rfl rfl rfl c37) rfl rfl (E.call Tryz.call163 (A2 rfl rfl)) (w_slices_Contains_int_int S25.sl v1 a1 p1 (wr (-a2)) hr39) ?_
   rintro e w40 ⟨rfl, r41⟩
   refine ⟨_, rfl, ?_⟩
   have S42 := S25.call r41
   refine FL.val (wF_yes rfl rfl rfl c37) rfl rfl (E.not rfl) ?_
   obtain rfl := Option.some.inj hp
   refine FL.v (E.pickF rfl c37 rfl) ?_
   exact FL.nil ⟨rfl, _, S42, (Inc.rfl _), rfl, rfl, rfl, rfl⟩
 rintro f36 w35 ⟨H32, S33, i34, k43, k44, k45, k46⟩
 refine FL.nil ?_
 rcases ifB hp with ⟨c47, hp⟩ | ⟨c47, hp⟩
 ·
  refine FW.condT k46 c47 ?_
  refine FW.seq (FW.region ?_)
  refine FL.v (E.assign (v := Value.slice none 0 0) rfl) ?_
  refine FL.v (E.assign (v := Value.bool false) rfl) ?_
  refine FL.nil ?_
  refine FW.ret ?_
  obtain rfl := Option.some.inj hp
  exact ⟨.inr rfl, res2 rfl rfl rfl ⟨_, _, _, _, rfl, (S33.nil 3 1), Els.nil⟩⟩
 ·
  refine FW.condF k46 c47 ?_
  refine FW.skip (FW.seq (FW.region ?_))
  refine FL.v (E.move k43) ?_
  refine FL.v (E.move k45) ?_
  obtain ⟨r48, hr49, hp⟩ := bnd hp
  refine FL.call rfl rfl rfl (E.call Tryz.call210 (A2 rfl rfl)) (w_impl_withoutVar S33.sl v0 a0 (p0.mono i34) a2 hr49) ?_
  rintro e w51 ⟨H50, v54, n55, cs56, rfl, r53, els57⟩
  refine ⟨_, rfl, ?_⟩
  have els57 := els57.mono (up_le S33.size)
  have S52 := S33.join (l' := [.row 3 1 v54 n55 cs56]) r53 rfl
  refine FL.v (E.move k44) ?_
  refine FL.v (E.move k45) ?_
  obtain ⟨r58, hr59, hp⟩ := bnd hp
  refine FL.call rfl rfl rfl (E.call Tryz.call210 (A2 rfl rfl)) (w_impl_withoutVar S52.sl v1 a1 (p1.mono (i34.tr r53.run.inc)) a2 hr59) ?_
  rintro e w61 ⟨H60, v64, n65, cs66, rfl, r63, els67⟩
  refine ⟨_, rfl, ?_⟩
  have els67 := els67.mono (up_le S52.size)
  have S62 := S52.join (l' := [.row 3 1 v64 n65 cs66, .row 3 1 v54 n55 cs56]) r63 rfl
  obtain ⟨H68, S69, i70, h71, nv72⟩ := S62.sealRowU (i := 1) (l' := [.row 3 1 v64 n65 cs66]) rfl (els57.mono (up_mono r63.run.inc)) (by decide) rfl
  obtain ⟨H73, S74, i75, h76, nv77⟩ := S69.sealRowU (i := 0) (l' := []) rfl (els67.mono (up_mono i70)) (by decide) rfl
  obtain ⟨v78, w79, run80, S81⟩ := S74.buildSlice (P := Tryz.prog) te22 [v54, v64] (parts := #[(0, v54), (1, v64)]) (cells := [v54, v64]) rfl (szs_cons (cells_size h71.cells) (szs_cons (cells_size h76.cells) szs_nil)) (fc_cons h71.cells (fc_cons h76.cells fc_nil)) (ones_cons h71.one (ones_cons h76.one ones_nil)) (Nat.le_of_ble_eq_true rfl)
  have els82 : Els (up wa.heap.size H73) (eL eI 1) 1 [v54, v64] [r48, r58] := (Els.snoc (H := (up wa.heap.size H73)) (E := (eL eI 1)) (k := 1) (c := [v64]) (x := r58) (Els.snoc (H := (up wa.heap.size H73)) (E := (eL eI 1)) (k := 1) (c := [v54]) (x := r48) Els.nil rfl ⟨_, rfl, (h71.mono (up_mono i75))⟩) rfl ⟨_, rfl, h76⟩)
  refine FL.v (E.buildSlice (B2 rfl rfl) run80) ?_
  obtain ⟨H83, S84, i85, h86, nv87⟩ := S81.sealRowU (i := 0) (l' := []) rfl els82 (by decide) rfl
  obtain ⟨r88, hr89, hp⟩ := bnd hp
  refine FL.call rfl rfl rfl (E.call Tryz.call209 (A1 rfl)) (w_slices_Concat_int_int S84.sl v78 [r48, r58] (h86.mono upI) hr89) ?_
  rintro e w91 ⟨H90, v96, n97, cs98, rfl, r93, els99⟩
  refine ⟨_, rfl, ?_⟩
  obtain ⟨H94, r93, hU95⟩ := St.lendX i85 S81.sl r93
  have els99 := els99.mono (hU95.tr (up_le S81.size))
  have S92 := S81.join (l' := [.row 3 1 v96 n97 cs98, .row 76 1 v78 2 [v54, v64]]) r93 rfl
  obtain ⟨H100, S101, i102, h103, nv104⟩ := S92.sealRowU (i := 0) (l' := [.row 76 1 v78 2 [v54, v64]]) rfl els99 (by decide) rfl
  obtain ⟨r105, hr106, hp⟩ := bnd hp
  refine FL.call rfl rfl rfl (E.call Tryz.call208 (A1 rfl)) (w_impl_clause S101.sl v96 r88 (h103.mono upI) hr106) ?_
  rintro e w108 ⟨H107, v113, n114, cs115, rfl, r110, els116⟩
  refine ⟨_, rfl, ?_⟩
  obtain ⟨H111, r110, hU112⟩ := St.lendX i102 S92.sl r110
  have els116 := els116.mono (hU112.tr (up_le S92.size))
  have S109 := S92.join (l' := [.row 3 1 v113 n114 cs115, .row 3 1 v96 n97 cs98, .row 76 1 v78 2 [v54, v64]]) r110 rfl
  refine FL.v (E.extract (i := 0) rfl rfl) ?_
  refine FL.v (E.extract (i := 1) rfl rfl) ?_
  refine FL.v (E.assign (v := v113) rfl) ?_
  refine FL.v (E.assign (v := Value.bool r105.2) rfl) ?_
  refine FL.nil ?_
  refine FW.ret ?_
  obtain rfl := Option.some.inj hp
  exact ⟨.inr rfl, res2 rfl rfl rfl ⟨_, _, _, _, rfl, (S109.sel [0] (by decide) rfl), els116⟩⟩

@[reducible] def p_impl_config_put (Ha : GH) (wa : World) (r : ((List Int) × Bool)) : Ending → World → Prop :=
 fun e w' => ∃ H' : GH, ∃ v0 : Value, e = .returned (Value.tuple #[v0, Value.bool r.2]) ∧ Run wa.heap.size Ha wa H' w' ∧ RSl H' eI 1 v0 r.1
theorem w_impl_config_put {Ha : GH} {wa : World} (hs : Sl Ha wa) (v0 : Value) (a0 : List (List Int)) (p0 : RSl Ha (eL eI 1) 1 v0 a0) (a1 : Cnf) (v1_1 : Value) (p1_1 : RSl Ha (eL eI 1) 1 v1_1 a1.clauses) (a2 : SpaceStep) {r : ((List Int) × Bool)} (hp : (PF.impl_config_put a0 a1 a2) = some r) :
  Calls Tryz.prog 81 #[v0, Value.agg #[Value.int .i64 a1.vars, v1_1], Value.agg #[Value.int .i64 a2.kind, Value.int .i64 a2.a, Value.int .i64 a2.b, Value.int .i64 a2.pivot]] wa (p_impl_config_put Ha wa r) := by
 unfold PF.impl_config_put at hp
 have S0 := St.init hs
 refine calls_go (N := 79) (args := [v0, Value.agg #[Value.int .i64 a1.vars, v1_1], Value.agg #[Value.int .i64 a2.kind, Value.int .i64 a2.a, Value.int .i64 a2.b, Value.int .i64 a2.pivot]]) Tryz.func81 rfl rfl rfl ?_
 refine FW.seq (FW.region ?_)
 obtain ⟨b21, w22, run23, S24⟩ := S0.box (P := Tryz.prog) 30 [Value.int .i64 a1.vars, v1_1] (v := Value.agg #[Value.int .i64 a1.vars, v1_1]) rfl (ones_cons rfl (ones_cons p1_1.one ones_nil))
 refine FL.v (E.box rfl run23) ?_
 obtain ⟨H25, S26, i27, at28⟩ := S24.sealBox (i := 0) (l' := []) rfl rfl
 obtain ⟨b29, w30, run31, S32⟩ := S26.box (P := Tryz.prog) 88 [Value.int .i64 a2.kind, Value.int .i64 a2.a, Value.int .i64 a2.b, Value.int .i64 a2.pivot] (v := Value.agg #[Value.int .i64 a2.kind, Value.int .i64 a2.a, Value.int .i64 a2.b, Value.int .i64 a2.pivot]) rfl (ones_cons rfl (ones_cons rfl (ones_cons rfl (ones_cons rfl ones_nil))))
 refine FL.v (E.box rfl run31) ?_
 obtain ⟨H33, S34, i35, at36⟩ := S32.sealBox (i := 0) (l' := []) rfl rfl
 refine FL.v (E.assign (v := Value.slice none 0 0) rfl) ?_
 refine FL.v (E.assign (v := Value.bool false) rfl) ?_
 refine FL.nil (FW.seq (FW.region ?_))
 refine FL.v (E.move (v := v0) rfl) ?_
 refine FL.v (E.lenP te94 rfl p0) ?_
 refine FL.v (E.sub rfl rfl) ?_
 refine FL.v (E.assign (v := Value.int .i64 (wr ((len a0) - 1))) rfl) ?_
 refine FL.nil (FW.seq (FW.block (FW.seq (FW.region ?_))))
 refine FL.v (E.fieldAddr tf88_0 rfl) ?_
 refine FL.v (E.load rfl (run_load1 Tryz.isAgg3 (at36.now S34.sl) rfl)) ?_
 refine FL.v (E.eql rfl rfl) ?_
 refine FL.v (E.move (v := Value.bool (a2.kind == 1)) rfl) ?_
 refine FL.cut 8 (fun f w => ∃ H : GH, St Ha wa H w [] ∧ Inc H33 H ∧ f 0 = v0 ∧ f 4 = Value.pointer (some ⟨b21, 0, none⟩) ∧ f 5 = Value.pointer (some ⟨b29, 0, none⟩) ∧ f 8 = Value.int .i64 (wr ((len a0) - 1)) ∧ f 24 = Value.bool (bif (a2.kind == 1) then (PF.impl_within a2.a 0 (wr ((len a1.clauses) - 1))) else false)) ?_ ?_
 ·
  rcases bcase (a2.kind == 1) with c46 | c46
  ·
   refine FL.val (wF_yes rfl rfl rfl c46) rfl rfl (E.fieldAddr tf88_1 rfl) ?_
   refine FL.val (wF_yes rfl rfl rfl c46) rfl rfl (E.load rfl (run_load1 Tryz.isAgg3 (at36.now S34.sl) rfl)) ?_
   refine FL.val (wF_yes rfl rfl rfl c46) rfl rfl (E.fieldAddr tf30_1 rfl) ?_
   refine FL.val (wF_yes rfl rfl rfl c46) rfl rfl (E.load rfl (run_load1 Tryz.isAgg22 ((at28.mono i35).now S34.sl) rfl)) ?_
   refine FL.val (wF_yes rfl rfl rfl c46) rfl rfl (E.lenP te22 rfl p1_1) ?_
   refine FL.val (wF_yes rfl rfl rfl c46) rfl rfl (E.sub rfl rfl) ?_
   refine FL.call (wF_yes rfl rfl rfl c46) rfl rfl (E.call Tryz.call126 (A3 rfl rfl rfl)) (w_impl_within S34.sl a2.a 0 (wr ((len a1.clauses) - 1))) ?_
   rintro e w47 ⟨rfl, r48⟩
   refine ⟨_, rfl, ?_⟩
   have S49 := S34.call r48
   refine FL.v (E.pickT rfl c46 rfl) ?_
   exact FL.nil ⟨rfl, _, S49, (Inc.rfl _), rfl, rfl, rfl, rfl, (congrArg Value.bool (bifT c46).symm)⟩
  ·
   refine FL.skip (wF_no rfl rfl rfl c46) rfl ?_
   refine FL.skip (wF_no rfl rfl rfl c46) rfl ?_
   refine FL.skip (wF_no rfl rfl rfl c46) rfl ?_
   refine FL.skip (wF_no rfl rfl rfl c46) rfl ?_
   refine FL.skip (wF_no rfl rfl rfl c46) rfl ?_
   refine FL.skip (wF_no rfl rfl rfl c46) rfl ?_
   refine FL.skip (wF_no rfl rfl rfl c46) rfl ?_
   refine FL.v (E.pickF rfl c46 rfl) ?_
   exact FL.nil ⟨rfl, _, S34, (Inc.rfl _), rfl, rfl, rfl, rfl, (congrArg Value.bool (bifF c46).symm)⟩
 rintro f45 w44 ⟨H41, S42, i43, k50, k51, k52, k53, k54⟩
 refine FL.v (E.move k54) ?_
 refine FL.cut 4 (fun f w => ∃ H : GH, St Ha wa H w [] ∧ Inc H41 H ∧ f 0 = v0 ∧ f 4 = Value.pointer (some ⟨b21, 0, none⟩) ∧ f 5 = Value.pointer (some ⟨b29, 0, none⟩) ∧ f 8 = Value.int .i64 (wr ((len a0) - 1)) ∧ f 29 = Value.bool (bif (bif (a2.kind == 1) then (PF.impl_within a2.a 0 (wr ((len a1.clauses) - 1))) else false) then (a2.b == 0) else false)) ?_ ?_
 ·
  rcases bcase (bif (a2.kind == 1) then (PF.impl_within a2.a 0 (wr ((len a1.clauses) - 1))) else false) with c61 | c61
  ·
   refine FL.val (wF_yes rfl rfl rfl c61) rfl rfl (E.fieldAddr tf88_2 k52) ?_
   refine FL.val (wF_yes rfl rfl rfl c61) rfl rfl (E.load rfl (run_load1 Tryz.isAgg3 ((at36.mono i43).now S42.sl) rfl)) ?_
   refine FL.val (wF_yes rfl rfl rfl c61) rfl rfl (E.eql rfl rfl) ?_
   refine FL.v (E.pickT rfl c61 rfl) ?_
   exact FL.nil ⟨rfl, _, S42, (Inc.rfl _), k50, k51, k52, k53, (congrArg Value.bool (bifT c61).symm)⟩
  ·
   refine FL.skip (wF_no rfl rfl rfl c61) rfl ?_
   refine FL.skip (wF_no rfl rfl rfl c61) rfl ?_
   refine FL.skip (wF_no rfl rfl rfl c61) rfl ?_
   refine FL.v (E.pickF rfl c61 rfl) ?_
   exact FL.nil ⟨rfl, _, S42, (Inc.rfl _), k50, k51, k52, k53, (congrArg Value.bool (bifF c61).symm)⟩
 rintro f60 w59 ⟨H56, S57, i58, k62, k63, k64, k65, k66⟩
 refine FL.v (E.move k66) ?_
 refine FL.cut 4 (fun f w => ∃ H : GH, St Ha wa H w [] ∧ Inc H56 H ∧ f 0 = v0 ∧ f 4 = Value.pointer (some ⟨b21, 0, none⟩) ∧ f 5 = Value.pointer (some ⟨b29, 0, none⟩) ∧ f 8 = Value.int .i64 (wr ((len a0) - 1)) ∧ f 34 = Value.bool (bif (bif (bif (a2.kind == 1) then (PF.impl_within a2.a 0 (wr ((len a1.clauses) - 1))) else false) then (a2.b == 0) else false) then (a2.pivot == 0) else false)) ?_ ?_
 ·
  rcases bcase (bif (bif (a2.kind == 1) then (PF.impl_within a2.a 0 (wr ((len a1.clauses) - 1))) else false) then (a2.b == 0) else false) with c73 | c73
  ·
   refine FL.val (wF_yes rfl rfl rfl c73) rfl rfl (E.fieldAddr tf88_3 k64) ?_
   refine FL.val (wF_yes rfl rfl rfl c73) rfl rfl (E.load rfl (run_load1 Tryz.isAgg3 ((at36.mono (i43.tr i58)).now S57.sl) rfl)) ?_
   refine FL.val (wF_yes rfl rfl rfl c73) rfl rfl (E.eql rfl rfl) ?_
   refine FL.v (E.pickT rfl c73 rfl) ?_
   exact FL.nil ⟨rfl, _, S57, (Inc.rfl _), k62, k63, k64, k65, (congrArg Value.bool (bifT c73).symm)⟩
  ·
   refine FL.skip (wF_no rfl rfl rfl c73) rfl ?_
   refine FL.skip (wF_no rfl rfl rfl c73) rfl ?_
   refine FL.skip (wF_no rfl rfl rfl c73) rfl ?_
   refine FL.v (E.pickF rfl c73 rfl) ?_
   exact FL.nil ⟨rfl, _, S57, (Inc.rfl _), k62, k63, k64, k65, (congrArg Value.bool (bifF c73).symm)⟩
 rintro f72 w71 ⟨H68, S69, i70, k74, k75, k76, k77, k78⟩
 refine FL.v (E.assign k78) ?_
 refine FL.nil ?_
 rcases ifB hp with ⟨c79, hp⟩ | ⟨c79, hp⟩
 ·
  refine FW.condT rfl c79 ?_
  refine FW.seq (FW.region ?_)
  refine FL.v (E.fieldAddr tf30_1 k75) ?_
  refine FL.v (E.load rfl (run_load1 Tryz.isAgg22 ((at28.mono (((i35.tr i43).tr i58).tr i70)).now S69.sl) rfl)) ?_
  refine FL.v (E.fieldAddr tf88_1 k76) ?_
  refine FL.v (E.load rfl (run_load1 Tryz.isAgg3 ((at36.mono ((i43.tr i58).tr i70)).now S69.sl) rfl)) ?_
  obtain ⟨x86, hx87, hp⟩ := bnd hp
  obtain ⟨p80, cs81, pt82, l83, at84, rel85⟩ := p1_1.at hx87
  obtain ⟨v88, rfl, h89⟩ := eL_open rel85
  refine FL.v (E.indexAddr te22 rfl rfl pt82) ?_
  refine FL.v (E.load rfl (run_load0 Tryz.isAgg76 ((at84.mono ((((i27.tr i35).tr i43).tr i58).tr i70)).now S69.sl) rfl)) ?_
  refine FL.v (E.assign (v := v88) rfl) ?_
  refine FL.v (E.assign (v := Value.bool true) rfl) ?_
  refine FL.nil ?_
  refine FW.ret ?_
  obtain rfl := Option.some.inj hp
  exact ⟨.inr rfl, res2 rfl rfl rfl ⟨_, _, rfl, S69.run, (h89.mono ((((i27.tr i35).tr i43).tr i58).tr i70))⟩⟩
 ·
  refine FW.condF rfl c79 ?_
  refine FW.seq (FW.region ?_)
  refine FL.v (E.fieldAddr tf88_0 k76) ?_
  refine FL.v (E.load rfl (run_load1 Tryz.isAgg3 ((at36.mono ((i43.tr i58).tr i70)).now S69.sl) rfl)) ?_
  refine FL.v (E.eql rfl rfl) ?_
  refine FL.v (E.move (v := Value.bool (a2.kind == 2)) rfl) ?_
  refine FL.cut 5 (fun f w => ∃ H : GH, St Ha wa H w [] ∧ Inc H68 H ∧ f 0 = v0 ∧ f 4 = Value.pointer (some ⟨b21, 0, none⟩) ∧ f 5 = Value.pointer (some ⟨b29, 0, none⟩) ∧ f 8 = Value.int .i64 (wr ((len a0) - 1)) ∧ f 50 = Value.bool (bif (a2.kind == 2) then (PF.impl_within a2.a 0 (wr ((len a0) - 1))) else false)) ?_ ?_
  ·
   rcases bcase (a2.kind == 2) with c99 | c99
   ·
    refine FL.val (wF_yes rfl rfl rfl c99) rfl rfl (E.fieldAddr tf88_1 k76) ?_
    refine FL.val (wF_yes rfl rfl rfl c99) rfl rfl (E.load rfl (run_load1 Tryz.isAgg3 ((at36.mono ((i43.tr i58).tr i70)).now S69.sl) rfl)) ?_
    refine FL.val (wF_yes rfl rfl rfl c99) rfl rfl (E.move k77) ?_
    refine FL.call (wF_yes rfl rfl rfl c99) rfl rfl (E.call Tryz.call126 (A3 rfl rfl rfl)) (w_impl_within S69.sl a2.a 0 (wr ((len a0) - 1))) ?_
    rintro e w100 ⟨rfl, r101⟩
    refine ⟨_, rfl, ?_⟩
    have S102 := S69.call r101
    refine FL.v (E.pickT rfl c99 rfl) ?_
    exact FL.nil ⟨rfl, _, S102, (Inc.rfl _), k74, k75, k76, k77, (congrArg Value.bool (bifT c99).symm)⟩
   ·
    refine FL.skip (wF_no rfl rfl rfl c99) rfl ?_
    refine FL.skip (wF_no rfl rfl rfl c99) rfl ?_
    refine FL.skip (wF_no rfl rfl rfl c99) rfl ?_
    refine FL.skip (wF_no rfl rfl rfl c99) rfl ?_
    refine FL.v (E.pickF rfl c99 rfl) ?_
    exact FL.nil ⟨rfl, _, S69, (Inc.rfl _), k74, k75, k76, k77, (congrArg Value.bool (bifF c99).symm)⟩
  rintro f98 w97 ⟨H94, S95, i96, k103, k104, k105, k106, k107⟩
  refine FL.v (E.move k107) ?_
  refine FL.cut 5 (fun f w => ∃ H : GH, St Ha wa H w [] ∧ Inc H94 H ∧ f 0 = v0 ∧ f 4 = Value.pointer (some ⟨b21, 0, none⟩) ∧ f 5 = Value.pointer (some ⟨b29, 0, none⟩) ∧ f 56 = Value.bool (bif (bif (a2.kind == 2) then (PF.impl_within a2.a 0 (wr ((len a0) - 1))) else false) then (PF.impl_within a2.b 0 (wr ((len a0) - 1))) else false)) ?_ ?_
  ·
   rcases bcase (bif (a2.kind == 2) then (PF.impl_within a2.a 0 (wr ((len a0) - 1))) else false) with c117 | c117
   ·
    refine FL.val (wF_yes rfl rfl rfl c117) rfl rfl (E.fieldAddr tf88_2 k105) ?_
    refine FL.val (wF_yes rfl rfl rfl c117) rfl rfl (E.load rfl (run_load1 Tryz.isAgg3 ((at36.mono (((i43.tr i58).tr i70).tr i96)).now S95.sl) rfl)) ?_
    refine FL.val (wF_yes rfl rfl rfl c117) rfl rfl (E.move k106) ?_
    refine FL.call (wF_yes rfl rfl rfl c117) rfl rfl (E.call Tryz.call126 (A3 rfl rfl rfl)) (w_impl_within S95.sl a2.b 0 (wr ((len a0) - 1))) ?_
    rintro e w118 ⟨rfl, r119⟩
    refine ⟨_, rfl, ?_⟩
    have S120 := S95.call r119
    refine FL.v (E.pickT rfl c117 rfl) ?_
    exact FL.nil ⟨rfl, _, S120, (Inc.rfl _), k103, k104, k105, (congrArg Value.bool (bifT c117).symm)⟩
   ·
    refine FL.skip (wF_no rfl rfl rfl c117) rfl ?_
    refine FL.skip (wF_no rfl rfl rfl c117) rfl ?_
    refine FL.skip (wF_no rfl rfl rfl c117) rfl ?_
    refine FL.skip (wF_no rfl rfl rfl c117) rfl ?_
    refine FL.v (E.pickF rfl c117 rfl) ?_
    exact FL.nil ⟨rfl, _, S95, (Inc.rfl _), k103, k104, k105, (congrArg Value.bool (bifF c117).symm)⟩
  rintro f116 w115 ⟨H112, S113, i114, k121, k122, k123, k124⟩
  refine FL.v (E.move k124) ?_
  refine FL.cut 6 (fun f w => ∃ H : GH, St Ha wa H w [] ∧ Inc H112 H ∧ f 0 = v0 ∧ f 5 = Value.pointer (some ⟨b29, 0, none⟩) ∧ f 63 = Value.bool (bif (bif (bif (a2.kind == 2) then (PF.impl_within a2.a 0 (wr ((len a0) - 1))) else false) then (PF.impl_within a2.b 0 (wr ((len a0) - 1))) else false) then (PF.impl_isVar a1.vars a2.pivot) else false)) ?_ ?_
  ·
   rcases bcase (bif (bif (a2.kind == 2) then (PF.impl_within a2.a 0 (wr ((len a0) - 1))) else false) then (PF.impl_within a2.b 0 (wr ((len a0) - 1))) else false) with c134 | c134
   ·
    refine FL.val (wF_yes rfl rfl rfl c134) rfl rfl (E.fieldAddr tf30_0 k122) ?_
    refine FL.val (wF_yes rfl rfl rfl c134) rfl rfl (E.load rfl (run_load1 Tryz.isAgg3 ((at28.mono (((((i35.tr i43).tr i58).tr i70).tr i96).tr i114)).now S113.sl) rfl)) ?_
    refine FL.val (wF_yes rfl rfl rfl c134) rfl rfl (E.fieldAddr tf88_3 k123) ?_
    refine FL.val (wF_yes rfl rfl rfl c134) rfl rfl (E.load rfl (run_load1 Tryz.isAgg3 ((at36.mono ((((i43.tr i58).tr i70).tr i96).tr i114)).now S113.sl) rfl)) ?_
    refine FL.call (wF_yes rfl rfl rfl c134) rfl rfl (E.call Tryz.call142 (A2 rfl rfl)) (w_impl_isVar S113.sl a1.vars a2.pivot) ?_
    rintro e w135 ⟨rfl, r136⟩
    refine ⟨_, rfl, ?_⟩
    have S137 := S113.call r136
    refine FL.v (E.pickT rfl c134 rfl) ?_
    exact FL.nil ⟨rfl, _, S137, (Inc.rfl _), k121, k123, (congrArg Value.bool (bifT c134).symm)⟩
   ·
    refine FL.skip (wF_no rfl rfl rfl c134) rfl ?_
    refine FL.skip (wF_no rfl rfl rfl c134) rfl ?_
    refine FL.skip (wF_no rfl rfl rfl c134) rfl ?_
    refine FL.skip (wF_no rfl rfl rfl c134) rfl ?_
    refine FL.skip (wF_no rfl rfl rfl c134) rfl ?_
    refine FL.v (E.pickF rfl c134 rfl) ?_
    exact FL.nil ⟨rfl, _, S113, (Inc.rfl _), k121, k123, (congrArg Value.bool (bifF c134).symm)⟩
  rintro f133 w132 ⟨H129, S130, i131, k138, k139, k140⟩
  refine FL.v (E.assign k140) ?_
  refine FL.nil ?_
  rcases ifB hp with ⟨c141, hp⟩ | ⟨c141, hp⟩
  ·
   refine FW.condT rfl c141 ?_
   refine FW.seq ?_
   obtain ⟨x90, hx91, hp⟩ := bnd hp
   obtain ⟨x127, hx128, hp⟩ := bnd hp
   obtain ⟨r147, hr148, hp⟩ := bnd hp
   refine FW.drawB (Sl H129) (fun f w => ∃ H : GH, ∃ v157 : Value, ∃ n158 : Nat, ∃ cs159 : List Value, St Ha wa H w [.row 3 1 v157 n158 cs159] ∧ Inc H129 H ∧ Els (up wa.heap.size H) eI 1 cs159 r147.1 ∧ f 6 = v157 ∧ f 7 = Value.bool r147.2) (by kernel_rfl) S130.sl ?_ ?_
   ·
    intro w142 r143
    have S144 := S130.call r143
    refine FB.t (i := 0) (bs 17 1) rfl (SP.nil S144.sl) rfl (fun w' hw' => (E.move k138)) ?_
    refine FB.t (i := 1) (bs 17 3) rfl (SP.nil S144.sl) rfl (fun w' hw' => (E.fieldAddr tf88_1 k139)) ?_
    refine FB.t (i := 2) (bs 17 7) rfl (SP.nil S144.sl) rfl (fun w' hw' => (E.load rfl (run_load1 Tryz.isAgg3 ((at36.mono (((((i43.tr i58).tr i70).tr i96).tr i114).tr i131)).now hw') rfl))) ?_
    obtain ⟨p37, cs38, pt39, l40, at55, rel67⟩ := p0.at hx91
    obtain ⟨v92, rfl, h93⟩ := eL_open rel67
    refine FB.t (i := 3) (bs 17 15) rfl (SP.nil S144.sl) rfl (fun w' hw' => (E.indexAddr te94 rfl rfl pt39)) ?_
    refine FB.t (i := 4) (bs 17 31) rfl (SP.nil S144.sl) rfl (fun w' hw' => (E.load rfl (run_load0 Tryz.isAgg76 ((at55.mono (((((((i27.tr i35).tr i43).tr i58).tr i70).tr i96).tr i114).tr i131)).now hw') rfl))) ?_
    refine FB.t (i := 5) (bs 17 63) rfl (SP.nil S144.sl) rfl (fun w' hw' => (E.move k138)) ?_
    refine FB.t (i := 6) (bs 17 127) rfl (SP.nil S144.sl) rfl (fun w' hw' => (E.fieldAddr tf88_2 k139)) ?_
    refine FB.t (i := 7) (bs 17 255) rfl (SP.nil S144.sl) rfl (fun w' hw' => (E.load rfl (run_load1 Tryz.isAgg3 ((at36.mono (((((i43.tr i58).tr i70).tr i96).tr i114).tr i131)).now hw') rfl))) ?_
    obtain ⟨p108, cs109, pt110, l111, at125, rel126⟩ := p0.at hx128
    obtain ⟨v145, rfl, h146⟩ := eL_open rel126
    refine FB.t (i := 8) (bs 17 511) rfl (SP.nil S144.sl) rfl (fun w' hw' => (E.indexAddr te94 rfl rfl pt110)) ?_
    refine FB.t (i := 9) (bs 17 1023) rfl (SP.nil S144.sl) rfl (fun w' hw' => (E.load rfl (run_load0 Tryz.isAgg76 ((at125.mono (((((((i27.tr i35).tr i43).tr i58).tr i70).tr i96).tr i114).tr i131)).now hw') rfl))) ?_
    refine FB.t (i := 10) (bs 17 2047) rfl (SP.nil S144.sl) rfl (fun w' hw' => (E.fieldAddr tf88_3 k139)) ?_
    refine FB.t (i := 11) (bs 17 4095) rfl (SP.nil S144.sl) rfl (fun w' hw' => (E.load rfl (run_load1 Tryz.isAgg3 ((at36.mono (((((i43.tr i58).tr i70).tr i96).tr i114).tr i131)).now hw') rfl))) ?_
    refine FB.all1 (i := 12) (by kernel_rfl) ?_
    ·
     refine FC.call (l' := (bs 17 8191)) rfl (by kernel_rfl) rfl rfl rfl (E.call Tryz.call143 (A3 rfl rfl rfl)) (w_impl_resolve S144.sl v92 x90 (h93.mono (((((((i27.tr i35).tr i43).tr i58).tr i70).tr i96).tr i114).tr i131)) v145 x127 (h146.mono (((((((i27.tr i35).tr i43).tr i58).tr i70).tr i96).tr i114).tr i131)) a2.pivot hr148) ?_
     rintro e w150 ⟨H149, v153, n154, cs155, rfl, r152, els156⟩
     refine ⟨_, rfl, ?_⟩
     have els156 := els156.mono (up_le S144.size)
     have S151 := S144.join (l' := [.row 3 1 v153 n154 cs155]) r152 rfl
     refine ⟨(SP.nil (Sl.of_inc r152.run.inc S151.sl)), ?_⟩
     refine FB.t (i := 13) (bs 17 16383) rfl (SP.nil (Sl.of_inc r152.run.inc S151.sl)) rfl (fun w' hw' => (E.extract (i := 0) rfl rfl)) ?_
     refine FB.t (i := 14) (bs 17 32767) rfl (SP.nil (Sl.of_inc r152.run.inc S151.sl)) rfl (fun w' hw' => (E.extract (i := 1) rfl rfl)) ?_
     refine FB.t (i := 15) (bs 17 65535) rfl (SP.nil (Sl.of_inc r152.run.inc S151.sl)) rfl (fun w' hw' => (E.assign (v := v153) rfl)) ?_
     refine FB.t (i := 16) (bs 17 131071) rfl (SP.nil (Sl.of_inc r152.run.inc S151.sl)) rfl (fun w' hw' => (E.assign (v := Value.bool r147.2) rfl)) ?_
     exact FB.done (by kernel_rfl) ⟨_, _, _, _, S151, r152.run.inc, els156, rfl, rfl⟩
   ·
    rintro f165 w164 ⟨H161, v157, n158, cs159, S162, i163, els160, k166, k167⟩
    refine FW.ret ?_
    obtain ⟨H168, S169, i170, h171, nv172⟩ := S162.sealRowU (i := 0) (l' := []) rfl els160 (by decide) rfl
    obtain rfl := Option.some.inj hp
    exact ⟨.inr rfl, res2 rfl k166 k167 ⟨_, _, rfl, S169.run, (h171.mono upI)⟩⟩
  ·
   refine FW.condF rfl c141 ?_
   refine FW.skip (FW.seq (FW.region ?_))
   refine FL.v (E.assign (v := Value.slice none 0 0) rfl) ?_
   refine FL.v (E.assign (v := Value.bool false) rfl) ?_
   refine FL.nil ?_
   refine FW.ret ?_
   obtain rfl := Option.some.inj hp
   exact ⟨.inr rfl, res2 rfl rfl rfl ⟨_, _, rfl, S130.run, (RSl.nil _ _ _)⟩⟩

theorem w_slices_IndexFunc_LLint_Lint {Ha : GH} {wa : World} (hs : Sl Ha wa) (v0 : Value) (a0 : List (List Int)) (p0 : RSl Ha (eL eI 1) 1 v0 a0) (v1 : Value) (a1 : (List Int) → Option Bool) (p1 : Fn_List_Int_to_B Tryz.prog Ha v1 a1) {r : Int} (hp : (PF.slices_IndexFunc_LLint_Lint a0 a1) = some r) :
  Calls Tryz.prog 271 #[v0, v1] wa (Sc Ha wa (Value.int .i64 r)) := by
 unfold PF.slices_IndexFunc_LLint_Lint at hp
 have S0 := St.init hs
 refine calls_go (N := 19) (args := [v0, v1]) Tryz.func271 rfl rfl rfl ?_
 refine FW.seq (FW.region ?_)
 refine FL.v (E.assign (v := Value.int .i64 0) rfl) ?_
 refine FL.nil (FW.seq (FW.seq (FW.region ?_)))
 refine FL.v (E.move (v := v0) rfl) ?_
 refine FL.v (E.lenP te22 rfl p0) ?_
 refine FL.v (E.move (v := Value.int .i64 0) rfl) ?_
 refine FL.nil ?_
 obtain ⟨q22, hq, hp⟩ := bndR hp
 refine FW.block ?_
 refine FW.mono (FW.forL (S := Unit) (X := Int) (fun (i22 : Nat) (s22 : Unit) f w => ∃ H : GH, St Ha wa H w [] ∧ Inc Ha H ∧ f 8 = Value.int .i64 ((i22 : Nat) : Int) ∧ f 0 = v0 ∧ f 1 = v1 ∧ f 7 = Value.int .i64 (len a0)) (fun q e f w => match q with | .go s22 => e = Exit.exit 0 ∧ (∃ H : GH, St Ha wa H w [] ∧ Inc Ha H) | .rt x => ((e = Exit.ret) ∧ (fun e f w => (e = Exit.normal ∨ e = Exit.ret) ∧ ∀ a, Fr (δ := []) 19 a f → ∃ v, (results Tryz.f271 a.tmps).run Tryz.prog w = .ok v w ∧ (Sc Ha wa (Value.int .i64 x)) (.returned v) w) e f w)) hq ⟨_, S0, (Inc.rfl _), rfl, rfl, rfl, rfl⟩ ?_ ?_) ?_
 ·
  clear hp hq
  rintro i22 y21 s22 f55 w54 ⟨H51, S52, i53, k56, k57, k58, k59⟩ hx22 o79 hp
  refine FW.seq (FW.region ?_)
  refine FL.v (E.lssT k56 k59 (lss_len hx22)) ?_
  refine FL.nil (FW.seq ?_)
  refine FW.condT rfl rfl ?_
  refine FW.skip (FW.seq (FW.block (FW.seq (FW.region ?_))))
  refine FL.v (E.move k56) ?_
  refine FL.v (E.assign (v := Value.int .i64 ((i22 : Nat) : Int)) rfl) ?_
  refine FL.nil (FW.seq (FW.region ?_))
  refine FL.v (E.move k58) ?_
  refine FL.v (E.move k57) ?_
  refine FL.v (E.move (v := Value.int .i64 ((i22 : Nat) : Int)) rfl) ?_
  obtain ⟨p60, cs61, pt62, l63, at64, rel65⟩ := p0.at (ix_nat hx22)
  obtain ⟨v66, rfl, h67⟩ := eL_open rel65
  refine FL.v (E.indexAddr te22 rfl rfl pt62) ?_
  refine FL.v (E.load rfl (run_load0 Tryz.isAgg76 ((at64.mono i53).now S52.sl) rfl)) ?_
  obtain ⟨r68, hr69, hp⟩ := bnd hp
  obtain ⟨fi73, cs74, hv75, he76, hc77⟩ := (p1.mono i53) H51 w54 (Inc.rfl _) S52.sl y21 v66 (h67.mono i53) r68 hr69
  refine FL.call rfl rfl rfl (E.callV he76 (Eq.trans rfl hv75) (appA (A1 rfl) cs74)) hc77 ?_
  rintro e w70 ⟨rfl, r71⟩
  refine ⟨_, rfl, ?_⟩
  have S72 := S52.call r71
  refine FL.nil ?_
  rcases ifB hp with ⟨c78, hp⟩ | ⟨c78, hp⟩
  ·
   refine FW.condT rfl c78 ?_
   refine FW.seq (FW.region ?_)
   refine FL.v (E.move (v := Value.int .i64 ((i22 : Nat) : Int)) rfl) ?_
   refine FL.v (E.assign (v := Value.int .i64 ((i22 : Nat) : Int)) rfl) ?_
   refine FL.nil ?_
   refine FW.ret ?_
   obtain rfl := Option.some.inj hp
   exact ⟨nofun, rfl, ⟨.inr rfl, res1 rfl rfl ⟨rfl, S72.back⟩⟩⟩
  ·
   refine FW.condF rfl c78 ?_
   refine FW.skip (FW.region ?_)
   refine FL.v (E.add k56 rfl) ?_
   refine FL.v (E.move (v := Value.int .i64 (wr (((i22 : Nat) : Int) + 1))) rfl) ?_
   refine FL.nil ?_
   obtain rfl := Option.some.inj hp
   exact ⟨rfl, ⟨_, S72, i53, (nat_succ rfl (lt_of_get hx22) (p0.mono i53).le), k57, k58, k59⟩⟩
 ·
  clear hp hq
  rintro s22 f89 w88 ⟨H85, S86, i87, k90, k91, k92, k93⟩
  refine FW.seq (FW.region ?_)
  refine FL.v (E.lss k90 k93) ?_
  refine FL.nil (FW.seq ?_)
  refine FW.condF rfl dlt_len ?_
  refine FW.exit ?_
  exact ⟨nofun, rfl, ⟨_, S86, i87⟩⟩
 ·
  clear hq
  intro e f84 w83 hD
  rcases q22 with s22 | x22
  ·
   obtain ⟨rfl, hD⟩ := hD
   obtain ⟨H80, S81, i82⟩ := hD
   replace hp := el_go hp
   refine FW.seq (FW.region ?_)
   refine FL.v (E.assign (v := Value.int .i64 (-1)) rfl) ?_
   refine FL.nil ?_
   refine FW.ret ?_
   obtain rfl := Option.some.inj hp
   exact ⟨.inr rfl, res1 rfl rfl ⟨rfl, S81.back⟩⟩
  ·
   obtain ⟨he, hL⟩ := hD
   replace hp := el_rt hp
   obtain rfl := Option.some.inj hp
   subst he
   exact hL

theorem w_slices_Equal_int_int {Ha : GH} {wa : World} (hs : Sl Ha wa) (v0 : Value) (a0 : List Int) (p0 : RSl Ha eI 1 v0 a0) (v1 : Value) (a1 : List Int) (p1 : RSl Ha eI 1 v1 a1) {r : Bool} (hp : (PF.slices_Equal_int_int a0 a1) = some r) :
  Calls Tryz.prog 75 #[v0, v1] wa (Sc Ha wa (Value.bool r)) := by
 unfold PF.slices_Equal_int_int at hp
 have S0 := St.init hs
 refine calls_go (N := 26) (args := [v0, v1]) Tryz.func75 rfl rfl rfl ?_
 refine FW.seq (FW.region ?_)
 refine FL.v (E.assign (v := Value.bool false) rfl) ?_
 refine FL.nil (FW.seq (FW.seq (FW.region ?_)))
 refine FL.v (E.move (v := v0) rfl) ?_
 refine FL.v (E.lenP te76 rfl p0) ?_
 refine FL.v (E.move (v := v1) rfl) ?_
 refine FL.v (E.lenP te76 rfl p1) ?_
 refine FL.v (E.neq rfl rfl) ?_
 refine FL.nil ?_
 rcases ifB hp with ⟨c21, hp⟩ | ⟨c21, hp⟩
 ·
  refine FW.condT rfl c21 ?_
  refine FW.seq (FW.region ?_)
  refine FL.v (E.assign (v := Value.bool false) rfl) ?_
  refine FL.nil ?_
  refine FW.ret ?_
  obtain rfl := Option.some.inj hp
  exact ⟨.inr rfl, res1 rfl rfl ⟨rfl, S0.back⟩⟩
 ·
  refine FW.condF rfl c21 ?_
  refine FW.skip (FW.seq (FW.seq (FW.region ?_)))
  refine FL.v (E.move (v := v0) rfl) ?_
  refine FL.v (E.lenP te76 rfl p0) ?_
  refine FL.v (E.move (v := Value.int .i64 0) rfl) ?_
  refine FL.nil ?_
  obtain ⟨q23, hq, hp⟩ := bndR hp
  refine FW.block ?_
  refine FW.mono (FW.forL (S := Unit) (X := Bool) (fun (i23 : Nat) (s23 : Unit) f w => ∃ H : GH, St Ha wa H w [] ∧ Inc Ha H ∧ f 13 = Value.int .i64 ((i23 : Nat) : Int) ∧ f 0 = v0 ∧ f 1 = v1 ∧ f 12 = Value.int .i64 (len a0)) (fun q e f w => match q with | .go s23 => e = Exit.exit 0 ∧ (∃ H : GH, St Ha wa H w [] ∧ Inc Ha H) | .rt x => ((e = Exit.ret) ∧ (fun e f w => (e = Exit.normal ∨ e = Exit.ret) ∧ ∀ a, Fr (δ := []) 26 a f → ∃ v, (results Tryz.f75 a.tmps).run Tryz.prog w = .ok v w ∧ (Sc Ha wa (Value.bool x)) (.returned v) w) e f w)) hq ⟨_, S0, (Inc.rfl _), rfl, rfl, rfl, rfl⟩ ?_ ?_) ?_
  ·
   clear hp hq
   rintro i23 y22 s23 f56 w55 ⟨H52, S53, i54, k57, k58, k59, k60⟩ hx23 o80 hp
   refine FW.seq (FW.region ?_)
   refine FL.v (E.lssT k57 k60 (lss_len hx23)) ?_
   refine FL.nil (FW.seq ?_)
   refine FW.condT rfl rfl ?_
   refine FW.skip (FW.seq (FW.block (FW.seq (FW.region ?_))))
   refine FL.v (E.move k57) ?_
   refine FL.v (E.assign (v := Value.int .i64 ((i23 : Nat) : Int)) rfl) ?_
   refine FL.nil (FW.seq ?_)
   refine FW.draw (fun w' => Run w55.heap.size H52 w55 H52 w') (by kernel_rfl) (by kernel_rfl) (run_drew S53.sl) ?_
   refine FD.val rfl rfl rfl (fun w' hw' => (E.move k58)) ?_
   refine FD.val rfl rfl rfl (fun w' hw' => (E.move (v := Value.int .i64 ((i23 : Nat) : Int)) rfl)) ?_
   obtain ⟨p62, cs63, pt64, l65, at66, rel67⟩ := p0.at (ix_nat hx23)
   obtain rfl := eI_open rel67
   refine FD.val rfl rfl rfl (fun w' hw' => (E.indexAddr te76 rfl rfl pt64)) ?_
   refine FD.val rfl rfl rfl (fun w' hw' => (E.load rfl (run_load0 Tryz.isAgg3 ((at66.mono i54).now (S53.call hw').sl) rfl))) ?_
   refine FD.val rfl rfl rfl (fun w' hw' => (E.move k59)) ?_
   refine FD.val rfl rfl rfl (fun w' hw' => (E.move (v := Value.int .i64 ((i23 : Nat) : Int)) rfl)) ?_
   obtain ⟨x74, hx75, hp⟩ := bnd hp
   obtain ⟨p68, cs69, pt70, l71, at72, rel73⟩ := p1.at hx75
   obtain rfl := eI_open rel73
   refine FD.val rfl rfl rfl (fun w' hw' => (E.indexAddr te76 rfl rfl pt70)) ?_
   refine FD.val rfl rfl rfl (fun w' hw' => (E.load rfl (run_load0 Tryz.isAgg3 ((at72.mono i54).now (S53.call hw').sl) rfl))) ?_
   refine FD.val rfl rfl rfl (fun w' hw' => (E.neq rfl rfl)) ?_
   refine FD.nil ?_
   intro w76 r78
   have S77 := S53.call r78
   rcases ifB hp with ⟨c79, hp⟩ | ⟨c79, hp⟩
   ·
    refine FW.condT rfl c79 ?_
    refine FW.seq (FW.region ?_)
    refine FL.v (E.assign (v := Value.bool false) rfl) ?_
    refine FL.nil ?_
    refine FW.ret ?_
    obtain rfl := Option.some.inj hp
    exact ⟨nofun, rfl, ⟨.inr rfl, res1 rfl rfl ⟨rfl, S77.back⟩⟩⟩
   ·
    refine FW.condF rfl c79 ?_
    refine FW.skip (FW.region ?_)
    refine FL.v (E.add k57 rfl) ?_
    refine FL.v (E.move (v := Value.int .i64 (wr (((i23 : Nat) : Int) + 1))) rfl) ?_
    refine FL.nil ?_
    obtain rfl := Option.some.inj hp
    exact ⟨rfl, ⟨_, S77, i54, (nat_succ rfl (lt_of_get hx23) (p0.mono i54).le), k58, k59, k60⟩⟩
  ·
   clear hp hq
   rintro s23 f90 w89 ⟨H86, S87, i88, k91, k92, k93, k94⟩
   refine FW.seq (FW.region ?_)
   refine FL.v (E.lss k91 k94) ?_
   refine FL.nil (FW.seq ?_)
   refine FW.condF rfl dlt_len ?_
   refine FW.exit ?_
   exact ⟨nofun, rfl, ⟨_, S87, i88⟩⟩
  ·
   clear hq
   intro e f85 w84 hD
   rcases q23 with s23 | x23
   ·
    obtain ⟨rfl, hD⟩ := hD
    obtain ⟨H81, S82, i83⟩ := hD
    replace hp := el_go hp
    refine FW.seq (FW.region ?_)
    refine FL.v (E.assign (v := Value.bool true) rfl) ?_
    refine FL.nil ?_
    refine FW.ret ?_
    obtain rfl := Option.some.inj hp
    exact ⟨.inr rfl, res1 rfl rfl ⟨rfl, S82.back⟩⟩
   ·
    obtain ⟨he, hL⟩ := hD
    replace hp := el_rt hp
    obtain rfl := Option.some.inj hp
    subst he
    exact hL

theorem w_impl_indexOf_1 {Ha : GH} {wa : World} (hs : Sl Ha wa) (v0 : Value) (a0 : List Int) (p0 : RSl Ha eI 1 v0 a0) (q0 : Addr) (b0 : List Int) (u0_0 : Value) (g0_0 : RSl Ha eI 1 u0_0 b0) (c0 : CAt Ha q0 [u0_0]) {r : Bool} (hp : (PF.impl_indexOf_1 a0 b0) = some r) :
  Calls Tryz.prog 303 #[v0, Value.pointer (some q0)] wa (Sc Ha wa (Value.bool r)) := by
 unfold PF.impl_indexOf_1 at hp
 have S0 := St.init hs
 refine calls_go (N := 7) (args := [v0, Value.pointer (some q0)]) Tryz.func303 rfl rfl rfl ?_
 refine FW.seq (FW.region ?_)
 refine FL.v (E.assign (v := Value.bool false) rfl) ?_
 refine FL.nil (FW.seq (FW.region ?_))
 refine FL.v (E.load rfl (run_load0 Tryz.isAgg76 (c0.now S0.sl) rfl)) ?_
 refine FL.v (E.move (v := v0) rfl) ?_
 obtain ⟨r21, hr22, hp⟩ := bnd hp
 refine FL.call rfl rfl rfl (E.call Tryz.call75 (A2 rfl rfl)) (w_slices_Equal_int_int S0.sl u0_0 b0 g0_0 v0 a0 p0 hr22) ?_
 rintro e w23 ⟨rfl, r24⟩
 refine ⟨_, rfl, ?_⟩
 have S25 := S0.call r24
 refine FL.v (E.assign (v := Value.bool r21) rfl) ?_
 refine FL.nil ?_
 refine FW.ret ?_
 obtain rfl := Option.some.inj hp
 exact ⟨.inr rfl, res1 rfl rfl ⟨rfl, S25.back⟩⟩

theorem w_impl_indexOf {Ha : GH} {wa : World} (hs : Sl Ha wa) (v0 : Value) (a0 : List (List Int)) (p0 : RSl Ha (eL eI 1) 1 v0 a0) (v1 : Value) (a1 : List Int) (p1 : RSl Ha eI 1 v1 a1) {r : Int} (hp : (PF.impl_indexOf a0 a1) = some r) :
  Calls Tryz.prog 286 #[v0, v1] wa (Sc Ha wa (Value.int .i64 r)) := by
 unfold PF.impl_indexOf at hp
 have S0 := St.init hs
 refine calls_go (N := 8) (args := [v0, v1]) Tryz.func286 rfl rfl rfl ?_
 refine FW.seq (FW.region ?_)
 obtain ⟨b21, w22, run23, S24⟩ := S0.box (P := Tryz.prog) 76 [v1] (v := v1) p1.cells (ones_cons p1.one ones_nil)
 refine FL.v (E.box rfl run23) ?_
 obtain ⟨H25, S26, i27, at28⟩ := S24.sealBox (i := 0) (l' := []) rfl rfl
 refine FL.v (E.assign (v := Value.int .i64 0) rfl) ?_
 refine FL.nil (FW.seq (FW.region ?_))
 refine FL.v (E.move (v := v0) rfl) ?_
 refine FL.v (E.makeFunc A0 (A1 rfl)) ?_
 obtain ⟨r29, hr30, hp⟩ := bnd hp
 refine FL.call rfl rfl rfl (E.call Tryz.call271 (A2 rfl rfl)) (w_slices_IndexFunc_LLint_Lint S26.sl v0 a0 (p0.mono i27) (Value.func (.func 303) #[] #[Value.pointer (some ⟨b21, 0, none⟩)]) (fun x0 => PF.impl_indexOf_1 x0 a1) (fun H2 w2 hi2 hs2 x0 y0 z0 r hr => ⟨303, #[Value.pointer (some ⟨b21, 0, none⟩)], rfl, Tryz.call303, w_impl_indexOf_1 hs2 y0 x0 z0 ⟨b21, 0, none⟩ a1 v1 ((p1.mono i27).mono hi2) (at28.mono hi2) hr⟩) hr30) ?_
 rintro e w31 ⟨rfl, r32⟩
 refine ⟨_, rfl, ?_⟩
 have S33 := S26.call r32
 refine FL.v (E.assign (v := Value.int .i64 r29) rfl) ?_
 refine FL.nil ?_
 refine FW.ret ?_
 obtain rfl := Option.some.inj hp
 exact ⟨.inr rfl, res1 rfl rfl ⟨rfl, S33.back⟩⟩

theorem w_impl_hasList {Ha : GH} {wa : World} (hs : Sl Ha wa) (v0 : Value) (a0 : List (List Int)) (p0 : RSl Ha (eL eI 1) 1 v0 a0) (v1 : Value) (a1 : List Int) (p1 : RSl Ha eI 1 v1 a1) {r : Bool} (hp : (PF.impl_hasList a0 a1) = some r) :
  Calls Tryz.prog 244 #[v0, v1] wa (Sc Ha wa (Value.bool r)) := by
 unfold PF.impl_hasList at hp
 have S0 := St.init hs
 refine calls_go (N := 9) (args := [v0, v1]) Tryz.func244 rfl rfl rfl ?_
 refine FW.seq (FW.region ?_)
 refine FL.v (E.assign (v := Value.bool false) rfl) ?_
 refine FL.nil (FW.seq (FW.region ?_))
 refine FL.v (E.move (v := v0) rfl) ?_
 refine FL.v (E.move (v := v1) rfl) ?_
 obtain ⟨r21, hr22, hp⟩ := bnd hp
 refine FL.call rfl rfl rfl (E.call Tryz.call286 (A2 rfl rfl)) (w_impl_indexOf S0.sl v0 a0 p0 v1 a1 p1 hr22) ?_
 rintro e w23 ⟨rfl, r24⟩
 refine ⟨_, rfl, ?_⟩
 have S25 := S0.call r24
 refine FL.v (E.geq rfl rfl) ?_
 refine FL.v (E.assign (v := Value.bool (decide (0 ≤ r21))) rfl) ?_
 refine FL.nil ?_
 refine FW.ret ?_
 obtain rfl := Option.some.inj hp
 exact ⟨.inr rfl, res1 rfl rfl ⟨rfl, S25.back⟩⟩

@[reducible] def p_slices_Clone_impl_config_Lint (Ha : GH) (wa : World) (r : (List (List Int))) : Ending → World → Prop :=
 fun e w' => ∃ H' : GH, ∃ v0 : Value, ∃ n0 : Nat, ∃ c0 : List Value, e = .returned (v0) ∧ St Ha wa H' w' [.row 76 1 v0 n0 c0] ∧ Els H' (eL eI 1) 1 c0 r
theorem w_slices_Clone_impl_config_Lint {Ha : GH} {wa : World} (hs : Sl Ha wa) (v0 : Value) (a0 : List (List Int)) (p0 : RSl Ha (eL eI 1) 1 v0 a0) {r : (List (List Int))} (hp : (PF.slices_Clone_impl_config_Lint a0) = some r) :
  Calls Tryz.prog 245 #[v0] wa (p_slices_Clone_impl_config_Lint Ha wa r) := by
 unfold PF.slices_Clone_impl_config_Lint at hp
 have S0 := St.init hs
 refine calls_go (N := 8) (args := [v0]) Tryz.func245 rfl rfl rfl ?_
 refine FW.seq (FW.region ?_)
 refine FL.v (E.assign (v := Value.slice none 0 0) rfl) ?_
 refine FL.nil (FW.seq (FW.seq (FW.region ?_)))
 refine FL.v (E.move (v := v0) rfl) ?_
 obtain ⟨nb21, run22, hn23⟩ := RSl.nilTest te94 p0
 refine FL.v (run22 _ _ _ _ _ _ _ _ _ _ _ _ rfl rfl) ?_
 refine FL.nil ?_
 rcases bcase nb21 with c24 | c24
 ·
  refine FW.condT (b := nb21) rfl c24 ?_
  rw [hn23 c24, app_nil2] at hp
  refine FW.seq (FW.region ?_)
  refine FL.v (E.assign (v := Value.slice none 0 0) rfl) ?_
  refine FL.nil ?_
  refine FW.ret ?_
  obtain rfl := Option.some.inj hp
  exact ⟨.inr rfl, res1 rfl rfl ⟨_, _, _, _, rfl, (S0.nil 76 1), Els.nil⟩⟩
 ·
  refine FW.condF (b := nb21) rfl c24 ?_
  refine FW.skip (FW.seq (FW.region ?_))
  obtain ⟨v25, w26, run27, S28⟩ := S0.buildSlice (P := Tryz.prog) te94 [] (parts := #[]) (cells := []) rfl szs_nil fc_nil ones_nil (Nat.le_of_ble_eq_true rfl)
  have els29 : Els (up wa.heap.size Ha) (eL eI 1) 1 [] [] := Els.nil
  refine FL.v (E.buildSlice (B0) run27) ?_
  refine FL.v (E.move (v := v0) rfl) ?_
  obtain ⟨xs30, hz31, hp⟩ := bnd hp
  obtain ⟨v32, w35, n33, cs34, run36, S37, els38⟩ := S28.appendP (P := Tryz.prog) (Inc.rfl _) te94 (i := 0) rfl (els29.mono upI) p0 hz31
  have S37 : St Ha wa Ha w35 [.row 76 1 v32 n33 cs34] := S37
  refine FL.v (E.append rfl rfl run36) ?_
  refine FL.v (E.assign (v := v32) rfl) ?_
  refine FL.nil ?_
  refine FW.ret ?_
  obtain rfl := Option.some.inj hp
  exact ⟨.inr rfl, res1 rfl rfl ⟨_, _, _, _, rfl, S37, els38⟩⟩

section
open Go.Shelf Go.RowKit Go.Lib Go.Sort
set_option maxHeartbeats 2000000 in
set_option maxRecDepth 100000 in
theorem Tryz.sort246_eq {α : Type} [Inhabited α] (enc : α → Value) (h1 : OneCell enc) (cf : α → α → Int) (hO : SWO (ltOf cf)) (g : Nat) (cb : Array Value) (blk off cap : Nat) (d : Array α) (w : World)
  (eg : ∀ args w, (callFunc g args).run Tryz.prog w = .ok (.enter g args) w) (hcmp : CmpLays1 Tryz.prog g cb enc cf blk off d.size w) (hH : Holds enc w blk off d) (hblk : blk < w.heap.size) (hsz : d.size < 4611686018427387904) :
  Calls Tryz.prog 246 #[.slice (some ⟨blk, off, none⟩) d.size cap, .func (.func g) #[] cb] w fun e w' =>
   e = .returned (.tuple #[]) ∧ ∃ d' n os, PermIn 0 d.size d d' ∧ SortedIn (ltOf cf) 0 d.size d' ∧ w' = sortWorld enc w blk off n d' os := by
 have hlim : Lib.bitLen d.size < 4611686018427387904 := Nat.lt_of_le_of_lt (Lib.bitLen_le d.size 62 (by omega) (by omega)) (by omega)
 have hp := Any.pdqsortCmpFunc_all (P := Tryz.prog) (ρ := Tryz.pdq133_ren) { Tryz.pdq133 with } enc cf g cb hO blk off cap d w eg hcmp ⟨h1, hH, hblk⟩ (d.size + 1) 0 d.size (Lib.bitLen d.size) d w (by omega) rfl (SW.start hH) (Nat.zero_le _) (Nat.le_refl _) hsz hlim (Or.inl rfl)
 change Calls Tryz.prog 133 _ _ _ at hp
 have hl : Calls Tryz.prog 134 #[.int .u64 (d.size : Int)] w fun e w' => e = .returned (.int .i64 (Lib.bitLen d.size : Nat)) ∧ w' = w := by
  have h := Any.bits_Len (SlLaysF0.n15.bits (P := Tryz.prog) (ρ := Tryz.bits134_ren) { Tryz.bits134 with }) (d.size : Int) w (by omega) (by omega)
  rwa [Int.toNat_natCast] at h
 have wr : IntKind.u64.wrap (d.size : Int) = d.size := by simp [IntKind.wrap, IntKind.bits, IntKind.signed]; omega
 have hs := pdq_sorts (ltOf cf) hO d 0 d.size (Lib.bitLen d.size) true true (Nat.zero_le _) (Nat.le_refl _) (Or.inl rfl)
 clear hH hcmp h1
 go_enter Tryz.func246, Tryz.ntmps246
 go_wp2_with (first | (go_at_call 134; refine hl.mono ?_; rintro e w' ⟨rfl, rfl⟩) | (go_at_call 133; refine hp.mono ?_; rintro e w' ⟨rfl, n, os, rfl⟩))
 go_end0
 exact ⟨rfl, _, n, os, hs.1, hs.2, rfl⟩
set_option maxHeartbeats 2000000 in
theorem Tryz.sort246_none (p : Option Addr) (cap : Nat) (fv : Value) (w : World) :
  Calls Tryz.prog 246 #[.slice p 0 cap, fv] w fun e w' => e = .returned (.tuple #[]) ∧ w' = w := by
 have hp := fun lim W => AnyF.pdqsortCmpFunc_none (P := Tryz.prog) (ρ := Tryz.pdq133_ren) { Tryz.pdq133 with } p cap lim fv W
 have hl : ∀ W, Calls Tryz.prog 134 #[.int .u64 0] W fun e w' => e = .returned (.int .i64 (Lib.bitLen 0 : Nat)) ∧ w' = W := fun W => by
  have h := Any.bits_Len (SlLaysF0.n15.bits (P := Tryz.prog) (ρ := Tryz.bits134_ren) { Tryz.bits134 with }) 0 W (by omega) (by omega)
  exact h
 go_enter Tryz.func246, Tryz.ntmps246
 go_wp2_with (first | (go_at_call 134; refine (hl _).mono ?_; rintro e w' ⟨rfl, rfl⟩) | (go_at_call 133; refine (hp _ _).mono ?_; rintro e w' ⟨rfl, rfl⟩))
 go_end0
 exact ⟨rfl, rfl⟩
end
@[reducible] def p_slices_SortFunc_impl_config_Lint (H0 : GH) (w0 : World) (Ha : GH) (L : List MO) (v0 : Value) (n0 : Nat) (r : (List (List Int))) : Ending → World → Prop :=
 fun e w' => ∃ H' : GH, ∃ c0k : List Value, e = .returned (Value.tuple #[]) ∧ (St H0 w0 H' w' (.row 76 1 v0 n0 c0k :: L) ∧ Inc Ha H') ∧ Els H' (eL eI 1) 1 c0k r
theorem w_slices_SortFunc_impl_config_Lint {H0 Ha : GH} {w0 wa : World} {L : List MO} {v0 : Value} {n0 : Nat} {k0 : List Value} (S0 : St H0 w0 Ha wa (.row 76 1 v0 n0 k0 :: L)) (a0 : List (List Int)) (p0 : Els Ha (eL eI 1) 1 k0 a0) (v1 : Value) (a1 : (List Int) → (List Int) → Option Int) (p1 : Fn_List_Int_List_Int_to_I Tryz.prog Ha v1 a1) {r : (List (List Int))} (hp : (PF.slices_SortFunc_impl_config_Lint a0 a1) = some r) :
  Calls Tryz.prog 246 #[v0, v1] wa (p_slices_SortFunc_impl_config_Lint H0 w0 Ha L v0 n0 r) := by
 refine (St.sortF (l := .row 76 1 v0 n0 k0 :: L) (i := 0) (Inc.rfl _) S0 rfl p0 (fun H2 w2 hi hs2 c x hc d y hd r hr => by obtain ⟨y0, e0, z0⟩ := eL_open hc; cases e0; obtain ⟨y1, e1, z1⟩ := eL_open hd; cases e1; exact p1 H2 w2 hi hs2 x c z0 y d z1 r hr) Tryz.sort246_none (fun α _ enc h1 cf hO g cb blk off cap d w eg hc hH hb hs => Tryz.sort246_eq enc h1 cf hO g cb blk off cap d w eg hc hH hb hs) hp).mono ?_
 rintro e w' ⟨rfl, c', h1, h2⟩
 exact ⟨_, _, rfl, ⟨h1, Inc.rfl _⟩, h2⟩

theorem w_slices_CompareFunc_int_int_int_int {Ha : GH} {wa : World} (hs : Sl Ha wa) (v0 : Value) (a0 : List Int) (p0 : RSl Ha eI 1 v0 a0) (v1 : Value) (a1 : List Int) (p1 : RSl Ha eI 1 v1 a1) (v2 : Value) (a2 : Int → Int → Option Int) (p2 : Fn_I_I_to_I Tryz.prog Ha v2 a2) {r : Int} (hp : (PF.slices_CompareFunc_int_int_int_int a0 a1 a2) = some r) :
  Calls Tryz.prog 137 #[v0, v1, v2] wa (Sc Ha wa (Value.int .i64 r)) := by
 unfold PF.slices_CompareFunc_int_int_int_int at hp
 have S0 := St.init hs
 refine calls_go (N := 39) (args := [v0, v1, v2]) Tryz.func137 rfl rfl rfl ?_
 refine FW.seq (FW.region ?_)
 refine FL.v (E.assign (v := Value.int .i64 0) rfl) ?_
 refine FL.nil (FW.seq (FW.seq (FW.region ?_)))
 refine FL.v (E.move (v := v0) rfl) ?_
 refine FL.v (E.lenP te76 rfl p0) ?_
 refine FL.v (E.move (v := Value.int .i64 0) rfl) ?_
 refine FL.nil ?_
 obtain ⟨q22, hq, hp⟩ := bndR hp
 refine FW.block ?_
 refine FW.mono (FW.forL (S := Unit) (X := Int) (fun (i22 : Nat) (s22 : Unit) f w => ∃ H : GH, St Ha wa H w [] ∧ Inc Ha H ∧ f 13 = Value.int .i64 ((i22 : Nat) : Int) ∧ f 0 = v0 ∧ f 1 = v1 ∧ f 2 = v2 ∧ f 11 = v0 ∧ f 12 = Value.int .i64 (len a0)) (fun q e f w => match q with | .go s22 => e = Exit.exit 0 ∧ (∃ H : GH, St Ha wa H w [] ∧ Inc Ha H ∧ f 0 = v0 ∧ f 1 = v1) | .rt x => ((e = Exit.ret) ∧ (fun e f w => (e = Exit.normal ∨ e = Exit.ret) ∧ ∀ a, Fr (δ := []) 39 a f → ∃ v, (results Tryz.f137 a.tmps).run Tryz.prog w = .ok v w ∧ (Sc Ha wa (Value.int .i64 x)) (.returned v) w) e f w)) hq ⟨_, S0, (Inc.rfl _), rfl, rfl, rfl, rfl, rfl, rfl⟩ ?_ ?_) ?_
 ·
  clear hp hq
  rintro i22 y21 s22 f64 w63 ⟨H60, S61, i62, k65, k66, k67, k68, k69, k70⟩ hx22 o97 hp
  refine FW.seq (FW.region ?_)
  refine FL.v (E.lssT k65 k70 (lss_len hx22)) ?_
  refine FL.nil (FW.seq ?_)
  refine FW.condT rfl rfl ?_
  refine FW.skip (FW.seq (FW.block (FW.seq (FW.region ?_))))
  refine FL.v (E.move k65) ?_
  obtain ⟨p71, cs72, pt73, l74, at75, rel76⟩ := p0.at (ix_nat hx22)
  obtain rfl := eI_open rel76
  refine FL.v (E.indexAddr te76 k69 k65 pt73) ?_
  refine FL.v (E.load rfl (run_load0 Tryz.isAgg3 ((at75.mono i62).now S61.sl) rfl)) ?_
  refine FL.v (E.assign (v := Value.int .i64 ((i22 : Nat) : Int)) rfl) ?_
  refine FL.v (E.assign (v := Value.int .i64 y21) rfl) ?_
  refine FL.nil (FW.seq (FW.seq (FW.region ?_)))
  refine FL.v (E.move (v := Value.int .i64 ((i22 : Nat) : Int)) rfl) ?_
  refine FL.v (E.move k67) ?_
  refine FL.v (E.lenP te76 rfl p1) ?_
  refine FL.v (E.geq rfl rfl) ?_
  refine FL.nil ?_
  rcases ifB hp with ⟨c77, hp⟩ | ⟨c77, hp⟩
  ·
   refine FW.condT rfl c77 ?_
   refine FW.seq (FW.region ?_)
   refine FL.v (E.assign (v := Value.int .i64 1) rfl) ?_
   refine FL.nil ?_
   refine FW.ret ?_
   obtain rfl := Option.some.inj hp
   exact ⟨nofun, rfl, ⟨.inr rfl, res1 rfl rfl ⟨rfl, S61.back⟩⟩⟩
  ·
   refine FW.condF rfl c77 ?_
   refine FW.skip (FW.seq (FW.region ?_))
   refine FL.v (E.move k67) ?_
   refine FL.v (E.move (v := Value.int .i64 ((i22 : Nat) : Int)) rfl) ?_
   obtain ⟨x84, hx85, hp⟩ := bnd hp
   obtain ⟨p78, cs79, pt80, l81, at82, rel83⟩ := p1.at hx85
   obtain rfl := eI_open rel83
   refine FL.v (E.indexAddr te76 rfl rfl pt80) ?_
   refine FL.v (E.load rfl (run_load0 Tryz.isAgg3 ((at82.mono i62).now S61.sl) rfl)) ?_
   refine FL.v (E.assign (v := Value.int .i64 x84) rfl) ?_
   refine FL.nil (FW.seq (FW.region ?_))
   refine FL.v (E.move k68) ?_
   refine FL.v (E.move (v := Value.int .i64 y21) rfl) ?_
   refine FL.v (E.move (v := Value.int .i64 x84) rfl) ?_
   obtain ⟨r86, hr87, hp⟩ := bnd hp
   obtain ⟨fi91, cs92, hv93, he94, hc95⟩ := (p2.mono i62) H60 w63 (Inc.rfl _) S61.sl y21 x84 r86 hr87
   refine FL.call rfl rfl rfl (E.callV he94 (Eq.trans rfl hv93) (appA (A2 rfl rfl) cs92)) hc95 ?_
   rintro e w88 ⟨rfl, r89⟩
   refine ⟨_, rfl, ?_⟩
   have S90 := S61.call r89
   refine FL.v (E.assign (v := Value.int .i64 r86) rfl) ?_
   refine FL.nil (FW.seq (FW.region ?_))
   refine FL.v (E.move (v := Value.int .i64 r86) rfl) ?_
   refine FL.v (E.neq rfl rfl) ?_
   refine FL.nil ?_
   rcases ifB hp with ⟨c96, hp⟩ | ⟨c96, hp⟩
   ·
    refine FW.condT rfl c96 ?_
    refine FW.seq (FW.region ?_)
    refine FL.v (E.move (v := Value.int .i64 r86) rfl) ?_
    refine FL.v (E.assign (v := Value.int .i64 r86) rfl) ?_
    refine FL.nil ?_
    refine FW.ret ?_
    obtain rfl := Option.some.inj hp
    exact ⟨nofun, rfl, ⟨.inr rfl, res1 rfl rfl ⟨rfl, S90.back⟩⟩⟩
   ·
    refine FW.condF rfl c96 ?_
    refine FW.skip (FW.region ?_)
    refine FL.v (E.add k65 rfl) ?_
    refine FL.v (E.move (v := Value.int .i64 (wr (((i22 : Nat) : Int) + 1))) rfl) ?_
    refine FL.nil ?_
    obtain rfl := Option.some.inj hp
    exact ⟨rfl, ⟨_, S90, i62, (nat_succ rfl (lt_of_get hx22) (p0.mono i62).le), k66, k67, k68, k69, k70⟩⟩
 ·
  clear hp hq
  rintro s22 f110 w109 ⟨H106, S107, i108, k111, k112, k113, k114, k115, k116⟩
  refine FW.seq (FW.region ?_)
  refine FL.v (E.lss k111 k116) ?_
  refine FL.nil (FW.seq ?_)
  refine FW.condF rfl dlt_len ?_
  refine FW.exit ?_
  exact ⟨nofun, rfl, ⟨_, S107, i108, k112, k113⟩⟩
 ·
  clear hq
  intro e f102 w101 hD
  rcases q22 with s22 | x22
  ·
   obtain ⟨rfl, hD⟩ := hD
   obtain ⟨H98, S99, i100, k103, k104⟩ := hD
   replace hp := el_go hp
   refine FW.seq (FW.seq (FW.region ?_))
   refine FL.v (E.move k103) ?_
   refine FL.v (E.lenP te76 rfl p0) ?_
   refine FL.v (E.move k104) ?_
   refine FL.v (E.lenP te76 rfl p1) ?_
   refine FL.v (E.lss rfl rfl) ?_
   refine FL.nil ?_
   rcases ifB hp with ⟨c105, hp⟩ | ⟨c105, hp⟩
   ·
    refine FW.condT rfl c105 ?_
    refine FW.seq (FW.region ?_)
    refine FL.v (E.assign (v := Value.int .i64 (-1)) rfl) ?_
    refine FL.nil ?_
    refine FW.ret ?_
    obtain rfl := Option.some.inj hp
    exact ⟨.inr rfl, res1 rfl rfl ⟨rfl, S99.back⟩⟩
   ·
    refine FW.condF rfl c105 ?_
    refine FW.skip (FW.seq (FW.region ?_))
    refine FL.v (E.assign (v := Value.int .i64 0) rfl) ?_
    refine FL.nil ?_
    refine FW.ret ?_
    obtain rfl := Option.some.inj hp
    exact ⟨.inr rfl, res1 rfl rfl ⟨rfl, S99.back⟩⟩
  ·
   obtain ⟨he, hL⟩ := hD
   replace hp := el_rt hp
   obtain rfl := Option.some.inj hp
   subst he
   exact hL

theorem w_impl_compareClauses {Ha : GH} {wa : World} (hs : Sl Ha wa) (v0 : Value) (a0 : List Int) (p0 : RSl Ha eI 1 v0 a0) (v1 : Value) (a1 : List Int) (p1 : RSl Ha eI 1 v1 a1) {r : Int} (hp : (PF.impl_compareClauses a0 a1) = some r) :
  Calls Tryz.prog 73 #[v0, v1] wa (Sc Ha wa (Value.int .i64 r)) := by
 unfold PF.impl_compareClauses at hp
 have S0 := St.init hs
 refine calls_go (N := 15) (args := [v0, v1]) Tryz.func73 rfl rfl rfl ?_
 refine FW.seq (FW.region ?_)
 refine FL.v (E.assign (v := Value.int .i64 0) rfl) ?_
 refine FL.nil (FW.seq (FW.region ?_))
 refine FL.v (E.move (v := v0) rfl) ?_
 refine FL.v (E.lenP te76 rfl p0) ?_
 refine FL.v (E.move (v := v1) rfl) ?_
 refine FL.v (E.lenP te76 rfl p1) ?_
 refine FL.call rfl rfl rfl (E.call Tryz.call136 (A2 rfl rfl)) (w_cmp_Compare_int S0.sl (len a0) (len a1)) ?_
 rintro e w21 ⟨rfl, r22⟩
 refine ⟨_, rfl, ?_⟩
 have S23 := S0.call r22
 refine FL.v (E.move (v := v0) rfl) ?_
 refine FL.v (E.move (v := v1) rfl) ?_
 obtain ⟨r24, hr25, hp⟩ := bnd hp
 refine FL.call rfl rfl rfl (E.call Tryz.call137 (A3 rfl rfl rfl)) (w_slices_CompareFunc_int_int_int_int S23.sl v0 a0 p0 v1 a1 p1 (Value.func (.func 138) #[] #[]) (fun x0 x1 => PF.impl_compareLiterals x0 x1) (fun H2 w2 hi2 hs2 x0 x1 r hr => ⟨138, #[], rfl, Tryz.call138, w_impl_compareLiterals hs2 x0 x1  hr⟩) hr25) ?_
 rintro e w26 ⟨rfl, r27⟩
 refine ⟨_, rfl, ?_⟩
 have S28 := S23.call r27
 obtain ⟨v29, w30, run31, S32⟩ := S28.buildSlice (P := Tryz.prog) te76 [Value.int .i64 (PF.cmp_Compare_int (len a0) (len a1)), Value.int .i64 r24] (parts := #[(0, Value.int .i64 (PF.cmp_Compare_int (len a0) (len a1))), (1, Value.int .i64 r24)]) (cells := [Value.int .i64 (PF.cmp_Compare_int (len a0) (len a1)), Value.int .i64 r24]) rfl (szs_cons rfl (szs_cons rfl szs_nil)) (fc_cons rfl (fc_cons rfl fc_nil)) (ones_cons rfl (ones_cons rfl ones_nil)) (Nat.le_of_ble_eq_true rfl)
 have els33 : Els (up wa.heap.size Ha) eI 1 [Value.int .i64 (PF.cmp_Compare_int (len a0) (len a1)), Value.int .i64 r24] [(PF.cmp_Compare_int (len a0) (len a1)), r24] := (Els.snoc (H := (up wa.heap.size Ha)) (E := eI) (k := 1) (c := [Value.int .i64 r24]) (x := r24) (Els.snoc (H := (up wa.heap.size Ha)) (E := eI) (k := 1) (c := [Value.int .i64 (PF.cmp_Compare_int (len a0) (len a1))]) (x := (PF.cmp_Compare_int (len a0) (len a1))) Els.nil rfl rfl) rfl rfl)
 refine FL.v (E.buildSlice (B2 rfl rfl) run31) ?_
 obtain ⟨H34, S35, i36, h37, nv38⟩ := S32.sealRowU (i := 0) (l' := []) rfl els33 (by decide) rfl
 obtain ⟨r39, hr40, hp⟩ := bnd hp
 refine FL.call rfl rfl rfl (E.call Tryz.call135 (A1 rfl)) (w_cmp_Or_int S35.sl v29 [(PF.cmp_Compare_int (len a0) (len a1)), r24] (h37.mono upI) hr40) ?_
 rintro e w41 ⟨rfl, r42⟩
 refine ⟨_, rfl, ?_⟩
 have r42 := Run.lend i36 S32.sl r42
 have S43 := S32.call r42
 refine FL.v (E.assign (v := Value.int .i64 r39) rfl) ?_
 refine FL.nil ?_
 refine FW.ret ?_
 obtain rfl := Option.some.inj hp
 exact ⟨.inr rfl, res1 rfl rfl ⟨rfl, S43.back⟩⟩

@[reducible] def p_impl_config_with (Ha : GH) (wa : World) (r : ((List (List Int)) × Bool)) : Ending → World → Prop :=
 fun e w' => ∃ H' : GH, ∃ v0 : Value, ∃ n0 : Nat, ∃ c0 : List Value, e = .returned (Value.tuple #[v0, Value.bool r.2]) ∧ St Ha wa H' w' [.row 76 1 v0 n0 c0] ∧ Els H' (eL eI 1) 1 c0 r.1
theorem w_impl_config_with {Ha : GH} {wa : World} (hs : Sl Ha wa) (v0 : Value) (a0 : List (List Int)) (p0 : RSl Ha (eL eI 1) 1 v0 a0) (v1 : Value) (a1 : List Int) (p1 : RSl Ha eI 1 v1 a1) {r : ((List (List Int)) × Bool)} (hp : (PF.impl_config_with a0 a1) = some r) :
  Calls Tryz.prog 193 #[v0, v1] wa (p_impl_config_with Ha wa r) := by
 unfold PF.impl_config_with at hp
 have S0 := St.init hs
 refine calls_go (N := 18) (args := [v0, v1]) Tryz.func193 rfl rfl rfl ?_
 refine FW.seq (FW.region ?_)
 refine FL.v (E.assign (v := Value.slice none 0 0) rfl) ?_
 refine FL.v (E.assign (v := Value.bool false) rfl) ?_
 refine FL.nil (FW.seq (FW.seq (FW.region ?_)))
 refine FL.v (E.move (v := v0) rfl) ?_
 refine FL.v (E.move (v := v1) rfl) ?_
 obtain ⟨r21, hr22, hp⟩ := bnd hp
 refine FL.call rfl rfl rfl (E.call Tryz.call244 (A2 rfl rfl)) (w_impl_hasList S0.sl v0 a0 p0 v1 a1 p1 hr22) ?_
 rintro e w23 ⟨rfl, r24⟩
 refine ⟨_, rfl, ?_⟩
 have S25 := S0.call r24
 refine FL.nil ?_
 rcases ifB hp with ⟨c26, hp⟩ | ⟨c26, hp⟩
 ·
  refine FW.condT rfl c26 ?_
  refine FW.seq (FW.region ?_)
  refine FL.v (E.assign (v := Value.slice none 0 0) rfl) ?_
  refine FL.v (E.assign (v := Value.bool false) rfl) ?_
  refine FL.nil ?_
  refine FW.ret ?_
  obtain rfl := Option.some.inj hp
  exact ⟨.inr rfl, res2 rfl rfl rfl ⟨_, _, _, _, rfl, (S25.nil 76 1), Els.nil⟩⟩
 ·
  refine FW.condF rfl c26 ?_
  refine FW.skip (FW.seq (FW.region ?_))
  refine FL.v (E.move (v := v0) rfl) ?_
  obtain ⟨r27, hr28, hp⟩ := bnd hp
  refine FL.call rfl rfl rfl (E.call Tryz.call245 (A1 rfl)) (w_slices_Clone_impl_config_Lint S25.sl v0 a0 p0 hr28) ?_
  rintro e w30 ⟨H29, v33, n34, cs35, rfl, r32, els36⟩
  refine ⟨_, rfl, ?_⟩
  have S31 := S25.join (l' := [.row 76 1 v33 n34 cs35]) r32 rfl
  refine FL.v (E.move (v := v1) rfl) ?_
  obtain ⟨v37, w38, run39, S40⟩ := S31.buildSlice (P := Tryz.prog) te94 [v1] (parts := #[(0, v1)]) (cells := [v1]) rfl (szs_cons (cells_size p1.cells) szs_nil) (fc_cons p1.cells fc_nil) (ones_cons p1.one ones_nil) (Nat.le_of_ble_eq_true rfl)
  have els41 : Els H29 (eL eI 1) 1 [v1] [a1] := (Els.snoc (H := H29) (E := (eL eI 1)) (k := 1) (c := [v1]) (x := a1) Els.nil rfl ⟨_, rfl, (p1.mono r32.run.inc)⟩)
  refine FL.v (E.buildSlice (B1 rfl) run39) ?_
  obtain ⟨xs42, hz43, hp⟩ := bnd hp
  obtain ⟨v44, w47, n45, cs46, run48, S49, els50, ce51⟩ := S40.appendO (P := Tryz.prog) te94 (i := 1) (j := 0) rfl els36 rfl els41 hz43
  have S49 : St Ha wa H29 w47 [.row 76 1 v37 1 [v1], .row 76 1 v44 n45 cs46] := S49
  have S52 : St Ha wa H29 w47 [.row 76 1 v44 n45 cs46] := S49.drop 0
  refine FL.v (E.append rfl rfl run48) ?_
  refine FL.v (E.assign (v := v44) rfl) ?_
  refine FL.nil (FW.seq (FW.region ?_))
  refine FL.v (E.move (v := v44) rfl) ?_
  obtain ⟨r53, hr54, hp⟩ := bnd hp
  refine FL.call rfl rfl rfl (E.call Tryz.call246 (A2 rfl rfl)) (w_slices_SortFunc_impl_config_Lint (L := []) S52 xs42 els50 (Value.func (.func 73) #[] #[]) (fun x0 x1 => PF.impl_compareClauses x0 x1) (fun H2 w2 hi2 hs2 x0 y0 z0 x1 y1 z1 r hr => ⟨73, #[], rfl, Tryz.call73, w_impl_compareClauses hs2 y0 x0 z0 y1 x1 z1  hr⟩) hr54) ?_
  rintro e w56 ⟨H55, cs59, rfl, ⟨S57, i58⟩, els60⟩
  refine ⟨_, rfl, ?_⟩
  have S57 : St Ha wa H55 w56 [.row 76 1 v44 n45 cs59] := S57
  refine FL.nil (FW.seq (FW.region ?_))
  refine FL.v (E.move (v := v44) rfl) ?_
  refine FL.v (E.assign (v := v44) rfl) ?_
  refine FL.v (E.assign (v := Value.bool true) rfl) ?_
  refine FL.nil ?_
  refine FW.ret ?_
  obtain rfl := Option.some.inj hp
  exact ⟨.inr rfl, res2 rfl rfl rfl ⟨_, _, _, _, rfl, S57, els60⟩⟩

@[reducible] def p_impl_config_after (Ha : GH) (wa : World) (r : ((List (List Int)) × Bool)) : Ending → World → Prop :=
 fun e w' => ∃ H' : GH, ∃ v0 : Value, ∃ n0 : Nat, ∃ c0 : List Value, e = .returned (Value.tuple #[v0, Value.bool r.2]) ∧ St Ha wa H' w' [.row 76 1 v0 n0 c0] ∧ Els H' (eL eI 1) 1 c0 r.1
theorem w_impl_config_after {Ha : GH} {wa : World} (hs : Sl Ha wa) (v0 : Value) (a0 : List (List Int)) (p0 : RSl Ha (eL eI 1) 1 v0 a0) (a1 : Cnf) (v1_1 : Value) (p1_1 : RSl Ha (eL eI 1) 1 v1_1 a1.clauses) (a2 : SpaceStep) {r : ((List (List Int)) × Bool)} (hp : (PF.impl_config_after a0 a1 a2) = some r) :
  Calls Tryz.prog 132 #[v0, Value.agg #[Value.int .i64 a1.vars, v1_1], Value.agg #[Value.int .i64 a2.kind, Value.int .i64 a2.a, Value.int .i64 a2.b, Value.int .i64 a2.pivot]] wa (p_impl_config_after Ha wa r) := by
 unfold PF.impl_config_after at hp
 have S0 := St.init hs
 refine calls_go (N := 48) (args := [v0, Value.agg #[Value.int .i64 a1.vars, v1_1], Value.agg #[Value.int .i64 a2.kind, Value.int .i64 a2.a, Value.int .i64 a2.b, Value.int .i64 a2.pivot]]) Tryz.func132 rfl rfl rfl ?_
 refine FW.seq (FW.region ?_)
 obtain ⟨b21, w22, run23, S24⟩ := S0.box (P := Tryz.prog) 30 [Value.int .i64 a1.vars, v1_1] (v := Value.agg #[Value.int .i64 a1.vars, v1_1]) rfl (ones_cons rfl (ones_cons p1_1.one ones_nil))
 refine FL.v (E.box rfl run23) ?_
 obtain ⟨H25, S26, i27, at28⟩ := S24.sealBox (i := 0) (l' := []) rfl rfl
 obtain ⟨b29, w30, run31, S32⟩ := S26.box (P := Tryz.prog) 88 [Value.int .i64 a2.kind, Value.int .i64 a2.a, Value.int .i64 a2.b, Value.int .i64 a2.pivot] (v := Value.agg #[Value.int .i64 a2.kind, Value.int .i64 a2.a, Value.int .i64 a2.b, Value.int .i64 a2.pivot]) rfl (ones_cons rfl (ones_cons rfl (ones_cons rfl (ones_cons rfl ones_nil))))
 refine FL.v (E.box rfl run31) ?_
 obtain ⟨H33, S34, i35, at36⟩ := S32.sealBox (i := 0) (l' := []) rfl rfl
 refine FL.v (E.assign (v := Value.slice none 0 0) rfl) ?_
 refine FL.v (E.assign (v := Value.bool false) rfl) ?_
 refine FL.nil (FW.seq (FW.seq (FW.region ?_)))
 refine FL.v (E.fieldAddr tf88_0 rfl) ?_
 refine FL.v (E.load rfl (run_load1 Tryz.isAgg3 (at36.now S34.sl) rfl)) ?_
 refine FL.v (E.eql rfl rfl) ?_
 refine FL.nil ?_
 rcases ifB hp with ⟨c37, hp⟩ | ⟨c37, hp⟩
 ·
  refine FW.condT rfl c37 ?_
  refine FW.seq (FW.seq (FW.region ?_))
  refine FL.v (E.fieldAddr tf88_1 rfl) ?_
  refine FL.v (E.load rfl (run_load1 Tryz.isAgg3 (at36.now S34.sl) rfl)) ?_
  refine FL.v (E.move (v := v0) rfl) ?_
  refine FL.v (E.lenP te94 rfl p0) ?_
  refine FL.v (E.sub rfl rfl) ?_
  refine FL.call rfl rfl rfl (E.call Tryz.call126 (A3 rfl rfl rfl)) (w_impl_within S34.sl a2.a 0 (wr ((len a0) - 1))) ?_
  rintro e w38 ⟨rfl, r39⟩
  refine ⟨_, rfl, ?_⟩
  have S40 := S34.call r39
  refine FL.v (E.not rfl) ?_
  refine FL.v (E.move (v := Value.bool (!(PF.impl_within a2.a 0 (wr ((len a0) - 1))))) rfl) ?_
  refine FL.cut 4 (fun f w => ∃ H : GH, St Ha wa H w [] ∧ Inc H33 H ∧ f 0 = v0 ∧ f 5 = Value.pointer (some ⟨b29, 0, none⟩) ∧ f 24 = Value.bool (bif (!(PF.impl_within a2.a 0 (wr ((len a0) - 1)))) then true else (!(a2.b == 0)))) ?_ ?_
  ·
   rcases bcase (!(PF.impl_within a2.a 0 (wr ((len a0) - 1)))) with c47 | c47
   ·
    refine FL.skip (wF_no rfl rfl rfl c47) rfl ?_
    refine FL.skip (wF_no rfl rfl rfl c47) rfl ?_
    refine FL.skip (wF_no rfl rfl rfl c47) rfl ?_
    refine FL.v (E.pickT rfl c47 rfl) ?_
    exact FL.nil ⟨rfl, _, S40, (Inc.rfl _), rfl, rfl, (congrArg Value.bool (bifT c47).symm)⟩
   ·
    refine FL.val (wF_yes rfl rfl rfl c47) rfl rfl (E.fieldAddr tf88_2 rfl) ?_
    refine FL.val (wF_yes rfl rfl rfl c47) rfl rfl (E.load rfl (run_load1 Tryz.isAgg3 (at36.now S40.sl) rfl)) ?_
    refine FL.val (wF_yes rfl rfl rfl c47) rfl rfl (E.neq rfl rfl) ?_
    refine FL.v (E.pickF rfl c47 rfl) ?_
    exact FL.nil ⟨rfl, _, S40, (Inc.rfl _), rfl, rfl, (congrArg Value.bool (bifF c47).symm)⟩
  rintro f46 w45 ⟨H42, S43, i44, k48, k49, k50⟩
  refine FL.v (E.move k50) ?_
  refine FL.cut 4 (fun f w => ∃ H : GH, St Ha wa H w [] ∧ Inc H42 H ∧ f 0 = v0 ∧ f 5 = Value.pointer (some ⟨b29, 0, none⟩) ∧ f 29 = Value.bool (bif (bif (!(PF.impl_within a2.a 0 (wr ((len a0) - 1)))) then true else (!(a2.b == 0))) then true else (!(a2.pivot == 0)))) ?_ ?_
  ·
   rcases bcase (bif (!(PF.impl_within a2.a 0 (wr ((len a0) - 1)))) then true else (!(a2.b == 0))) with c57 | c57
   ·
    refine FL.skip (wF_no rfl rfl rfl c57) rfl ?_
    refine FL.skip (wF_no rfl rfl rfl c57) rfl ?_
    refine FL.skip (wF_no rfl rfl rfl c57) rfl ?_
    refine FL.v (E.pickT rfl c57 rfl) ?_
    exact FL.nil ⟨rfl, _, S43, (Inc.rfl _), k48, k49, (congrArg Value.bool (bifT c57).symm)⟩
   ·
    refine FL.val (wF_yes rfl rfl rfl c57) rfl rfl (E.fieldAddr tf88_3 k49) ?_
    refine FL.val (wF_yes rfl rfl rfl c57) rfl rfl (E.load rfl (run_load1 Tryz.isAgg3 ((at36.mono i44).now S43.sl) rfl)) ?_
    refine FL.val (wF_yes rfl rfl rfl c57) rfl rfl (E.neq rfl rfl) ?_
    refine FL.v (E.pickF rfl c57 rfl) ?_
    exact FL.nil ⟨rfl, _, S43, (Inc.rfl _), k48, k49, (congrArg Value.bool (bifF c57).symm)⟩
  rintro f56 w55 ⟨H52, S53, i54, k58, k59, k60⟩
  refine FL.nil ?_
  rcases ifB hp with ⟨c61, hp⟩ | ⟨c61, hp⟩
  ·
   refine FW.condT k60 c61 ?_
   refine FW.seq (FW.region ?_)
   refine FL.v (E.assign (v := Value.slice none 0 0) rfl) ?_
   refine FL.v (E.assign (v := Value.bool false) rfl) ?_
   refine FL.nil ?_
   refine FW.ret ?_
   obtain rfl := Option.some.inj hp
   exact ⟨.inr rfl, res2 rfl rfl rfl ⟨_, _, _, _, rfl, (S53.nil 76 1), Els.nil⟩⟩
  ·
   refine FW.condF k60 c61 ?_
   refine FW.skip (FW.seq (FW.region ?_))
   refine FL.v (E.move k58) ?_
   refine FL.v (E.fieldAddr tf88_1 k59) ?_
   refine FL.v (E.load rfl (run_load1 Tryz.isAgg3 ((at36.mono (i44.tr i54)).now S53.sl) rfl)) ?_
   obtain ⟨r62, hr63, hp⟩ := bnd hp
   refine FL.call rfl rfl rfl (E.call Tryz.call192 (A2 rfl rfl)) (w_impl_without_int S53.sl v0 a0 (p0.mono (((i27.tr i35).tr i44).tr i54)) a2.a hr63) ?_
   rintro e w65 ⟨H64, v68, n69, cs70, rfl, r67, els71⟩
   refine ⟨_, rfl, ?_⟩
   have S66 := S53.join (l' := [.row 76 1 v68 n69 cs70]) r67 rfl
   refine FL.v (E.assign (v := v68) rfl) ?_
   refine FL.v (E.assign (v := Value.bool true) rfl) ?_
   refine FL.nil ?_
   refine FW.ret ?_
   obtain rfl := Option.some.inj hp
   exact ⟨.inr rfl, res2 rfl rfl rfl ⟨_, _, _, _, rfl, S66, els71⟩⟩
 ·
  refine FW.condF rfl c37 ?_
  refine FW.skip (FW.seq (FW.region ?_))
  refine FL.v (E.move (v := v0) rfl) ?_
  refine FL.v (E.load rfl (run_loadA Tryz.isAgg30 Tryz.sizeOf30 ((at28.mono i35).now S34.sl) rfl)) ?_
  refine FL.v (E.load rfl (run_loadA Tryz.isAgg88 Tryz.sizeOf88 (at36.now S34.sl) rfl)) ?_
  obtain ⟨r72, hr73, hp⟩ := bnd hp
  refine FL.call rfl rfl rfl (E.call Tryz.call81 (A3 rfl rfl rfl)) (w_impl_config_put S34.sl v0 a0 (p0.mono (i27.tr i35)) a1 v1_1 (p1_1.mono (i27.tr i35)) a2 hr73) ?_
  rintro e w75 ⟨H74, v78, rfl, r77, h79⟩
  refine ⟨_, rfl, ?_⟩
  have S76 := S34.call r77
  refine FL.v (E.move (v := Value.tuple #[v78, Value.bool r72.2]) rfl) ?_
  refine FL.v (E.extract (i := 0) rfl rfl) ?_
  refine FL.v (E.extract (i := 1) rfl rfl) ?_
  refine FL.v (E.assign (v := v78) rfl) ?_
  refine FL.v (E.assign (v := Value.bool r72.2) rfl) ?_
  refine FL.nil (FW.seq (FW.seq (FW.region ?_)))
  refine FL.v (E.move (v := Value.bool r72.2) rfl) ?_
  refine FL.v (E.not rfl) ?_
  refine FL.nil ?_
  rcases ifB hp with ⟨c80, hp⟩ | ⟨c80, hp⟩
  ·
   refine FW.condT rfl c80 ?_
   refine FW.seq (FW.region ?_)
   refine FL.v (E.assign (v := Value.slice none 0 0) rfl) ?_
   refine FL.v (E.assign (v := Value.bool false) rfl) ?_
   refine FL.nil ?_
   refine FW.ret ?_
   obtain rfl := Option.some.inj hp
   exact ⟨.inr rfl, res2 rfl rfl rfl ⟨_, _, _, _, rfl, (S76.nil 76 1), Els.nil⟩⟩
  ·
   refine FW.condF rfl c80 ?_
   refine FW.skip (FW.seq (FW.region ?_))
   refine FL.v (E.move (v := v0) rfl) ?_
   refine FL.v (E.move (v := v78) rfl) ?_
   obtain ⟨r81, hr82, hp⟩ := bnd hp
   refine FL.call rfl rfl rfl (E.call Tryz.call193 (A2 rfl rfl)) (w_impl_config_with S76.sl v0 a0 (p0.mono ((i27.tr i35).tr r77.inc)) v78 r72.1 h79 hr82) ?_
   rintro e w84 ⟨H83, v87, n88, cs89, rfl, r86, els90⟩
   refine ⟨_, rfl, ?_⟩
   have S85 := S76.join (l' := [.row 76 1 v87 n88 cs89]) r86 rfl
   refine FL.v (E.extract (i := 0) rfl rfl) ?_
   refine FL.v (E.extract (i := 1) rfl rfl) ?_
   refine FL.v (E.assign (v := v87) rfl) ?_
   refine FL.v (E.assign (v := Value.bool r81.2) rfl) ?_
   refine FL.nil ?_
   refine FW.ret ?_
   obtain rfl := Option.some.inj hp
   exact ⟨.inr rfl, res2 rfl rfl rfl ⟨_, _, _, _, rfl, S85, els90⟩⟩

@[reducible] def p_impl_configs (Ha : GH) (wa : World) (r : ((List (List (List Int))) × Bool)) : Ending → World → Prop :=
 fun e w' => ∃ H' : GH, ∃ v0 : Value, ∃ n0 : Nat, ∃ c0 : List Value, e = .returned (Value.tuple #[v0, Value.bool r.2]) ∧ St Ha wa H' w' [.row 94 1 v0 n0 c0] ∧ Els H' (eL (eL eI 1) 1) 1 c0 r.1
theorem w_impl_configs {Ha : GH} {wa : World} (hs : Sl Ha wa) (a0 : Cnf) (v0_1 : Value) (p0_1 : RSl Ha (eL eI 1) 1 v0_1 a0.clauses) (v1 : Value) (a1 : List SpaceStep) (p1 : RSl Ha eSpaceStep 4 v1 a1) {r : ((List (List (List Int))) × Bool)} (hp : (PF.impl_configs a0 a1) = some r) :
  Calls Tryz.prog 68 #[Value.agg #[Value.int .i64 a0.vars, v0_1], v1] wa (p_impl_configs Ha wa r) := by
 unfold PF.impl_configs at hp
 have S0 := St.init hs
 refine calls_go (N := 42) (args := [Value.agg #[Value.int .i64 a0.vars, v0_1], v1]) Tryz.func68 rfl rfl rfl ?_
 refine FW.seq (FW.region ?_)
 obtain ⟨b21, w22, run23, S24⟩ := S0.box (P := Tryz.prog) 30 [Value.int .i64 a0.vars, v0_1] (v := Value.agg #[Value.int .i64 a0.vars, v0_1]) rfl (ones_cons rfl (ones_cons p0_1.one ones_nil))
 refine FL.v (E.box rfl run23) ?_
 obtain ⟨H25, S26, i27, at28⟩ := S24.sealBox (i := 0) (l' := []) rfl rfl
 refine FL.v (E.assign (v := Value.slice none 0 0) rfl) ?_
 refine FL.v (E.assign (v := Value.bool false) rfl) ?_
 refine FL.nil (FW.seq (FW.seq (FW.region ?_)))
 refine FL.v (E.load rfl (run_loadA Tryz.isAgg30 Tryz.sizeOf30 (at28.now S26.sl) rfl)) ?_
 obtain ⟨r29, hr30, hp⟩ := bnd hp
 refine FL.call rfl rfl rfl (E.call Tryz.call131 (A1 rfl)) (w_impl_IsCnf S26.sl a0 v0_1 (p0_1.mono i27) hr30) ?_
 rintro e w31 ⟨rfl, r32⟩
 refine ⟨_, rfl, ?_⟩
 have S33 := S26.call r32
 refine FL.v (E.not rfl) ?_
 refine FL.v (E.move (v := Value.bool (!r29)) rfl) ?_
 refine FL.cut 4 (fun f w => ∃ H : GH, St Ha wa H w [] ∧ Inc H25 H ∧ f 1 = v1 ∧ f 2 = Value.pointer (some ⟨b21, 0, none⟩) ∧ f 18 = Value.bool (bif (!r29) then true else (decide (300 < (len a1))))) ?_ ?_
 ·
  rcases bcase (!r29) with c40 | c40
  ·
   refine FL.skip (wF_no rfl rfl rfl c40) rfl ?_
   refine FL.skip (wF_no rfl rfl rfl c40) rfl ?_
   refine FL.skip (wF_no rfl rfl rfl c40) rfl ?_
   refine FL.v (E.pickT rfl c40 rfl) ?_
   exact FL.nil ⟨rfl, _, S33, (Inc.rfl _), rfl, rfl, (congrArg Value.bool (bifT c40).symm)⟩
  ·
   refine FL.val (wF_yes rfl rfl rfl c40) rfl rfl (E.move (v := v1) rfl) ?_
   refine FL.val (wF_yes rfl rfl rfl c40) rfl rfl (E.lenP te32 rfl p1) ?_
   refine FL.val (wF_yes rfl rfl rfl c40) rfl rfl (E.gtr rfl rfl) ?_
   refine FL.v (E.pickF rfl c40 rfl) ?_
   exact FL.nil ⟨rfl, _, S33, (Inc.rfl _), rfl, rfl, (congrArg Value.bool (bifF c40).symm)⟩
 rintro f39 w38 ⟨H35, S36, i37, k41, k42, k43⟩
 refine FL.nil ?_
 rcases ifB hp with ⟨c44, hp⟩ | ⟨c44, hp⟩
 ·
  refine FW.condT k43 c44 ?_
  refine FW.seq (FW.region ?_)
  refine FL.v (E.assign (v := Value.slice none 0 0) rfl) ?_
  refine FL.v (E.assign (v := Value.bool false) rfl) ?_
  refine FL.nil ?_
  refine FW.ret ?_
  obtain rfl := Option.some.inj hp
  exact ⟨.inr rfl, res2 rfl rfl rfl ⟨_, _, _, _, rfl, (S36.nil 94 1), Els.nil⟩⟩
 ·
  refine FW.condF k43 c44 ?_
  refine FW.skip (FW.seq (FW.region ?_))
  obtain ⟨v45, w46, run47, S48⟩ := S36.buildSlice (P := Tryz.prog) te91 [Value.slice none 0 0] (parts := #[(0, Value.slice none 0 0)]) (cells := [Value.slice none 0 0]) rfl (szs_cons rfl szs_nil) (fc_cons rfl fc_nil) (ones_cons rfl ones_nil) (Nat.le_of_ble_eq_true rfl)
  have els49 : Els (up wa.heap.size H35) (eL (eL eI 1) 1) 1 [Value.slice none 0 0] [[]] := (Els.snoc (H := (up wa.heap.size H35)) (E := (eL (eL eI 1) 1)) (k := 1) (c := [Value.slice none 0 0]) (x := []) Els.nil rfl ⟨_, rfl, RSl.nil _ _ _⟩)
  refine FL.v (E.buildSlice (B1 rfl) run47) ?_
  refine FL.v (E.assign (v := v45) rfl) ?_
  refine FL.nil (FW.seq (FW.seq (FW.region ?_)))
  refine FL.v (E.move k41) ?_
  refine FL.v (E.lenP te32 rfl p1) ?_
  refine FL.v (E.move (v := Value.int .i64 0) rfl) ?_
  refine FL.nil ?_
  obtain ⟨q51, hq, hp⟩ := bndR hp
  refine FW.block ?_
  refine FW.mono (FW.forL (S := (List (List (List Int)))) (X := ((List (List (List Int))) × Bool)) (fun (i51 : Nat) (s51 : (List (List (List Int)))) f w => ∃ H : GH, ∃ v52 : Value, ∃ n53 : Nat, ∃ cs54 : List Value, St Ha wa H w [.row 94 1 v52 n53 cs54] ∧ Inc H35 H ∧ Els H (eL (eL eI 1) 1) 1 cs54 s51 ∧ f 22 = Value.int .i64 ((i51 : Nat) : Int) ∧ f 2 = Value.pointer (some ⟨b21, 0, none⟩) ∧ f 6 = v52 ∧ f 20 = v1 ∧ f 21 = Value.int .i64 (len a1)) (fun q e f w => match q with | .go s51 => e = Exit.exit 0 ∧ (∃ H : GH, ∃ v52 : Value, ∃ n53 : Nat, ∃ cs54 : List Value, St Ha wa H w [.row 94 1 v52 n53 cs54] ∧ Inc H35 H ∧ Els H (eL (eL eI 1) 1) 1 cs54 s51 ∧ f 6 = v52) | .rt x => ((e = Exit.ret) ∧ (fun e f w => (e = Exit.normal ∨ e = Exit.ret) ∧ ∀ a, Fr (δ := []) 42 a f → ∃ v, (results Tryz.f68 a.tmps).run Tryz.prog w = .ok v w ∧ (p_impl_configs Ha wa x) (.returned v) w) e f w)) hq ⟨_, _, _, _, S48, (Inc.rfl _), (els49.mono upI), rfl, k42, rfl, rfl, rfl⟩ ?_ ?_) ?_
  ·
   clear hp hq
   rintro i51 y50 s51 f59 w58 ⟨H34, v52, n53, cs54, S56, i57, els55, k60, k61, k62, k63, k64⟩ hx51 o150 hp
   refine FW.seq (FW.region ?_)
   refine FL.v (E.lssT k60 k64 (lss_len hx51)) ?_
   refine FL.nil (FW.seq ?_)
   refine FW.condT rfl rfl ?_
   refine FW.skip (FW.seq (FW.block (FW.seq (FW.region ?_))))
   obtain ⟨p65, cs66, pt67, l68, at69, rel70⟩ := p1.at (ix_nat hx51)
   obtain rfl := eSpaceStep_open rel70
   refine FL.v (E.indexAddr te32 k63 k60 pt67) ?_
   refine FL.v (E.load rfl (run_loadA Tryz.isAgg88 Tryz.sizeOf88 ((at69.mono ((i27.tr i37).tr i57)).now S56.sl) rfl)) ?_
   obtain ⟨b71, w72, run73, S74⟩ := S56.alloc (P := Tryz.prog) 88 [Value.int .i64 0, Value.int .i64 0, Value.int .i64 0, Value.int .i64 0] Tryz.zeroValue88 rfl (ones_cons rfl (ones_cons rfl (ones_cons rfl (ones_cons rfl ones_nil))))
   refine FL.v (E.alloc run73) ?_
   obtain ⟨w75, run76, S77⟩ := S74.store0 (P := Tryz.prog) (t := 88) (i := 0) (cs' := [Value.int .i64 y50.kind, Value.int .i64 y50.a, Value.int .i64 y50.b, Value.int .i64 y50.pivot]) (l' := [.box b71 88 [Value.int .i64 y50.kind, Value.int .i64 y50.a, Value.int .i64 y50.b, Value.int .i64 y50.pivot], .row 94 1 v52 n53 cs54]) (v := Value.agg #[Value.int .i64 y50.kind, Value.int .i64 y50.a, Value.int .i64 y50.b, Value.int .i64 y50.pivot]) (c := [Value.int .i64 y50.kind, Value.int .i64 y50.a, Value.int .i64 y50.b, Value.int .i64 y50.pivot]) rfl Tryz.sizeOf88 rfl rfl (ones_cons rfl (ones_cons rfl (ones_cons rfl (ones_cons rfl ones_nil)))) (Nat.le_of_ble_eq_true rfl) rfl rfl
   refine FL.act rfl rfl (E.store rfl rfl run76) ?_
   obtain ⟨H78, S79, i80, at81⟩ := S77.sealBox (i := 0) (l' := [.row 94 1 v52 n53 cs54]) rfl rfl
   refine FL.nil (FW.seq ?_)
   obtain ⟨s85, hq85, hp⟩ := bnd hp
   obtain ⟨r103, hr104, hp⟩ := bnd hp
   refine FW.drawB (SX Ha wa H78 [.row 94 1 v52 n53 cs54]) (fun f w => ∃ H : GH, ∃ v113 : Value, ∃ n114 : Nat, ∃ cs115 : List Value, St Ha wa H w [.row 94 1 v52 n53 cs54, .row 76 1 v113 n114 cs115] ∧ Inc H78 H ∧ Els H (eL eI 1) 1 cs115 r103.1 ∧ f 2 = Value.pointer (some ⟨b21, 0, none⟩) ∧ f 6 = v52 ∧ f 9 = v113 ∧ f 10 = Value.bool r103.2 ∧ f 20 = v1 ∧ f 21 = Value.int .i64 (len a1) ∧ f 22 = Value.int .i64 ((i51 : Nat) : Int)) (by kernel_rfl) S79.sl ?_ ?_
   ·
    intro w82 r83
    have S84 := S79.call r83
    refine FB.t (i := 0) (bs 10 1) rfl (SP.nil ⟨_, S84, (Inc.rfl _)⟩) rfl (fun w' hw' => (E.move k62)) ?_
    refine FB.t (i := 2) (bs 10 5) rfl (SP.nil ⟨_, S84, (Inc.rfl _)⟩) rfl (fun w' hw' => (E.load k61 (run_loadA Tryz.isAgg30 Tryz.sizeOf30 ((at28.mono ((i37.tr i57).tr i80)).now hw'.sl) rfl))) ?_
    refine FB.t (i := 3) (bs 10 13) rfl (SP.nil ⟨_, S84, (Inc.rfl _)⟩) rfl (fun w' hw' => (E.load rfl (run_loadA Tryz.isAgg88 Tryz.sizeOf88 (at81.now hw'.sl) rfl))) ?_
    refine FB.all1 (i := 1) (by kernel_rfl) ?_
    ·
     obtain ⟨R85, hR85⟩ : ∃ R85 : (List (List Int)) → Ending → World → Prop, R85 = (fun s85 e w => ∃ H : GH, ∃ v86 : Value, e = Ending.returned (v86) ∧ St Ha wa H w [.row 94 1 v52 n53 cs54] ∧ Inc H78 H ∧ RSl H (eL eI 1) 1 v86 s85) := ⟨_, rfl⟩
     have hc85 : Calls Tryz.prog 70 #[v52] w82 (R85 s85) := by
      clear hp; have hp := hq85; clear hq85
      refine calls_go (N := 9) (args := [v52]) Tryz.func70 rfl rfl rfl ?_
      refine FW.seq (FW.region ?_)
      refine FL.v (E.assign (v := Value.slice none 0 0) rfl) ?_
      refine FL.nil (FW.seq (FW.region ?_))
      refine FL.v (E.move (v := v52) rfl) ?_
      refine FL.v (E.move (v := v52) rfl) ?_
      refine FL.v (E.lenO te91 rfl S84 (i := 0) rfl els55 (by decide)) ?_
      refine FL.v (E.sub rfl rfl) ?_
      obtain ⟨x95, hx96, hp⟩ := bnd hp
      obtain ⟨p88, cs89, pt90, l92, at93, rel94⟩ := S84.row_at (i := 0) rfl els55 (by decide) hx96
      obtain ⟨v97, rfl, h98⟩ := eL_open rel94
      refine FL.v (E.indexAddr te91 rfl rfl pt90) ?_
      refine FL.v (E.load rfl (run_load0 Tryz.isAgg94 at93 rfl)) ?_
      refine FL.v (E.assign (v := v97) rfl) ?_
      refine FL.nil ?_
      refine FW.ret ?_
      obtain rfl := Option.some.inj hp
      exact ⟨.inr rfl, res1 rfl rfl (by rw [hR85]; exact ⟨_, _, rfl, S84, (Inc.rfl _), (h98.mono i80)⟩)⟩
     clear hq85
     refine FC.call (l' := (bs 10 15)) rfl (by kernel_rfl) rfl rfl rfl (E.call Tryz.call70 (A1 rfl)) hc85 ?_
     intro e w102 hQ85
     rw [hR85] at hQ85
     obtain ⟨H99, v86, rfl, S100, i101, h87⟩ := hQ85
     refine ⟨_, rfl, ?_⟩
     refine ⟨(SP.nil ⟨_, S100, i101⟩), ?_⟩
     refine FB.all1 (i := 4) (by kernel_rfl) ?_
     ·
      refine FC.call (l' := (bs 10 31)) rfl (by kernel_rfl) rfl rfl rfl (E.call Tryz.call132 (A3 rfl rfl rfl)) (w_impl_config_after S100.sl v86 s85 h87 a0 v0_1 (p0_1.mono ((((i27.tr i37).tr i57).tr i80).tr i101)) y50 hr104) ?_
      rintro e w106 ⟨H105, v109, n110, cs111, rfl, r108, els112⟩
      refine ⟨_, rfl, ?_⟩
      have S107 := S100.join (l' := [.row 76 1 v109 n110 cs111, .row 94 1 v52 n53 cs54]) r108 rfl
      refine ⟨(SP.nil ⟨_, (S107.sel [1] (by decide) rfl), (i101.tr r108.run.inc)⟩), ?_⟩
      refine FB.t (i := 5) (bs 10 63) rfl (SP.nil ⟨_, (S107.sel [1] (by decide) rfl), (i101.tr r108.run.inc)⟩) rfl (fun w' hw' => (E.move (v := Value.tuple #[v109, Value.bool r103.2]) rfl)) ?_
      refine FB.t (i := 6) (bs 10 127) rfl (SP.nil ⟨_, (S107.sel [1] (by decide) rfl), (i101.tr r108.run.inc)⟩) rfl (fun w' hw' => (E.extract (i := 0) rfl rfl)) ?_
      refine FB.t (i := 7) (bs 10 255) rfl (SP.nil ⟨_, (S107.sel [1] (by decide) rfl), (i101.tr r108.run.inc)⟩) rfl (fun w' hw' => (E.extract (i := 1) rfl rfl)) ?_
      refine FB.t (i := 8) (bs 10 511) rfl (SP.nil ⟨_, (S107.sel [1] (by decide) rfl), (i101.tr r108.run.inc)⟩) rfl (fun w' hw' => (E.assign (v := v109) rfl)) ?_
      refine FB.t (i := 9) (bs 10 1023) rfl (SP.nil ⟨_, (S107.sel [1] (by decide) rfl), (i101.tr r108.run.inc)⟩) rfl (fun w' hw' => (E.assign (v := Value.bool r103.2) rfl)) ?_
      exact FB.done (by kernel_rfl) ⟨_, _, _, _, (S107.sel [1, 0] (by decide) rfl), (i101.tr r108.run.inc), els112, k61, k62, rfl, rfl, k63, k64, k60⟩
   ·
    rintro f121 w120 ⟨H117, v113, n114, cs115, S118, i119, els116, k122, k123, k124, k125, k126, k127, k128⟩
    refine FW.seq (FW.seq (FW.region ?_))
    refine FL.v (E.move k125) ?_
    refine FL.v (E.not rfl) ?_
    refine FL.nil ?_
    rcases ifB hp with ⟨c129, hp⟩ | ⟨c129, hp⟩
    ·
     refine FW.condT rfl c129 ?_
     refine FW.seq (FW.region ?_)
     refine FL.v (E.assign (v := Value.slice none 0 0) rfl) ?_
     refine FL.v (E.assign (v := Value.bool false) rfl) ?_
     refine FL.nil ?_
     refine FW.ret ?_
     obtain rfl := Option.some.inj hp
     exact ⟨nofun, rfl, ⟨.inr rfl, res2 rfl rfl rfl ⟨_, _, _, _, rfl, ((S118.nil 94 1).sel [0] (by decide) rfl), Els.nil⟩⟩⟩
    ·
     refine FW.condF rfl c129 ?_
     refine FW.skip (FW.region ?_)
     refine FL.v (E.move k123) ?_
     refine FL.v (E.move k124) ?_
     obtain ⟨H130, S131, i132, h133⟩ := S118.sealRow (i := 1) (l' := [.row 94 1 v52 n53 cs54]) rfl els116 (by decide) rfl
     obtain ⟨v134, w135, run136, S137⟩ := S131.buildSlice (P := Tryz.prog) te91 [v113] (parts := #[(0, v113)]) (cells := [v113]) rfl (szs_cons (cells_size h133.cells) szs_nil) (fc_cons h133.cells fc_nil) (ones_cons h133.one ones_nil) (Nat.le_of_ble_eq_true rfl)
     have els138 : Els H130 (eL (eL eI 1) 1) 1 [v113] [r103.1] := (Els.snoc (H := H130) (E := (eL (eL eI 1) 1)) (k := 1) (c := [v113]) (x := r103.1) Els.nil rfl ⟨_, rfl, h133⟩)
     refine FL.v (E.buildSlice (B1 rfl) run136) ?_
     obtain ⟨xs139, hz140, hp⟩ := bnd hp
     obtain ⟨v141, w144, n142, cs143, run145, S146, els147, ce148⟩ := S137.appendO (P := Tryz.prog) te91 (i := 1) (j := 0) rfl (els55.mono ((i80.tr i119).tr i132)) rfl els138 hz140
     have S146 : St Ha wa H130 w144 [.row 94 1 v134 1 [v113], .row 94 1 v141 n142 cs143] := S146
     have S149 : St Ha wa H130 w144 [.row 94 1 v141 n142 cs143] := S146.drop 0
     refine FL.v (E.append rfl rfl run145) ?_
     refine FL.v (E.assign (v := v141) rfl) ?_
     refine FL.nil (FW.region ?_)
     refine FL.v (E.add k128 rfl) ?_
     refine FL.v (E.move (v := Value.int .i64 (wr (((i51 : Nat) : Int) + 1))) rfl) ?_
     refine FL.nil ?_
     obtain rfl := Option.some.inj hp
     exact ⟨rfl, ⟨_, _, _, _, S149, (((i57.tr i80).tr i119).tr i132), els147, (nat_succ rfl (lt_of_get hx51) (p1.mono (((((i27.tr i37).tr i57).tr i80).tr i119).tr i132)).le), k122, rfl, k126, k127⟩⟩
  ·
   clear hp hq
   rintro s51 f161 w160 ⟨H157, v52, n53, cs54, S158, i159, els55, k162, k163, k164, k165, k166⟩
   refine FW.seq (FW.region ?_)
   refine FL.v (E.lss k162 k166) ?_
   refine FL.nil (FW.seq ?_)
   refine FW.condF rfl dlt_len ?_
   refine FW.exit ?_
   exact ⟨nofun, rfl, ⟨_, _, _, _, S158, i159, els55, k164⟩⟩
  ·
   clear hq
   intro e f155 w154 hD
   rcases q51 with s51 | x51
   ·
    obtain ⟨rfl, hD⟩ := hD
    obtain ⟨H151, v52, n53, cs54, S152, i153, els55, k156⟩ := hD
    replace hp := el_go hp
    refine FW.seq (FW.region ?_)
    refine FL.v (E.move k156) ?_
    refine FL.v (E.assign (v := v52) rfl) ?_
    refine FL.v (E.assign (v := Value.bool true) rfl) ?_
    refine FL.nil ?_
    refine FW.ret ?_
    obtain rfl := Option.some.inj hp
    exact ⟨.inr rfl, res2 rfl rfl rfl ⟨_, _, _, _, rfl, S152, els55⟩⟩
   ·
    obtain ⟨he, hL⟩ := hD
    replace hp := el_rt hp
    obtain rfl := Option.some.inj hp
    subst he
    exact hL

@[reducible] def p_impl_cloneLists (Ha : GH) (wa : World) (r : (List (List Int))) : Ending → World → Prop :=
  fun e w' => ∃ H' : GH, ∃ v0 : Value, ∃ n0 : Nat, ∃ c0 : List Value, e = .returned (v0) ∧ St Ha wa H' w' [.row 76 1 v0 n0 c0] ∧ Els (up wa.heap.size H') (eL eI 1) 1 c0 r ∧ (bl c0).Nodup
theorem w_impl_cloneLists {Ha : GH} {wa : World} (hs : Sl Ha wa) (v0 : Value) (a0 : List (List Int)) (p0 : RSl Ha (eL eI 1) 1 v0 a0) {r : (List (List Int))} (hp : (PF.impl_cloneLists a0) = some r) :
    Calls Tryz.prog 69 #[v0] wa (p_impl_cloneLists Ha wa r) := by
  unfold PF.impl_cloneLists at hp
  have S0 := St.init hs
  refine calls_go (N := 19) (args := [v0]) Tryz.func69 rfl rfl rfl ?_
  refine FW.seq (FW.region ?_)
  refine FL.v (E.assign (v := Value.slice none 0 0) rfl) ?_
  refine FL.nil (FW.seq (FW.region ?_))
  refine FL.v (E.assign (v := Value.slice none 0 0) rfl) ?_
  refine FL.nil (FW.seq (FW.seq (FW.region ?_)))
  refine FL.v (E.move (v := v0) rfl) ?_
  refine FL.v (E.lenP te22 rfl p0) ?_
  refine FL.v (E.move (v := Value.int .i64 0) rfl) ?_
  refine FL.nil ?_
  obtain ⟨q22, hq, hp⟩ := bndR hp
  refine FW.block ?_
  refine FW.mono (FW.forL (S := (List (List Int))) (X := Empty) (fun (i22 : Nat) (s22 : (List (List Int))) f w => ∃ H : GH, ∃ v23 : Value, ∃ n24 : Nat, ∃ cs25 : List Value, St Ha wa H w [.row 76 1 v23 n24 cs25] ∧ Inc Ha H ∧ Els (up wa.heap.size H) (eL eI 1) 1 cs25 s22 ∧ (bl cs25).Nodup ∧ f 8 = Value.int .i64 ((i22 : Nat) : Int) ∧ f 3 = v23 ∧ f 6 = v0 ∧ f 7 = Value.int .i64 (len a0)) (fun (q : Rs (List (List Int)) Empty) e f w => match q with | .go s22 => e = Exit.exit 0 ∧ (∃ H : GH, ∃ v23 : Value, ∃ n24 : Nat, ∃ cs25 : List Value, St Ha wa H w [.row 76 1 v23 n24 cs25] ∧ Inc Ha H ∧ Els (up wa.heap.size H) (eL eI 1) 1 cs25 s22 ∧ (bl cs25).Nodup ∧ f 3 = v23) | .rt x => x.elim) hq ⟨_, _, _, _, (S0.nil 76 1), (Inc.rfl _), Els.nil, List.nodup_nil, rfl, rfl, rfl, rfl⟩ ?_ ?_) ?_
  ·
    clear hp hq
    rintro i22 y21 s22 f82 w81 ⟨H78, v23, n24, cs25, S79, i80, els26, nd27, k83, k84, k85, k86⟩ hx22 o128 hp
    refine FW.seq (FW.region ?_)
    refine FL.v (E.lssT k83 k86 (lss_len hx22)) ?_
    refine FL.nil (FW.seq ?_)
    refine FW.condT rfl rfl ?_
    refine FW.skip (FW.seq (FW.block (FW.seq (FW.region ?_))))
    obtain ⟨p87, cs88, pt89, l90, at91, rel92⟩ := p0.at (ix_nat hx22)
    obtain ⟨v93, rfl, h94⟩ := eL_open rel92
    refine FL.v (E.indexAddr te22 k85 k83 pt89) ?_
    refine FL.v (E.load rfl (run_load0 Tryz.isAgg76 ((at91.mono i80).now S79.sl) rfl)) ?_
    refine FL.v (E.assign (v := v93) rfl) ?_
    refine FL.nil (FW.region ?_)
    refine FL.v (E.move k84) ?_
    refine FL.v (E.move (v := v93) rfl) ?_
    obtain ⟨r95, hr96, hp⟩ := bnd hp
    refine FL.call rfl rfl rfl (E.call Tryz.call82 (A1 rfl)) (w_slices_Clone_int_int S79.sl v93 y21 (h94.mono i80) hr96) ?_
    rintro e w98 ⟨H97, v101, n102, cs103, rfl, r100, els104⟩
    refine ⟨_, rfl, ?_⟩
    have els104 := els104.mono (up_le S79.size)
    have S99 := S79.join (l' := [.row 3 1 v101 n102 cs103, .row 76 1 v23 n24 cs25]) r100 rfl
    obtain ⟨H105, S106, i107, h108, nv109⟩ := S99.sealRowU (i := 0) (l' := [.row 76 1 v23 n24 cs25]) rfl els104 (by decide) rfl
    obtain ⟨v110, w111, run112, S113⟩ := S106.buildSlice (P := Tryz.prog) te22 [v101] (parts := #[(0, v101)]) (cells := [v101]) rfl (szs_cons (cells_size h108.cells) szs_nil) (fc_cons h108.cells fc_nil) (ones_cons h108.one ones_nil) (Nat.le_of_ble_eq_true rfl)
    have els114 : Els (up wa.heap.size H105) (eL eI 1) 1 [v101] [r95] := (Els.snoc (H := (up wa.heap.size H105)) (E := (eL eI 1)) (k := 1) (c := [v101]) (x := r95) Els.nil rfl ⟨_, rfl, h108⟩)
    have nd115 : (bl [v101]).Nodup := by exact nd_one v101
    refine FL.v (E.buildSlice (B1 rfl) run112) ?_
    obtain ⟨xs116, hz117, hp⟩ := bnd hp
    obtain ⟨v118, w121, n119, cs120, run122, S123, els124, ce125⟩ := S113.appendO (P := Tryz.prog) te22 (i := 1) (j := 0) rfl (els26.mono (up_mono (r100.run.inc.tr i107))) rfl els114 hz117
    have S123 : St Ha wa H105 w121 [.row 76 1 v110 1 [v101], .row 76 1 v118 n119 cs120] := S123
    have nd126 : (bl cs120).Nodup := by rw [ce125]; exact nd_app nd27 nd115 (Els.dom (els26.mono (upI.tr r100.run.inc))) (by exact nv109)
    have S127 : St Ha wa H105 w121 [.row 76 1 v118 n119 cs120] := S123.drop 0
    refine FL.v (E.append rfl rfl run122) ?_
    refine FL.v (E.assign (v := v118) rfl) ?_
    refine FL.nil (FW.region ?_)
    refine FL.v (E.add k83 rfl) ?_
    refine FL.v (E.move (v := Value.int .i64 (wr (((i22 : Nat) : Int) + 1))) rfl) ?_
    refine FL.nil ?_
    obtain rfl := Option.some.inj hp
    exact ⟨rfl, ⟨_, _, _, _, S127, ((i80.tr r100.run.inc).tr i107), els124, nd126, (nat_succ rfl (lt_of_get hx22) (p0.mono ((i80.tr r100.run.inc).tr i107)).le), rfl, k85, k86⟩⟩
  ·
    clear hp hq
    rintro s22 f139 w138 ⟨H135, v23, n24, cs25, S136, i137, els26, nd27, k140, k141, k142, k143⟩
    refine FW.seq (FW.region ?_)
    refine FL.v (E.lss k140 k143) ?_
    refine FL.nil (FW.seq ?_)
    refine FW.condF rfl dlt_len ?_
    refine FW.exit ?_
    exact ⟨nofun, rfl, ⟨_, _, _, _, S136, i137, els26, nd27, k141⟩⟩
  ·
    clear hq
    intro e f133 w132 hD
    rcases q22 with s22 | x22
    ·
      obtain ⟨rfl, hD⟩ := hD
      obtain ⟨H129, v23, n24, cs25, S130, i131, els26, nd27, k134⟩ := hD
      replace hp := el_go hp
      refine FW.seq (FW.region ?_)
      refine FL.v (E.move k134) ?_
      refine FL.v (E.assign (v := v23) rfl) ?_
      refine FL.nil ?_
      refine FW.ret ?_
      obtain rfl := Option.some.inj hp
      exact ⟨.inr rfl, res1 rfl rfl ⟨_, _, _, _, rfl, S130, els26, nd27⟩⟩
    · exact x22.elim

@[reducible] def p_impl_AfterSpaceSteps (Ha : GH) (wa : World) (r : ((List (List Int)) × Bool)) : Ending → World → Prop :=
 fun e w' => ∃ H' : GH, ∃ v0 : Value, ∃ n0 : Nat, ∃ c0 : List Value, e = .returned (Value.tuple #[v0, Value.bool r.2]) ∧ St Ha wa H' w' [.row 76 1 v0 n0 c0] ∧ Els (up wa.heap.size H') (eL eI 1) 1 c0 r.1 ∧ (bl c0).Nodup
theorem w_impl_AfterSpaceSteps {Ha : GH} {wa : World} (hs : Sl Ha wa) (a0 : Cnf) (v0_1 : Value) (p0_1 : RSl Ha (eL eI 1) 1 v0_1 a0.clauses) (v1 : Value) (a1 : List SpaceStep) (p1 : RSl Ha eSpaceStep 4 v1 a1) {r : ((List (List Int)) × Bool)} (hp : (PF.impl_AfterSpaceSteps a0 a1) = some r) :
  Calls Tryz.prog 18 #[Value.agg #[Value.int .i64 a0.vars, v0_1], v1] wa (p_impl_AfterSpaceSteps Ha wa r) := by
 unfold PF.impl_AfterSpaceSteps at hp
 have S0 := St.init hs
 refine calls_go (N := 19) (args := [Value.agg #[Value.int .i64 a0.vars, v0_1], v1]) Tryz.func18 rfl rfl rfl ?_
 refine FW.seq (FW.region ?_)
 obtain ⟨b21, w22, run23, S24⟩ := S0.box (P := Tryz.prog) 30 [Value.int .i64 a0.vars, v0_1] (v := Value.agg #[Value.int .i64 a0.vars, v0_1]) rfl (ones_cons rfl (ones_cons p0_1.one ones_nil))
 refine FL.v (E.box rfl run23) ?_
 obtain ⟨H25, S26, i27, at28⟩ := S24.sealBox (i := 0) (l' := []) rfl rfl
 refine FL.v (E.assign (v := Value.slice none 0 0) rfl) ?_
 refine FL.v (E.assign (v := Value.bool false) rfl) ?_
 refine FL.nil (FW.seq (FW.region ?_))
 refine FL.v (E.load rfl (run_loadA Tryz.isAgg30 Tryz.sizeOf30 (at28.now S26.sl) rfl)) ?_
 refine FL.v (E.move (v := v1) rfl) ?_
 obtain ⟨r29, hr30, hp⟩ := bnd hp
 refine FL.call rfl rfl rfl (E.call Tryz.call68 (A2 rfl rfl)) (w_impl_configs S26.sl a0 v0_1 (p0_1.mono i27) v1 a1 (p1.mono i27) hr30) ?_
 rintro e w32 ⟨H31, v35, n36, cs37, rfl, r34, els38⟩
 refine ⟨_, rfl, ?_⟩
 have S33 := S26.join (l' := [.row 94 1 v35 n36 cs37]) r34 rfl
 refine FL.v (E.move (v := Value.tuple #[v35, Value.bool r29.2]) rfl) ?_
 refine FL.v (E.extract (i := 0) rfl rfl) ?_
 refine FL.v (E.extract (i := 1) rfl rfl) ?_
 refine FL.v (E.assign (v := v35) rfl) ?_
 refine FL.v (E.assign (v := Value.bool r29.2) rfl) ?_
 refine FL.nil (FW.seq (FW.seq (FW.region ?_)))
 refine FL.v (E.move (v := Value.bool r29.2) rfl) ?_
 refine FL.v (E.not rfl) ?_
 refine FL.nil ?_
 rcases ifB hp with ⟨c39, hp⟩ | ⟨c39, hp⟩
 ·
  refine FW.condT rfl c39 ?_
  refine FW.seq (FW.region ?_)
  refine FL.v (E.assign (v := Value.slice none 0 0) rfl) ?_
  refine FL.v (E.assign (v := Value.bool false) rfl) ?_
  refine FL.nil ?_
  refine FW.ret ?_
  obtain rfl := Option.some.inj hp
  exact ⟨.inr rfl, res2 rfl rfl rfl ⟨_, _, _, _, rfl, ((S33.nil 76 1).sel [0] (by decide) rfl), Els.nil, List.nodup_nil⟩⟩
 ·
  refine FW.condF rfl c39 ?_
  refine FW.skip (FW.seq (FW.region ?_))
  refine FL.v (E.move (v := v35) rfl) ?_
  obtain ⟨s50, hq50, hp⟩ := bnd hp
  obtain ⟨R50, hR50⟩ : ∃ R50 : (List (List Int)) → Ending → World → Prop, R50 = (fun s50 e w => ∃ H : GH, ∃ v51 : Value, e = Ending.returned (v51) ∧ St Ha wa H w [.row 94 1 v35 n36 cs37] ∧ Inc H31 H ∧ RSl H (eL eI 1) 1 v51 s50) := ⟨_, rfl⟩
  have hc50 : Calls Tryz.prog 70 #[v35] w32 (R50 s50) := by
   clear hp; have hp := hq50; clear hq50
   refine calls_go (N := 9) (args := [v35]) Tryz.func70 rfl rfl rfl ?_
   refine FW.seq (FW.region ?_)
   refine FL.v (E.assign (v := Value.slice none 0 0) rfl) ?_
   refine FL.nil (FW.seq (FW.region ?_))
   refine FL.v (E.move (v := v35) rfl) ?_
   refine FL.v (E.move (v := v35) rfl) ?_
   refine FL.v (E.lenO te91 rfl S33 (i := 0) rfl els38 (by decide)) ?_
   refine FL.v (E.sub rfl rfl) ?_
   obtain ⟨x59, hx60, hp⟩ := bnd hp
   obtain ⟨p53, cs54, pt55, l56, at57, rel58⟩ := S33.row_at (i := 0) rfl els38 (by decide) hx60
   obtain ⟨v61, rfl, h62⟩ := eL_open rel58
   refine FL.v (E.indexAddr te91 rfl rfl pt55) ?_
   refine FL.v (E.load rfl (run_load0 Tryz.isAgg94 at57 rfl)) ?_
   refine FL.v (E.assign (v := v61) rfl) ?_
   refine FL.nil ?_
   refine FW.ret ?_
   obtain rfl := Option.some.inj hp
   exact ⟨.inr rfl, res1 rfl rfl (by rw [hR50]; exact ⟨_, _, rfl, S33, (Inc.rfl _), h62⟩)⟩
  clear hq50
  refine FL.call rfl rfl rfl (E.call Tryz.call70 (A1 rfl)) hc50 ?_
  intro e w66 hQ50
  rw [hR50] at hQ50
  obtain ⟨H63, v51, rfl, S64, i65, h52⟩ := hQ50
  refine ⟨_, rfl, ?_⟩
  obtain ⟨r68, hr69, hp⟩ := bnd hp
  refine FL.call rfl rfl rfl (E.call Tryz.call69 (A1 rfl)) (w_impl_cloneLists S64.sl v51 s50 h52 hr69) ?_
  rintro e w71 ⟨H70, v74, n75, cs76, rfl, r73, els77, nd78⟩
  refine ⟨_, rfl, ?_⟩
  have nv79 : New H63 cs76 := New.of_up S64.sl els77.dom
  have els77 := els77.mono (up_le S64.size)
  have S72 := S64.join (l' := [.row 76 1 v74 n75 cs76, .row 94 1 v35 n36 cs37]) r73 rfl
  refine FL.v (E.assign (v := v74) rfl) ?_
  refine FL.v (E.assign (v := Value.bool true) rfl) ?_
  refine FL.nil ?_
  refine FW.ret ?_
  obtain rfl := Option.some.inj hp
  exact ⟨.inr rfl, res2 rfl rfl rfl ⟨_, _, _, _, rfl, (S72.sel [0] (by decide) rfl), els77, nd78⟩⟩

theorem w_laws_eqIntS {Ha : GH} {wa : World} (hs : Sl Ha wa) (v0 : Value) (a0 : List Int) (p0 : RSl Ha eI 1 v0 a0) (v1 : Value) (a1 : List Int) (p1 : RSl Ha eI 1 v1 a1) {r : Bool} (hp : (PF.laws_eqIntS a0 a1) = some r) :
  Calls Tryz.prog 61 #[v0, v1] wa (Sc Ha wa (Value.bool r)) := by
 unfold PF.laws_eqIntS at hp
 have S0 := St.init hs
 refine calls_go (N := 26) (args := [v0, v1]) Tryz.func61 rfl rfl rfl ?_
 refine FW.seq (FW.region ?_)
 refine FL.v (E.assign (v := Value.bool false) rfl) ?_
 refine FL.nil (FW.seq (FW.seq (FW.region ?_)))
 refine FL.v (E.move (v := v0) rfl) ?_
 refine FL.v (E.lenP te76 rfl p0) ?_
 refine FL.v (E.move (v := v1) rfl) ?_
 refine FL.v (E.lenP te76 rfl p1) ?_
 refine FL.v (E.neq rfl rfl) ?_
 refine FL.nil ?_
 rcases ifB hp with ⟨c21, hp⟩ | ⟨c21, hp⟩
 ·
  refine FW.condT rfl c21 ?_
  refine FW.seq (FW.region ?_)
  refine FL.v (E.assign (v := Value.bool false) rfl) ?_
  refine FL.nil ?_
  refine FW.ret ?_
  obtain rfl := Option.some.inj hp
  exact ⟨.inr rfl, res1 rfl rfl ⟨rfl, S0.back⟩⟩
 ·
  refine FW.condF rfl c21 ?_
  refine FW.skip (FW.seq (FW.seq (FW.region ?_)))
  refine FL.v (E.assign (v := Value.int .i64 0) rfl) ?_
  refine FL.nil ?_
  obtain ⟨q23, hq, hp⟩ := bndR hp
  refine FW.block ?_
  refine FW.mono (FW.forL (S := Unit) (X := Bool) (fun (i23 : Nat) (s23 : Unit) f w => ∃ H : GH, St Ha wa H w [] ∧ Inc Ha H ∧ f 5 = Value.int .i64 ((i23 : Nat) : Int) ∧ f 0 = v0 ∧ f 1 = v1) (fun q e f w => match q with | .go s23 => e = Exit.exit 0 ∧ (∃ H : GH, St Ha wa H w [] ∧ Inc Ha H) | .rt x => ((e = Exit.ret) ∧ (fun e f w => (e = Exit.normal ∨ e = Exit.ret) ∧ ∀ a, Fr (δ := []) 26 a f → ∃ v, (results Tryz.f61 a.tmps).run Tryz.prog w = .ok v w ∧ (Sc Ha wa (Value.bool x)) (.returned v) w) e f w)) hq ⟨_, S0, (Inc.rfl _), rfl, rfl, rfl⟩ ?_ ?_) ?_
  ·
   clear hp hq
   rintro i23 y22 s23 f55 w54 ⟨H51, S52, i53, k56, k57, k58⟩ hx23 o78 hp
   refine FW.seq (FW.seq (FW.region ?_))
   refine FL.v (E.move k56) ?_
   refine FL.v (E.move k57) ?_
   refine FL.v (E.lenP te76 rfl p0) ?_
   refine FL.v (E.lssT rfl rfl (lss_len hx23)) ?_
   refine FL.nil ?_
   refine FW.condT rfl rfl ?_
   refine FW.skip (FW.seq (FW.block (FW.seq ?_)))
   refine FW.draw (fun w' => Run w54.heap.size H51 w54 H51 w') (by kernel_rfl) (by kernel_rfl) (run_drew S52.sl) ?_
   refine FD.val rfl rfl rfl (fun w' hw' => (E.move k57)) ?_
   refine FD.val rfl rfl rfl (fun w' hw' => (E.move k56)) ?_
   obtain ⟨p60, cs61, pt62, l63, at64, rel65⟩ := p0.at (ix_nat hx23)
   obtain rfl := eI_open rel65
   refine FD.val rfl rfl rfl (fun w' hw' => (E.indexAddr te76 rfl rfl pt62)) ?_
   refine FD.val rfl rfl rfl (fun w' hw' => (E.load rfl (run_load0 Tryz.isAgg3 ((at64.mono i53).now (S52.call hw').sl) rfl))) ?_
   refine FD.val rfl rfl rfl (fun w' hw' => (E.move k58)) ?_
   refine FD.val rfl rfl rfl (fun w' hw' => (E.move k56)) ?_
   obtain ⟨x72, hx73, hp⟩ := bnd hp
   obtain ⟨p66, cs67, pt68, l69, at70, rel71⟩ := p1.at hx73
   obtain rfl := eI_open rel71
   refine FD.val rfl rfl rfl (fun w' hw' => (E.indexAddr te76 rfl rfl pt68)) ?_
   refine FD.val rfl rfl rfl (fun w' hw' => (E.load rfl (run_load0 Tryz.isAgg3 ((at70.mono i53).now (S52.call hw').sl) rfl))) ?_
   refine FD.val rfl rfl rfl (fun w' hw' => (E.neq rfl rfl)) ?_
   refine FD.nil ?_
   intro w74 r76
   have S75 := S52.call r76
   rcases ifB hp with ⟨c77, hp⟩ | ⟨c77, hp⟩
   ·
    refine FW.condT rfl c77 ?_
    refine FW.seq (FW.region ?_)
    refine FL.v (E.assign (v := Value.bool false) rfl) ?_
    refine FL.nil ?_
    refine FW.ret ?_
    obtain rfl := Option.some.inj hp
    exact ⟨nofun, rfl, ⟨.inr rfl, res1 rfl rfl ⟨rfl, S75.back⟩⟩⟩
   ·
    refine FW.condF rfl c77 ?_
    refine FW.skip (FW.region ?_)
    refine FL.v (E.move k56) ?_
    refine FL.v (E.add rfl rfl) ?_
    refine FL.v (E.assign (v := Value.int .i64 (wr (((i23 : Nat) : Int) + 1))) rfl) ?_
    refine FL.nil ?_
    obtain rfl := Option.some.inj hp
    exact ⟨rfl, ⟨_, S75, i53, (nat_succ rfl (lt_of_get hx23) (p0.mono i53).le), k57, k58⟩⟩
  ·
   clear hp hq
   rintro s23 f88 w87 ⟨H84, S85, i86, k89, k90, k91⟩
   refine FW.seq (FW.seq (FW.region ?_))
   refine FL.v (E.move k89) ?_
   refine FL.v (E.move k90) ?_
   refine FL.v (E.lenP te76 rfl p0) ?_
   refine FL.v (E.lss rfl rfl) ?_
   refine FL.nil ?_
   refine FW.condF rfl dlt_len ?_
   refine FW.exit ?_
   exact ⟨nofun, rfl, ⟨_, S85, i86⟩⟩
  ·
   clear hq
   intro e f83 w82 hD
   rcases q23 with s23 | x23
   ·
    obtain ⟨rfl, hD⟩ := hD
    obtain ⟨H79, S80, i81⟩ := hD
    replace hp := el_go hp
    refine FW.seq (FW.region ?_)
    refine FL.v (E.assign (v := Value.bool true) rfl) ?_
    refine FL.nil ?_
    refine FW.ret ?_
    obtain rfl := Option.some.inj hp
    exact ⟨.inr rfl, res1 rfl rfl ⟨rfl, S80.back⟩⟩
   ·
    obtain ⟨he, hL⟩ := hD
    replace hp := el_rt hp
    obtain rfl := Option.some.inj hp
    subst he
    exact hL

theorem w_laws_eqIntSS {Ha : GH} {wa : World} (hs : Sl Ha wa) (v0 : Value) (a0 : List (List Int)) (p0 : RSl Ha (eL eI 1) 1 v0 a0) (v1 : Value) (a1 : List (List Int)) (p1 : RSl Ha (eL eI 1) 1 v1 a1) {r : Bool} (hp : (PF.laws_eqIntSS a0 a1) = some r) :
  Calls Tryz.prog 19 #[v0, v1] wa (Sc Ha wa (Value.bool r)) := by
 unfold PF.laws_eqIntSS at hp
 have S0 := St.init hs
 refine calls_go (N := 27) (args := [v0, v1]) Tryz.func19 rfl rfl rfl ?_
 refine FW.seq (FW.region ?_)
 refine FL.v (E.assign (v := Value.bool false) rfl) ?_
 refine FL.nil (FW.seq (FW.seq (FW.region ?_)))
 refine FL.v (E.move (v := v0) rfl) ?_
 refine FL.v (E.lenP te22 rfl p0) ?_
 refine FL.v (E.move (v := v1) rfl) ?_
 refine FL.v (E.lenP te22 rfl p1) ?_
 refine FL.v (E.neq rfl rfl) ?_
 refine FL.nil ?_
 rcases ifB hp with ⟨c21, hp⟩ | ⟨c21, hp⟩
 ·
  refine FW.condT rfl c21 ?_
  refine FW.seq (FW.region ?_)
  refine FL.v (E.assign (v := Value.bool false) rfl) ?_
  refine FL.nil ?_
  refine FW.ret ?_
  obtain rfl := Option.some.inj hp
  exact ⟨.inr rfl, res1 rfl rfl ⟨rfl, S0.back⟩⟩
 ·
  refine FW.condF rfl c21 ?_
  refine FW.skip (FW.seq (FW.seq (FW.region ?_)))
  refine FL.v (E.assign (v := Value.int .i64 0) rfl) ?_
  refine FL.nil ?_
  obtain ⟨q23, hq, hp⟩ := bndR hp
  refine FW.block ?_
  refine FW.mono (FW.forL (S := Unit) (X := Bool) (fun (i23 : Nat) (s23 : Unit) f w => ∃ H : GH, St Ha wa H w [] ∧ Inc Ha H ∧ f 5 = Value.int .i64 ((i23 : Nat) : Int) ∧ f 0 = v0 ∧ f 1 = v1) (fun q e f w => match q with | .go s23 => e = Exit.exit 0 ∧ (∃ H : GH, St Ha wa H w [] ∧ Inc Ha H) | .rt x => ((e = Exit.ret) ∧ (fun e f w => (e = Exit.normal ∨ e = Exit.ret) ∧ ∀ a, Fr (δ := []) 27 a f → ∃ v, (results Tryz.f19 a.tmps).run Tryz.prog w = .ok v w ∧ (Sc Ha wa (Value.bool x)) (.returned v) w) e f w)) hq ⟨_, S0, (Inc.rfl _), rfl, rfl, rfl⟩ ?_ ?_) ?_
  ·
   clear hp hq
   rintro i23 y22 s23 f61 w60 ⟨H57, S58, i59, k62, k63, k64⟩ hx23 o90 hp
   refine FW.seq (FW.seq (FW.region ?_))
   refine FL.v (E.move k62) ?_
   refine FL.v (E.move k63) ?_
   refine FL.v (E.lenP te22 rfl p0) ?_
   refine FL.v (E.lssT rfl rfl (lss_len hx23)) ?_
   refine FL.nil ?_
   refine FW.condT rfl rfl ?_
   refine FW.skip (FW.seq (FW.block (FW.seq ?_)))
   refine FW.draw (fun w' => Run w60.heap.size H57 w60 H57 w') (by kernel_rfl) (by kernel_rfl) (run_drew S58.sl) ?_
   refine FD.val rfl rfl rfl (fun w' hw' => (E.move k63)) ?_
   refine FD.val rfl rfl rfl (fun w' hw' => (E.move k62)) ?_
   obtain ⟨p66, cs67, pt68, l69, at70, rel71⟩ := p0.at (ix_nat hx23)
   obtain ⟨v72, rfl, h73⟩ := eL_open rel71
   refine FD.val rfl rfl rfl (fun w' hw' => (E.indexAddr te22 rfl rfl pt68)) ?_
   refine FD.val rfl rfl rfl (fun w' hw' => (E.load rfl (run_load0 Tryz.isAgg76 ((at70.mono i59).now (S58.call hw').sl) rfl))) ?_
   refine FD.val rfl rfl rfl (fun w' hw' => (E.move k64)) ?_
   refine FD.val rfl rfl rfl (fun w' hw' => (E.move k62)) ?_
   obtain ⟨x80, hx81, hp⟩ := bnd hp
   obtain ⟨p74, cs75, pt76, l77, at78, rel79⟩ := p1.at hx81
   obtain ⟨v82, rfl, h83⟩ := eL_open rel79
   refine FD.val rfl rfl rfl (fun w' hw' => (E.indexAddr te22 rfl rfl pt76)) ?_
   refine FD.val rfl rfl rfl (fun w' hw' => (E.load rfl (run_load0 Tryz.isAgg76 ((at78.mono i59).now (S58.call hw').sl) rfl))) ?_
   obtain ⟨r84, hr85, hp⟩ := bnd hp
   refine FD.call rfl rfl rfl (fun w' hw' => (E.call Tryz.call61 (A2 rfl rfl))) (fun w' hw' => Calls.cls hw' (w_laws_eqIntS (S58.call hw').sl v72 y22 (h73.mono i59) v82 x80 (h83.mono i59) hr85)) ?_
   refine FD.val rfl rfl rfl (fun w' hw' => (E.not rfl)) ?_
   refine FD.nil ?_
   intro w86 r88
   have S87 := S58.call r88
   rcases ifB hp with ⟨c89, hp⟩ | ⟨c89, hp⟩
   ·
    refine FW.condT rfl c89 ?_
    refine FW.seq (FW.region ?_)
    refine FL.v (E.assign (v := Value.bool false) rfl) ?_
    refine FL.nil ?_
    refine FW.ret ?_
    obtain rfl := Option.some.inj hp
    exact ⟨nofun, rfl, ⟨.inr rfl, res1 rfl rfl ⟨rfl, S87.back⟩⟩⟩
   ·
    refine FW.condF rfl c89 ?_
    refine FW.skip (FW.region ?_)
    refine FL.v (E.move k62) ?_
    refine FL.v (E.add rfl rfl) ?_
    refine FL.v (E.assign (v := Value.int .i64 (wr (((i23 : Nat) : Int) + 1))) rfl) ?_
    refine FL.nil ?_
    obtain rfl := Option.some.inj hp
    exact ⟨rfl, ⟨_, S87, i59, (nat_succ rfl (lt_of_get hx23) (p0.mono i59).le), k63, k64⟩⟩
  ·
   clear hp hq
   rintro s23 f100 w99 ⟨H96, S97, i98, k101, k102, k103⟩
   refine FW.seq (FW.seq (FW.region ?_))
   refine FL.v (E.move k101) ?_
   refine FL.v (E.move k102) ?_
   refine FL.v (E.lenP te22 rfl p0) ?_
   refine FL.v (E.lss rfl rfl) ?_
   refine FL.nil ?_
   refine FW.condF rfl dlt_len ?_
   refine FW.exit ?_
   exact ⟨nofun, rfl, ⟨_, S97, i98⟩⟩
  ·
   clear hq
   intro e f95 w94 hD
   rcases q23 with s23 | x23
   ·
    obtain ⟨rfl, hD⟩ := hD
    obtain ⟨H91, S92, i93⟩ := hD
    replace hp := el_go hp
    refine FW.seq (FW.region ?_)
    refine FL.v (E.assign (v := Value.bool true) rfl) ?_
    refine FL.nil ?_
    refine FW.ret ?_
    obtain rfl := Option.some.inj hp
    exact ⟨.inr rfl, res1 rfl rfl ⟨rfl, S92.back⟩⟩
   ·
    obtain ⟨he, hL⟩ := hD
    replace hp := el_rt hp
    obtain rfl := Option.some.inj hp
    subst he
    exact hL

theorem w_laws_eqCnf {Ha : GH} {wa : World} (hs : Sl Ha wa) (a0 : Cnf) (v0_1 : Value) (p0_1 : RSl Ha (eL eI 1) 1 v0_1 a0.clauses) (a1 : Cnf) (v1_1 : Value) (p1_1 : RSl Ha (eL eI 1) 1 v1_1 a1.clauses) {r : Bool} (hp : (PF.laws_eqCnf a0 a1) = some r) :
  Calls Tryz.prog 20 #[Value.agg #[Value.int .i64 a0.vars, v0_1], Value.agg #[Value.int .i64 a1.vars, v1_1]] wa (Sc Ha wa (Value.bool r)) := by
 unfold PF.laws_eqCnf at hp
 have S0 := St.init hs
 refine calls_go (N := 16) (args := [Value.agg #[Value.int .i64 a0.vars, v0_1], Value.agg #[Value.int .i64 a1.vars, v1_1]]) Tryz.func20 rfl rfl rfl ?_
 refine FW.seq (FW.region ?_)
 obtain ⟨b21, w22, run23, S24⟩ := S0.box (P := Tryz.prog) 30 [Value.int .i64 a0.vars, v0_1] (v := Value.agg #[Value.int .i64 a0.vars, v0_1]) rfl (ones_cons rfl (ones_cons p0_1.one ones_nil))
 refine FL.v (E.box rfl run23) ?_
 obtain ⟨H25, S26, i27, at28⟩ := S24.sealBox (i := 0) (l' := []) rfl rfl
 obtain ⟨b29, w30, run31, S32⟩ := S26.box (P := Tryz.prog) 30 [Value.int .i64 a1.vars, v1_1] (v := Value.agg #[Value.int .i64 a1.vars, v1_1]) rfl (ones_cons rfl (ones_cons p1_1.one ones_nil))
 refine FL.v (E.box rfl run31) ?_
 obtain ⟨H33, S34, i35, at36⟩ := S32.sealBox (i := 0) (l' := []) rfl rfl
 refine FL.v (E.assign (v := Value.bool false) rfl) ?_
 refine FL.nil (FW.seq (FW.seq (FW.region ?_)))
 refine FL.v (E.fieldAddr tf30_0 rfl) ?_
 refine FL.v (E.load rfl (run_load1 Tryz.isAgg3 ((at28.mono i35).now S34.sl) rfl)) ?_
 refine FL.v (E.fieldAddr tf30_0 rfl) ?_
 refine FL.v (E.load rfl (run_load1 Tryz.isAgg3 (at36.now S34.sl) rfl)) ?_
 refine FL.v (E.neq rfl rfl) ?_
 refine FL.nil ?_
 rcases ifB hp with ⟨c37, hp⟩ | ⟨c37, hp⟩
 ·
  refine FW.condT rfl c37 ?_
  refine FW.seq (FW.region ?_)
  refine FL.v (E.assign (v := Value.bool false) rfl) ?_
  refine FL.nil ?_
  refine FW.ret ?_
  obtain rfl := Option.some.inj hp
  exact ⟨.inr rfl, res1 rfl rfl ⟨rfl, S34.back⟩⟩
 ·
  refine FW.condF rfl c37 ?_
  refine FW.skip (FW.seq (FW.seq (FW.region ?_)))
  refine FL.v (E.fieldAddr tf30_1 rfl) ?_
  refine FL.v (E.load rfl (run_load1 Tryz.isAgg22 ((at28.mono i35).now S34.sl) rfl)) ?_
  refine FL.v (E.fieldAddr tf30_1 rfl) ?_
  refine FL.v (E.load rfl (run_load1 Tryz.isAgg22 (at36.now S34.sl) rfl)) ?_
  obtain ⟨r38, hr39, hp⟩ := bnd hp
  refine FL.call rfl rfl rfl (E.call Tryz.call19 (A2 rfl rfl)) (w_laws_eqIntSS S34.sl v0_1 a0.clauses (p0_1.mono (i27.tr i35)) v1_1 a1.clauses (p1_1.mono (i27.tr i35)) hr39) ?_
  rintro e w40 ⟨rfl, r41⟩
  refine ⟨_, rfl, ?_⟩
  have S42 := S34.call r41
  refine FL.v (E.not rfl) ?_
  refine FL.nil ?_
  rcases ifB hp with ⟨c43, hp⟩ | ⟨c43, hp⟩
  ·
   refine FW.condT rfl c43 ?_
   refine FW.seq (FW.region ?_)
   refine FL.v (E.assign (v := Value.bool false) rfl) ?_
   refine FL.nil ?_
   refine FW.ret ?_
   obtain rfl := Option.some.inj hp
   exact ⟨.inr rfl, res1 rfl rfl ⟨rfl, S42.back⟩⟩
  ·
   refine FW.condF rfl c43 ?_
   refine FW.skip (FW.seq (FW.region ?_))
   refine FL.v (E.assign (v := Value.bool true) rfl) ?_
   refine FL.nil ?_
   refine FW.ret ?_
   obtain rfl := Option.some.inj hp
   exact ⟨.inr rfl, res1 rfl rfl ⟨rfl, S42.back⟩⟩

theorem w_laws_eqSpaceStep {Ha : GH} {wa : World} (hs : Sl Ha wa) (a0 : SpaceStep) (a1 : SpaceStep) :
  Calls Tryz.prog 71 #[Value.agg #[Value.int .i64 a0.kind, Value.int .i64 a0.a, Value.int .i64 a0.b, Value.int .i64 a0.pivot], Value.agg #[Value.int .i64 a1.kind, Value.int .i64 a1.a, Value.int .i64 a1.b, Value.int .i64 a1.pivot]] wa (Sc Ha wa (Value.bool (PF.laws_eqSpaceStep a0 a1))) := by
 obtain ⟨r, hp⟩ : ∃ r, (PF.laws_eqSpaceStep a0 a1) = r := ⟨_, rfl⟩
 rw [hp]
 unfold PF.laws_eqSpaceStep at hp
 have S0 := St.init hs
 refine calls_go (N := 25) (args := [Value.agg #[Value.int .i64 a0.kind, Value.int .i64 a0.a, Value.int .i64 a0.b, Value.int .i64 a0.pivot], Value.agg #[Value.int .i64 a1.kind, Value.int .i64 a1.a, Value.int .i64 a1.b, Value.int .i64 a1.pivot]]) Tryz.func71 rfl rfl rfl ?_
 refine FW.seq (FW.region ?_)
 obtain ⟨b21, w22, run23, S24⟩ := S0.box (P := Tryz.prog) 88 [Value.int .i64 a0.kind, Value.int .i64 a0.a, Value.int .i64 a0.b, Value.int .i64 a0.pivot] (v := Value.agg #[Value.int .i64 a0.kind, Value.int .i64 a0.a, Value.int .i64 a0.b, Value.int .i64 a0.pivot]) rfl (ones_cons rfl (ones_cons rfl (ones_cons rfl (ones_cons rfl ones_nil))))
 refine FL.v (E.box rfl run23) ?_
 obtain ⟨H25, S26, i27, at28⟩ := S24.sealBox (i := 0) (l' := []) rfl rfl
 obtain ⟨b29, w30, run31, S32⟩ := S26.box (P := Tryz.prog) 88 [Value.int .i64 a1.kind, Value.int .i64 a1.a, Value.int .i64 a1.b, Value.int .i64 a1.pivot] (v := Value.agg #[Value.int .i64 a1.kind, Value.int .i64 a1.a, Value.int .i64 a1.b, Value.int .i64 a1.pivot]) rfl (ones_cons rfl (ones_cons rfl (ones_cons rfl (ones_cons rfl ones_nil))))
 refine FL.v (E.box rfl run31) ?_
 obtain ⟨H33, S34, i35, at36⟩ := S32.sealBox (i := 0) (l' := []) rfl rfl
 refine FL.v (E.assign (v := Value.bool false) rfl) ?_
 refine FL.nil (FW.seq (FW.seq (FW.region ?_)))
 refine FL.v (E.fieldAddr tf88_0 rfl) ?_
 refine FL.v (E.load rfl (run_load1 Tryz.isAgg3 ((at28.mono i35).now S34.sl) rfl)) ?_
 refine FL.v (E.fieldAddr tf88_0 rfl) ?_
 refine FL.v (E.load rfl (run_load1 Tryz.isAgg3 (at36.now S34.sl) rfl)) ?_
 refine FL.v (E.neq rfl rfl) ?_
 refine FL.nil ?_
 rcases ifT hp with ⟨c37, hp⟩ | ⟨c37, hp⟩
 ·
  refine FW.condT rfl c37 ?_
  refine FW.seq (FW.region ?_)
  refine FL.v (E.assign (v := Value.bool false) rfl) ?_
  refine FL.nil ?_
  refine FW.ret ?_
  obtain rfl := hp
  exact ⟨.inr rfl, res1 rfl rfl ⟨rfl, S34.back⟩⟩
 ·
  refine FW.condF rfl c37 ?_
  refine FW.skip (FW.seq (FW.seq (FW.region ?_)))
  refine FL.v (E.fieldAddr tf88_1 rfl) ?_
  refine FL.v (E.load rfl (run_load1 Tryz.isAgg3 ((at28.mono i35).now S34.sl) rfl)) ?_
  refine FL.v (E.fieldAddr tf88_1 rfl) ?_
  refine FL.v (E.load rfl (run_load1 Tryz.isAgg3 (at36.now S34.sl) rfl)) ?_
  refine FL.v (E.neq rfl rfl) ?_
  refine FL.nil ?_
  rcases ifT hp with ⟨c38, hp⟩ | ⟨c38, hp⟩
  ·
   refine FW.condT rfl c38 ?_
   refine FW.seq (FW.region ?_)
   refine FL.v (E.assign (v := Value.bool false) rfl) ?_
   refine FL.nil ?_
   refine FW.ret ?_
   obtain rfl := hp
   exact ⟨.inr rfl, res1 rfl rfl ⟨rfl, S34.back⟩⟩
  ·
   refine FW.condF rfl c38 ?_
   refine FW.skip (FW.seq (FW.seq (FW.region ?_)))
   refine FL.v (E.fieldAddr tf88_2 rfl) ?_
   refine FL.v (E.load rfl (run_load1 Tryz.isAgg3 ((at28.mono i35).now S34.sl) rfl)) ?_
   refine FL.v (E.fieldAddr tf88_2 rfl) ?_
   refine FL.v (E.load rfl (run_load1 Tryz.isAgg3 (at36.now S34.sl) rfl)) ?_
   refine FL.v (E.neq rfl rfl) ?_
   refine FL.nil ?_
   rcases ifT hp with ⟨c39, hp⟩ | ⟨c39, hp⟩
   ·
    refine FW.condT rfl c39 ?_
    refine FW.seq (FW.region ?_)
    refine FL.v (E.assign (v := Value.bool false) rfl) ?_
    refine FL.nil ?_
    refine FW.ret ?_
    obtain rfl := hp
    exact ⟨.inr rfl, res1 rfl rfl ⟨rfl, S34.back⟩⟩
   ·
    refine FW.condF rfl c39 ?_
    refine FW.skip (FW.seq (FW.seq (FW.region ?_)))
    refine FL.v (E.fieldAddr tf88_3 rfl) ?_
    refine FL.v (E.load rfl (run_load1 Tryz.isAgg3 ((at28.mono i35).now S34.sl) rfl)) ?_
    refine FL.v (E.fieldAddr tf88_3 rfl) ?_
    refine FL.v (E.load rfl (run_load1 Tryz.isAgg3 (at36.now S34.sl) rfl)) ?_
    refine FL.v (E.neq rfl rfl) ?_
    refine FL.nil ?_
    rcases ifT hp with ⟨c40, hp⟩ | ⟨c40, hp⟩
    ·
     refine FW.condT rfl c40 ?_
     refine FW.seq (FW.region ?_)
     refine FL.v (E.assign (v := Value.bool false) rfl) ?_
     refine FL.nil ?_
     refine FW.ret ?_
     obtain rfl := hp
     exact ⟨.inr rfl, res1 rfl rfl ⟨rfl, S34.back⟩⟩
    ·
     refine FW.condF rfl c40 ?_
     refine FW.skip (FW.seq (FW.region ?_))
     refine FL.v (E.assign (v := Value.bool true) rfl) ?_
     refine FL.nil ?_
     refine FW.ret ?_
     obtain rfl := hp
     exact ⟨.inr rfl, res1 rfl rfl ⟨rfl, S34.back⟩⟩

theorem w_laws_eqSpaceStepS {Ha : GH} {wa : World} (hs : Sl Ha wa) (v0 : Value) (a0 : List SpaceStep) (p0 : RSl Ha eSpaceStep 4 v0 a0) (v1 : Value) (a1 : List SpaceStep) (p1 : RSl Ha eSpaceStep 4 v1 a1) {r : Bool} (hp : (PF.laws_eqSpaceStepS a0 a1) = some r) :
  Calls Tryz.prog 21 #[v0, v1] wa (Sc Ha wa (Value.bool r)) := by
 unfold PF.laws_eqSpaceStepS at hp
 have S0 := St.init hs
 refine calls_go (N := 27) (args := [v0, v1]) Tryz.func21 rfl rfl rfl ?_
 refine FW.seq (FW.region ?_)
 refine FL.v (E.assign (v := Value.bool false) rfl) ?_
 refine FL.nil (FW.seq (FW.seq (FW.region ?_)))
 refine FL.v (E.move (v := v0) rfl) ?_
 refine FL.v (E.lenP te32 rfl p0) ?_
 refine FL.v (E.move (v := v1) rfl) ?_
 refine FL.v (E.lenP te32 rfl p1) ?_
 refine FL.v (E.neq rfl rfl) ?_
 refine FL.nil ?_
 rcases ifB hp with ⟨c21, hp⟩ | ⟨c21, hp⟩
 ·
  refine FW.condT rfl c21 ?_
  refine FW.seq (FW.region ?_)
  refine FL.v (E.assign (v := Value.bool false) rfl) ?_
  refine FL.nil ?_
  refine FW.ret ?_
  obtain rfl := Option.some.inj hp
  exact ⟨.inr rfl, res1 rfl rfl ⟨rfl, S0.back⟩⟩
 ·
  refine FW.condF rfl c21 ?_
  refine FW.skip (FW.seq (FW.seq (FW.region ?_)))
  refine FL.v (E.assign (v := Value.int .i64 0) rfl) ?_
  refine FL.nil ?_
  obtain ⟨q23, hq, hp⟩ := bndR hp
  refine FW.block ?_
  refine FW.mono (FW.forL (S := Unit) (X := Bool) (fun (i23 : Nat) (s23 : Unit) f w => ∃ H : GH, St Ha wa H w [] ∧ Inc Ha H ∧ f 5 = Value.int .i64 ((i23 : Nat) : Int) ∧ f 0 = v0 ∧ f 1 = v1) (fun q e f w => match q with | .go s23 => e = Exit.exit 0 ∧ (∃ H : GH, St Ha wa H w [] ∧ Inc Ha H) | .rt x => ((e = Exit.ret) ∧ (fun e f w => (e = Exit.normal ∨ e = Exit.ret) ∧ ∀ a, Fr (δ := []) 27 a f → ∃ v, (results Tryz.f21 a.tmps).run Tryz.prog w = .ok v w ∧ (Sc Ha wa (Value.bool x)) (.returned v) w) e f w)) hq ⟨_, S0, (Inc.rfl _), rfl, rfl, rfl⟩ ?_ ?_) ?_
  ·
   clear hp hq
   rintro i23 y22 s23 f55 w54 ⟨H51, S52, i53, k56, k57, k58⟩ hx23 o78 hp
   refine FW.seq (FW.seq (FW.region ?_))
   refine FL.v (E.move k56) ?_
   refine FL.v (E.move k57) ?_
   refine FL.v (E.lenP te32 rfl p0) ?_
   refine FL.v (E.lssT rfl rfl (lss_len hx23)) ?_
   refine FL.nil ?_
   refine FW.condT rfl rfl ?_
   refine FW.skip (FW.seq (FW.block (FW.seq ?_)))
   refine FW.draw (fun w' => Run w54.heap.size H51 w54 H51 w') (by kernel_rfl) (by kernel_rfl) (run_drew S52.sl) ?_
   refine FD.val rfl rfl rfl (fun w' hw' => (E.move k57)) ?_
   refine FD.val rfl rfl rfl (fun w' hw' => (E.move k56)) ?_
   obtain ⟨p60, cs61, pt62, l63, at64, rel65⟩ := p0.at (ix_nat hx23)
   obtain rfl := eSpaceStep_open rel65
   refine FD.val rfl rfl rfl (fun w' hw' => (E.indexAddr te32 rfl rfl pt62)) ?_
   refine FD.val rfl rfl rfl (fun w' hw' => (E.load rfl (run_loadA Tryz.isAgg88 Tryz.sizeOf88 ((at64.mono i53).now (S52.call hw').sl) rfl))) ?_
   refine FD.val rfl rfl rfl (fun w' hw' => (E.move k58)) ?_
   refine FD.val rfl rfl rfl (fun w' hw' => (E.move k56)) ?_
   obtain ⟨x72, hx73, hp⟩ := bnd hp
   obtain ⟨p66, cs67, pt68, l69, at70, rel71⟩ := p1.at hx73
   obtain rfl := eSpaceStep_open rel71
   refine FD.val rfl rfl rfl (fun w' hw' => (E.indexAddr te32 rfl rfl pt68)) ?_
   refine FD.val rfl rfl rfl (fun w' hw' => (E.load rfl (run_loadA Tryz.isAgg88 Tryz.sizeOf88 ((at70.mono i53).now (S52.call hw').sl) rfl))) ?_
   refine FD.call rfl rfl rfl (fun w' hw' => (E.call Tryz.call71 (A2 rfl rfl))) (fun w' hw' => Calls.cls hw' (w_laws_eqSpaceStep (S52.call hw').sl y22 x72)) ?_
   refine FD.val rfl rfl rfl (fun w' hw' => (E.not rfl)) ?_
   refine FD.nil ?_
   intro w74 r76
   have S75 := S52.call r76
   rcases ifB hp with ⟨c77, hp⟩ | ⟨c77, hp⟩
   ·
    refine FW.condT rfl c77 ?_
    refine FW.seq (FW.region ?_)
    refine FL.v (E.assign (v := Value.bool false) rfl) ?_
    refine FL.nil ?_
    refine FW.ret ?_
    obtain rfl := Option.some.inj hp
    exact ⟨nofun, rfl, ⟨.inr rfl, res1 rfl rfl ⟨rfl, S75.back⟩⟩⟩
   ·
    refine FW.condF rfl c77 ?_
    refine FW.skip (FW.region ?_)
    refine FL.v (E.move k56) ?_
    refine FL.v (E.add rfl rfl) ?_
    refine FL.v (E.assign (v := Value.int .i64 (wr (((i23 : Nat) : Int) + 1))) rfl) ?_
    refine FL.nil ?_
    obtain rfl := Option.some.inj hp
    exact ⟨rfl, ⟨_, S75, i53, (nat_succ rfl (lt_of_get hx23) (p0.mono i53).le), k57, k58⟩⟩
  ·
   clear hp hq
   rintro s23 f88 w87 ⟨H84, S85, i86, k89, k90, k91⟩
   refine FW.seq (FW.seq (FW.region ?_))
   refine FL.v (E.move k89) ?_
   refine FL.v (E.move k90) ?_
   refine FL.v (E.lenP te32 rfl p0) ?_
   refine FL.v (E.lss rfl rfl) ?_
   refine FL.nil ?_
   refine FW.condF rfl dlt_len ?_
   refine FW.exit ?_
   exact ⟨nofun, rfl, ⟨_, S85, i86⟩⟩
  ·
   clear hq
   intro e f83 w82 hD
   rcases q23 with s23 | x23
   ·
    obtain ⟨rfl, hD⟩ := hD
    obtain ⟨H79, S80, i81⟩ := hD
    replace hp := el_go hp
    refine FW.seq (FW.region ?_)
    refine FL.v (E.assign (v := Value.bool true) rfl) ?_
    refine FL.nil ?_
    refine FW.ret ?_
    obtain rfl := Option.some.inj hp
    exact ⟨.inr rfl, res1 rfl rfl ⟨rfl, S80.back⟩⟩
   ·
    obtain ⟨he, hL⟩ := hD
    replace hp := el_rt hp
    obtain rfl := Option.some.inj hp
    subst he
    exact hL

theorem w_laws_markIntS {H0 Ha : GH} {w0 wa : World} {l : List MO} (S0 : St H0 w0 Ha wa l) (hs0 : Sl H0 w0) (v0 : Value) (a0 : List Int) (p0 : RSl (up w0.heap.size Ha) eI 1 v0 a0) (a1 : Int) :
  Calls Tryz.prog 62 #[v0, Value.int .i64 a1] wa (M1 H0 w0 Ha l eI 1 v0 (PF.laws_markIntS a0 a1)) := by
 obtain ⟨c0, n0, hc0⟩ := p0.nest eI_flat (by decide)
 have hln := p0.ln
 have hle := p0.le
 refine calls_go (N := 19) (args := [v0, Value.int .i64 a1]) Tryz.func62 rfl rfl rfl ?_
 refine FW.seq (FW.region ?_)
 refine FL.v (E.assign (v := Value.int .i64 0) rfl) ?_
 refine FL.nil (FW.seq (FW.seq (FW.region ?_)))
 refine FL.v (E.assign (v := Value.int .i64 0) rfl) ?_
 refine FL.nil (FW.block ?_)
 refine FW.mono (FW.mark (F := fun y m => (m, (wr (m + 1)))) (a0 := a0) (k0 := a1) (fun (i : Nat) (xs : List Int) (k : Int) f w => ∃ (H : GH) (c : List Value), St H0 w0 H w l ∧ Nest (up w0.heap.size H) eI 1 v0 xs c ∧ bl c = bl c0 ∧ (∀ b, b ∉ bl [v0] → b ∉ bl c0 → H b = Ha b) ∧ f 0 = v0 ∧ f 1 = Value.int .i64 k ∧ f 5 = Value.int .i64 ((i : Nat) : Int)) (fun e f w => e = Exit.exit 0 ∧ ∃ (H : GH) (c : List Value), St H0 w0 H w l ∧ Nest (up w0.heap.size H) eI 1 v0 (markFrom (fun y m => (m, (wr (m + 1)))) a0 a1).1 c ∧ bl c = bl c0 ∧ (∀ b, b ∉ bl [v0] → b ∉ bl c0 → H b = Ha b) ∧ f 0 = v0 ∧ f 1 = Value.int .i64 (markFrom (fun y m => (m, (wr (m + 1)))) a0 a1).2) ⟨_, _, S0, n0, rfl, fun _ _ _ => rfl, rfl, rfl, rfl⟩ ?_ ?_) ?_
 ·
  rintro i y xs m f1 w1 ⟨H1, c1, S1, n1, hb, ho, kv, kk, kc⟩ hx hy
  obtain ⟨p, hpt, wr0, hB, hr, nd⟩ := n1.begin hy (by decide)
  have hci := eI_open hr
  have rd := wr0.opens hci
  refine FW.seq (FW.seq (FW.region ?_))
  refine FL.v (E.move kc) ?_
  refine FL.v (E.move kv) ?_
  refine FL.v (E.len te76 rfl hln) ?_
  refine FL.v (E.lssT rfl rfl (lss_len hx)) ?_
  refine FL.nil ?_
  refine FW.condT rfl rfl ?_
  refine FW.skip (FW.seq (FW.block (FW.seq (FW.region ?_))))
  refine FL.v (E.move kv) ?_
  refine FL.v (E.move kc) ?_
  refine FL.v (E.move kk) ?_
  refine FL.v (E.indexAddr te76 rfl rfl hpt) ?_
  obtain ⟨w21, H22, run24, S23, wr25, o26⟩ := rd.poke0 (P := Tryz.prog) (t := 3) (u := Value.int .i64 m) S1 hs0 hB rfl rfl rfl Tryz.sizeOf3 rfl rfl (c2 := [Value.int .i64 m]) rfl
  refine FL.act rfl rfl (E.store rfl rfl run24) ?_
  refine FL.nil (FW.region ?_)
  refine FL.v (E.move kk) ?_
  refine FL.v (E.add rfl rfl) ?_
  refine FL.v (E.assign (v := Value.int .i64 (wr (m + 1))) rfl) ?_
  refine FL.nil (FW.region ?_)
  refine FL.v (E.move kc) ?_
  refine FL.v (E.add rfl rfl) ?_
  refine FL.v (E.assign (v := Value.int .i64 (wr (((i : Nat) : Int) + 1))) rfl) ?_
  refine FL.nil ?_
  obtain ⟨c2, n2, hb2, ho2⟩ := n1.round eI_flat.loc hy (by decide) hpt wr25 (y' := m) rfl
  exact ⟨rfl, _, _, S23, n2, hb2.trans hb, fun b q1 q2 => (ho2 b q1 (by rw [hb]; exact q2)).trans (ho b q1 q2), kv, rfl, nat_succ rfl (lt_of_get hx) hle⟩
 ·
  rintro f1 w1 ⟨H1, c1, S1, n1, hb, ho, kv, kk, kc⟩
  refine FW.seq (FW.seq (FW.region ?_))
  refine FL.v (E.move kc) ?_
  refine FL.v (E.move kv) ?_
  refine FL.v (E.len te76 rfl hln) ?_
  refine FL.v (E.lss rfl rfl) ?_
  refine FL.nil ?_
  refine FW.condF rfl dlt_len ?_
  refine FW.exit ?_
  exact ⟨nofun, rfl, _, _, S1, n1, hb, ho, kv, kk⟩
 ·
  rintro e f2 w2 ⟨rfl, H2, c2, S2, n2, hb, ho, kv, kk⟩
  refine FW.seq (FW.region ?_)
  refine FL.v (E.move kk) ?_
  refine FL.v (E.assign (v := Value.int .i64 ((markFrom (fun y m => (m, (wr (m + 1)))) a0 a1).2)) rfl) ?_
  refine FL.nil ?_
  refine FW.ret ?_
  exact ⟨.inr rfl, res1 rfl rfl ⟨_, rfl, S2, n2.rsl, fun b q => ho b q (by rw [hc0]; simp)⟩⟩

theorem w_laws_markIntSS {H0 Ha : GH} {w0 wa : World} {l : List MO} (S0 : St H0 w0 Ha wa l) (hs0 : Sl H0 w0) (v0 : Value) (a0 : List (List Int)) (c0 : List Value) (n0 : Nest (up w0.heap.size Ha) (eL eI 1) 1 v0 a0 c0) (a1 : Int) :
  Calls Tryz.prog 24 #[v0, Value.int .i64 a1] wa (M2 H0 w0 Ha l (eL eI 1) 1 v0 c0 (PF.laws_markIntSS a0 a1)) := by
 have hln := n0.rsl.ln
 have hle := n0.rsl.le
 refine calls_go (N := 19) (args := [v0, Value.int .i64 a1]) Tryz.func24 rfl rfl rfl ?_
 refine FW.seq (FW.region ?_)
 refine FL.v (E.assign (v := Value.int .i64 0) rfl) ?_
 refine FL.nil (FW.seq (FW.seq (FW.region ?_)))
 refine FL.v (E.assign (v := Value.int .i64 0) rfl) ?_
 refine FL.nil (FW.block ?_)
 refine FW.mono (FW.mark (F := fun y m => ((PF.laws_markIntS y m).1, (PF.laws_markIntS y m).2)) (a0 := a0) (k0 := a1) (fun (i : Nat) (xs : List (List Int)) (k : Int) f w => ∃ (H : GH) (c : List Value), St H0 w0 H w l ∧ Nest (up w0.heap.size H) (eL eI 1) 1 v0 xs c ∧ bl c = bl c0 ∧ (∀ b, b ∉ bl [v0] → b ∉ bl c0 → H b = Ha b) ∧ f 0 = v0 ∧ f 1 = Value.int .i64 k ∧ f 5 = Value.int .i64 ((i : Nat) : Int)) (fun e f w => e = Exit.exit 0 ∧ ∃ (H : GH) (c : List Value), St H0 w0 H w l ∧ Nest (up w0.heap.size H) (eL eI 1) 1 v0 (markFrom (fun y m => ((PF.laws_markIntS y m).1, (PF.laws_markIntS y m).2)) a0 a1).1 c ∧ bl c = bl c0 ∧ (∀ b, b ∉ bl [v0] → b ∉ bl c0 → H b = Ha b) ∧ f 0 = v0 ∧ f 1 = Value.int .i64 (markFrom (fun y m => ((PF.laws_markIntS y m).1, (PF.laws_markIntS y m).2)) a0 a1).2) ⟨_, _, S0, n0, rfl, fun _ _ _ => rfl, rfl, rfl, rfl⟩ ?_ ?_) ?_
 ·
  rintro i y xs m f1 w1 ⟨H1, c1, S1, n1, hb, ho, kv, kk, kc⟩ hx hy
  obtain ⟨p, hpt, wr0, hB, hr, nd⟩ := n1.begin hy (by decide)
  obtain ⟨u0, hci, hu0⟩ := eL_open hr
  have rd := wr0.opens hci
  refine FW.seq (FW.seq (FW.region ?_))
  refine FL.v (E.move kc) ?_
  refine FL.v (E.move kv) ?_
  refine FL.v (E.len te22 rfl hln) ?_
  refine FL.v (E.lssT rfl rfl (lss_len hx)) ?_
  refine FL.nil ?_
  refine FW.condT rfl rfl ?_
  refine FW.skip (FW.seq (FW.block (FW.region ?_)))
  refine FL.v (E.move kv) ?_
  refine FL.v (E.move kc) ?_
  refine FL.v (E.indexAddr te22 rfl rfl hpt) ?_
  refine FL.v (E.load rfl (run_load0 Tryz.isAgg76 (rd.now S1.sl) rfl)) ?_
  refine FL.v (E.move kk) ?_
  refine FL.call rfl rfl rfl (E.call Tryz.call62 (A2 rfl rfl)) (w_laws_markIntS S1 hs0 u0 y hu0 m) ?_
  rintro e w22 ⟨H21, rfl, S23, h24, o25⟩
  refine ⟨_, rfl, ?_⟩
  have wr26 := rd.inner (j := 0) rfl o25
  refine FL.v (E.assign (v := Value.int .i64 ((PF.laws_markIntS y m).2)) rfl) ?_
  refine FL.nil (FW.region ?_)
  refine FL.v (E.move kc) ?_
  refine FL.v (E.add rfl rfl) ?_
  refine FL.v (E.assign (v := Value.int .i64 (wr (((i : Nat) : Int) + 1))) rfl) ?_
  refine FL.nil ?_
  obtain ⟨c2, n2, hb2, ho2⟩ := n1.round (eL_loc eI_flat) hy (by decide) hpt wr26 (y' := (PF.laws_markIntS y m).1) ⟨_, rfl, h24⟩
  exact ⟨rfl, _, _, S23, n2, hb2.trans hb, fun b q1 q2 => (ho2 b q1 (by rw [hb]; exact q2)).trans (ho b q1 q2), kv, rfl, nat_succ rfl (lt_of_get hx) hle⟩
 ·
  rintro f1 w1 ⟨H1, c1, S1, n1, hb, ho, kv, kk, kc⟩
  refine FW.seq (FW.seq (FW.region ?_))
  refine FL.v (E.move kc) ?_
  refine FL.v (E.move kv) ?_
  refine FL.v (E.len te22 rfl hln) ?_
  refine FL.v (E.lss rfl rfl) ?_
  refine FL.nil ?_
  refine FW.condF rfl dlt_len ?_
  refine FW.exit ?_
  exact ⟨nofun, rfl, _, _, S1, n1, hb, ho, kv, kk⟩
 ·
  rintro e f2 w2 ⟨rfl, H2, c2, S2, n2, hb, ho, kv, kk⟩
  refine FW.seq (FW.region ?_)
  refine FL.v (E.move kk) ?_
  refine FL.v (E.assign (v := Value.int .i64 ((markFrom (fun y m => ((PF.laws_markIntS y m).1, (PF.laws_markIntS y m).2)) a0 a1).2)) rfl) ?_
  refine FL.nil ?_
  refine FW.ret ?_
  exact ⟨.inr rfl, res1 rfl rfl ⟨_, _, rfl, S2, n2, hb, fun b q1 q2 => weak (F := fun b => b ∉ bl [v0] ∧ b ∉ bl c0) (fun b q => ho b q.1 q.2) b ⟨q1, q2⟩⟩⟩

@[reducible] def p_laws_markCnf (H0 : GH) (w0 : World) (Ha : GH) (l : List MO) (v0 : Value) (c0 : List Value) (r : Cnf × Int) : Ending → World → Prop := fun e w' =>
 ∃ (H' : GH) (c' : List Value), e = .returned (.int .i64 r.2) ∧ St H0 w0 H' w' l ∧ Nest (up w0.heap.size H') (eL eI 1) 1 v0 r.1.clauses c' ∧ bl c' = bl c0 ∧ ∀ b, b ∉ bl [v0] → b ∉ bl c0 → ∀ o, Ha b = some o → H' b = some o
theorem w_laws_markCnf {H0 Ha : GH} {w0 wa : World} {l : List MO} (S0 : St H0 w0 Ha wa l) (hs0 : Sl H0 w0) (a0 : Cnf) (v0 : Value) (c0 : List Value) (n0 : Nest (up w0.heap.size Ha) (eL eI 1) 1 v0 a0.clauses c0) (a1 : Int) :
  Calls Tryz.prog 22 #[.agg #[Value.int .i64 a0.vars, v0], Value.int .i64 a1] wa (p_laws_markCnf H0 w0 Ha l v0 c0 (PF.laws_markCnf a0 a1)) := by
 refine calls_go (N := 10) (args := [.agg #[Value.int .i64 a0.vars, v0], Value.int .i64 a1]) Tryz.func22 rfl rfl rfl ?_
 refine FW.seq (FW.region ?_)
 obtain ⟨b21, w22, run23, S24⟩ := S0.box (P := Tryz.prog) 30 [Value.int .i64 a0.vars, v0] (v := Value.agg #[Value.int .i64 a0.vars, v0]) rfl (ones_cons rfl (ones_cons n0.rsl.one ones_nil))
 refine FL.v (E.box rfl run23) ?_
 obtain ⟨H25, S26, i27, at28⟩ := S24.sealBox (i := 0) (l' := l) rfl rfl
 refine FL.v (E.assign (v := Value.int .i64 0) rfl) ?_
 refine FL.nil (FW.seq (FW.region ?_))
 refine FL.v (E.fieldAddr tf30_1 rfl) ?_
 refine FL.v (E.load rfl (run_load1 Tryz.isAgg22 (at28.now S26.sl) rfl)) ?_
 refine FL.v (E.move (v := Value.int .i64 a1) rfl) ?_
 refine FL.call rfl rfl rfl (E.call Tryz.call24 (A2 rfl rfl)) (w_laws_markIntSS S26 hs0 v0 a0.clauses c0 (n0.mono (up_mono i27)) a1) ?_
 rintro e w30 ⟨H29, c34, rfl, S31, h32, hb35, o33⟩
 refine ⟨_, rfl, ?_⟩
 refine FL.v (E.assign (v := Value.int .i64 ((PF.laws_markIntSS a0.clauses a1).2)) rfl) ?_
 refine FL.nil (FW.seq (FW.region ?_))
 refine FL.v (E.move (v := Value.int .i64 ((PF.laws_markIntSS a0.clauses a1).2)) rfl) ?_
 refine FL.v (E.assign (v := Value.int .i64 ((PF.laws_markIntSS a0.clauses a1).2)) rfl) ?_
 refine FL.nil ?_
 refine FW.ret ?_
 exact ⟨.inr rfl, res1 rfl rfl ⟨_, _, rfl, S31, h32, hb35, fun b q1 q2 o ho => o33 b q1 q2 o (i27 b o ho)⟩⟩

theorem w_laws_markSpaceStepS {H0 Ha : GH} {w0 wa : World} {l : List MO} (S0 : St H0 w0 Ha wa l) (hs0 : Sl H0 w0) (v0 : Value) (a0 : List SpaceStep) (p0 : RSl (up w0.heap.size Ha) eSpaceStep 4 v0 a0) (a1 : Int) :
  Calls Tryz.prog 23 #[v0, Value.int .i64 a1] wa (M1 H0 w0 Ha l eSpaceStep 4 v0 (PF.laws_markSpaceStepS a0 a1)) := by
 obtain ⟨c0, n0, hc0⟩ := p0.nest eSpaceStep_flat (by decide)
 have hln := p0.ln
 have hle := p0.le
 refine calls_go (N := 41) (args := [v0, Value.int .i64 a1]) Tryz.func23 rfl rfl rfl ?_
 refine FW.seq (FW.region ?_)
 refine FL.v (E.assign (v := Value.int .i64 0) rfl) ?_
 refine FL.nil (FW.seq (FW.seq (FW.region ?_)))
 refine FL.v (E.assign (v := Value.int .i64 0) rfl) ?_
 refine FL.nil (FW.block ?_)
 refine FW.mono (FW.mark (F := fun y m => ((SpaceStep.mk m (wr (m + 1)) (wr ((wr (m + 1)) + 1)) (wr ((wr ((wr (m + 1)) + 1)) + 1))), (wr ((wr ((wr ((wr (m + 1)) + 1)) + 1)) + 1)))) (a0 := a0) (k0 := a1) (fun (i : Nat) (xs : List SpaceStep) (k : Int) f w => ∃ (H : GH) (c : List Value), St H0 w0 H w l ∧ Nest (up w0.heap.size H) eSpaceStep 4 v0 xs c ∧ bl c = bl c0 ∧ (∀ b, b ∉ bl [v0] → b ∉ bl c0 → H b = Ha b) ∧ f 0 = v0 ∧ f 1 = Value.int .i64 k ∧ f 5 = Value.int .i64 ((i : Nat) : Int)) (fun e f w => e = Exit.exit 0 ∧ ∃ (H : GH) (c : List Value), St H0 w0 H w l ∧ Nest (up w0.heap.size H) eSpaceStep 4 v0 (markFrom (fun y m => ((SpaceStep.mk m (wr (m + 1)) (wr ((wr (m + 1)) + 1)) (wr ((wr ((wr (m + 1)) + 1)) + 1))), (wr ((wr ((wr ((wr (m + 1)) + 1)) + 1)) + 1)))) a0 a1).1 c ∧ bl c = bl c0 ∧ (∀ b, b ∉ bl [v0] → b ∉ bl c0 → H b = Ha b) ∧ f 0 = v0 ∧ f 1 = Value.int .i64 (markFrom (fun y m => ((SpaceStep.mk m (wr (m + 1)) (wr ((wr (m + 1)) + 1)) (wr ((wr ((wr (m + 1)) + 1)) + 1))), (wr ((wr ((wr ((wr (m + 1)) + 1)) + 1)) + 1)))) a0 a1).2) ⟨_, _, S0, n0, rfl, fun _ _ _ => rfl, rfl, rfl, rfl⟩ ?_ ?_) ?_
 ·
  rintro i y xs m f1 w1 ⟨H1, c1, S1, n1, hb, ho, kv, kk, kc⟩ hx hy
  obtain ⟨p, hpt, wr0, hB, hr, nd⟩ := n1.begin hy (by decide)
  have hci := eSpaceStep_open hr
  have rd := wr0.opens hci
  refine FW.seq (FW.seq (FW.region ?_))
  refine FL.v (E.move kc) ?_
  refine FL.v (E.move kv) ?_
  refine FL.v (E.len te32 rfl hln) ?_
  refine FL.v (E.lssT rfl rfl (lss_len hx)) ?_
  refine FL.nil ?_
  refine FW.condT rfl rfl ?_
  refine FW.skip (FW.seq (FW.block (FW.seq (FW.region ?_))))
  refine FL.v (E.move kv) ?_
  refine FL.v (E.move kc) ?_
  refine FL.v (E.move kk) ?_
  refine FL.v (E.indexAddr te32 rfl rfl hpt) ?_
  refine FL.v (E.fieldAddr tf88_0 rfl) ?_
  obtain ⟨w21, H22, run24, S23, wr25, o26⟩ := rd.poke (P := Tryz.prog) (t := 3) (u := Value.int .i64 m) S1 hs0 hB (j := 0) rfl rfl rfl Tryz.sizeOf3 rfl rfl (c2 := [Value.int .i64 m, Value.int .i64 y.a, Value.int .i64 y.b, Value.int .i64 y.pivot]) rfl
  refine FL.act rfl rfl (E.store rfl rfl run24) ?_
  refine FL.nil (FW.seq (FW.region ?_))
  refine FL.v (E.move kk) ?_
  refine FL.v (E.add rfl rfl) ?_
  refine FL.v (E.assign (v := Value.int .i64 (wr (m + 1))) rfl) ?_
  refine FL.nil (FW.seq (FW.region ?_))
  refine FL.v (E.move kv) ?_
  refine FL.v (E.move kc) ?_
  refine FL.v (E.move (v := Value.int .i64 (wr (m + 1))) rfl) ?_
  refine FL.v (E.indexAddr te32 rfl rfl hpt) ?_
  refine FL.v (E.fieldAddr tf88_1 rfl) ?_
  obtain ⟨w27, H28, run30, S29, wr31, o32⟩ := wr25.poke (P := Tryz.prog) (t := 3) (u := Value.int .i64 (wr (m + 1))) S23 hs0 hB (j := 1) rfl rfl rfl Tryz.sizeOf3 rfl rfl (c2 := [Value.int .i64 m, Value.int .i64 (wr (m + 1)), Value.int .i64 y.b, Value.int .i64 y.pivot]) rfl
  refine FL.act rfl rfl (E.store rfl rfl run30) ?_
  refine FL.nil (FW.seq (FW.region ?_))
  refine FL.v (E.move (v := Value.int .i64 (wr (m + 1))) rfl) ?_
  refine FL.v (E.add rfl rfl) ?_
  refine FL.v (E.assign (v := Value.int .i64 (wr ((wr (m + 1)) + 1))) rfl) ?_
  refine FL.nil (FW.seq (FW.region ?_))
  refine FL.v (E.move kv) ?_
  refine FL.v (E.move kc) ?_
  refine FL.v (E.move (v := Value.int .i64 (wr ((wr (m + 1)) + 1))) rfl) ?_
  refine FL.v (E.indexAddr te32 rfl rfl hpt) ?_
  refine FL.v (E.fieldAddr tf88_2 rfl) ?_
  obtain ⟨w33, H34, run36, S35, wr37, o38⟩ := wr31.poke (P := Tryz.prog) (t := 3) (u := Value.int .i64 (wr ((wr (m + 1)) + 1))) S29 hs0 hB (j := 2) rfl rfl rfl Tryz.sizeOf3 rfl rfl (c2 := [Value.int .i64 m, Value.int .i64 (wr (m + 1)), Value.int .i64 (wr ((wr (m + 1)) + 1)), Value.int .i64 y.pivot]) rfl
  refine FL.act rfl rfl (E.store rfl rfl run36) ?_
  refine FL.nil (FW.seq (FW.region ?_))
  refine FL.v (E.move (v := Value.int .i64 (wr ((wr (m + 1)) + 1))) rfl) ?_
  refine FL.v (E.add rfl rfl) ?_
  refine FL.v (E.assign (v := Value.int .i64 (wr ((wr ((wr (m + 1)) + 1)) + 1))) rfl) ?_
  refine FL.nil (FW.seq (FW.region ?_))
  refine FL.v (E.move kv) ?_
  refine FL.v (E.move kc) ?_
  refine FL.v (E.move (v := Value.int .i64 (wr ((wr ((wr (m + 1)) + 1)) + 1))) rfl) ?_
  refine FL.v (E.indexAddr te32 rfl rfl hpt) ?_
  refine FL.v (E.fieldAddr tf88_3 rfl) ?_
  obtain ⟨w39, H40, run42, S41, wr43, o44⟩ := wr37.poke (P := Tryz.prog) (t := 3) (u := Value.int .i64 (wr ((wr ((wr (m + 1)) + 1)) + 1))) S35 hs0 hB (j := 3) rfl rfl rfl Tryz.sizeOf3 rfl rfl (c2 := [Value.int .i64 m, Value.int .i64 (wr (m + 1)), Value.int .i64 (wr ((wr (m + 1)) + 1)), Value.int .i64 (wr ((wr ((wr (m + 1)) + 1)) + 1))]) rfl
  refine FL.act rfl rfl (E.store rfl rfl run42) ?_
  refine FL.nil (FW.region ?_)
  refine FL.v (E.move (v := Value.int .i64 (wr ((wr ((wr (m + 1)) + 1)) + 1))) rfl) ?_
  refine FL.v (E.add rfl rfl) ?_
  refine FL.v (E.assign (v := Value.int .i64 (wr ((wr ((wr ((wr (m + 1)) + 1)) + 1)) + 1))) rfl) ?_
  refine FL.nil (FW.region ?_)
  refine FL.v (E.move kc) ?_
  refine FL.v (E.add rfl rfl) ?_
  refine FL.v (E.assign (v := Value.int .i64 (wr (((i : Nat) : Int) + 1))) rfl) ?_
  refine FL.nil ?_
  obtain ⟨c2, n2, hb2, ho2⟩ := n1.round eSpaceStep_flat.loc hy (by decide) hpt wr43 (y' := (SpaceStep.mk m (wr (m + 1)) (wr ((wr (m + 1)) + 1)) (wr ((wr ((wr (m + 1)) + 1)) + 1)))) rfl
  exact ⟨rfl, _, _, S41, n2, hb2.trans hb, fun b q1 q2 => (ho2 b q1 (by rw [hb]; exact q2)).trans (ho b q1 q2), kv, rfl, nat_succ rfl (lt_of_get hx) hle⟩
 ·
  rintro f1 w1 ⟨H1, c1, S1, n1, hb, ho, kv, kk, kc⟩
  refine FW.seq (FW.seq (FW.region ?_))
  refine FL.v (E.move kc) ?_
  refine FL.v (E.move kv) ?_
  refine FL.v (E.len te32 rfl hln) ?_
  refine FL.v (E.lss rfl rfl) ?_
  refine FL.nil ?_
  refine FW.condF rfl dlt_len ?_
  refine FW.exit ?_
  exact ⟨nofun, rfl, _, _, S1, n1, hb, ho, kv, kk⟩
 ·
  rintro e f2 w2 ⟨rfl, H2, c2, S2, n2, hb, ho, kv, kk⟩
  refine FW.seq (FW.region ?_)
  refine FL.v (E.move kk) ?_
  refine FL.v (E.assign (v := Value.int .i64 ((markFrom (fun y m => ((SpaceStep.mk m (wr (m + 1)) (wr ((wr (m + 1)) + 1)) (wr ((wr ((wr (m + 1)) + 1)) + 1))), (wr ((wr ((wr ((wr (m + 1)) + 1)) + 1)) + 1)))) a0 a1).2)) rfl) ?_
  refine FL.nil ?_
  refine FW.ret ?_
  exact ⟨.inr rfl, res1 rfl rfl ⟨_, rfl, S2, n2.rsl, fun b q => ho b q (by rw [hc0]; simp)⟩⟩

theorem w_laws_heldIntS {Ha : GH} {wa : World} (hs : Sl Ha wa) (v0 : Value) (a0 : List Int) (p0 : RSl Ha eI 1 v0 a0) (a1 : Int) {r : Int} (hp : (PF.laws_heldIntS a0 a1) = some r) :
  Calls Tryz.prog 63 #[v0, Value.int .i64 a1] wa (Sc Ha wa (Value.int .i64 r)) := by
 unfold PF.laws_heldIntS at hp
 have S0 := St.init hs
 refine calls_go (N := 21) (args := [v0, Value.int .i64 a1]) Tryz.func63 rfl rfl rfl ?_
 refine FW.seq (FW.region ?_)
 refine FL.v (E.assign (v := Value.int .i64 0) rfl) ?_
 refine FL.nil (FW.seq (FW.seq (FW.region ?_)))
 refine FL.v (E.assign (v := Value.int .i64 0) rfl) ?_
 refine FL.nil ?_
 obtain ⟨q22, hq, hp⟩ := bndR hp
 refine FW.block ?_
 refine FW.mono (FW.forL (S := Int) (X := Int) (fun (i22 : Nat) (s22 : Int) f w => ∃ H : GH, St Ha wa H w [] ∧ Inc Ha H ∧ f 5 = Value.int .i64 ((i22 : Nat) : Int) ∧ f 0 = v0 ∧ f 1 = Value.int .i64 s22) (fun q e f w => match q with | .go s22 => e = Exit.exit 0 ∧ (∃ H : GH, St Ha wa H w [] ∧ Inc Ha H ∧ f 1 = Value.int .i64 s22) | .rt x => ((e = Exit.ret) ∧ (fun e f w => (e = Exit.normal ∨ e = Exit.ret) ∧ ∀ a, Fr (δ := []) 21 a f → ∃ v, (results Tryz.f63 a.tmps).run Tryz.prog w = .ok v w ∧ (Sc Ha wa (Value.int .i64 x)) (.returned v) w) e f w)) hq ⟨_, S0, (Inc.rfl _), rfl, rfl, rfl⟩ ?_ ?_) ?_
 ·
  clear hp hq
  rintro i22 y21 s22 f42 w41 ⟨H38, S39, i40, k43, k44, k45⟩ hx22 o53 hp
  refine FW.seq (FW.seq (FW.region ?_))
  refine FL.v (E.move k43) ?_
  refine FL.v (E.move k44) ?_
  refine FL.v (E.lenP te76 rfl p0) ?_
  refine FL.v (E.lssT rfl rfl (lss_len hx22)) ?_
  refine FL.nil ?_
  refine FW.condT rfl rfl ?_
  refine FW.skip (FW.seq (FW.block (FW.seq (FW.seq (FW.region ?_)))))
  refine FL.v (E.move k44) ?_
  refine FL.v (E.move k43) ?_
  obtain ⟨p46, cs47, pt48, l49, at50, rel51⟩ := p0.at (ix_nat hx22)
  obtain rfl := eI_open rel51
  refine FL.v (E.indexAddr te76 rfl rfl pt48) ?_
  refine FL.v (E.load rfl (run_load0 Tryz.isAgg3 ((at50.mono i40).now S39.sl) rfl)) ?_
  refine FL.v (E.move k45) ?_
  refine FL.v (E.neq rfl rfl) ?_
  refine FL.nil ?_
  rcases ifB hp with ⟨c52, hp⟩ | ⟨c52, hp⟩
  ·
   refine FW.condT rfl c52 ?_
   refine FW.seq (FW.region ?_)
   refine FL.v (E.assign (v := Value.int .i64 (-1)) rfl) ?_
   refine FL.nil ?_
   refine FW.ret ?_
   obtain rfl := Option.some.inj hp
   exact ⟨nofun, rfl, ⟨.inr rfl, res1 rfl rfl ⟨rfl, S39.back⟩⟩⟩
  ·
   refine FW.condF rfl c52 ?_
   refine FW.skip (FW.region ?_)
   refine FL.v (E.move k45) ?_
   refine FL.v (E.add rfl rfl) ?_
   refine FL.v (E.assign (v := Value.int .i64 (wr (s22 + 1))) rfl) ?_
   refine FL.nil (FW.region ?_)
   refine FL.v (E.move k43) ?_
   refine FL.v (E.add rfl rfl) ?_
   refine FL.v (E.assign (v := Value.int .i64 (wr (((i22 : Nat) : Int) + 1))) rfl) ?_
   refine FL.nil ?_
   obtain rfl := Option.some.inj hp
   exact ⟨rfl, ⟨_, S39, i40, (nat_succ rfl (lt_of_get hx22) (p0.mono i40).le), k44, rfl⟩⟩
 ·
  clear hp hq
  rintro s22 f64 w63 ⟨H60, S61, i62, k65, k66, k67⟩
  refine FW.seq (FW.seq (FW.region ?_))
  refine FL.v (E.move k65) ?_
  refine FL.v (E.move k66) ?_
  refine FL.v (E.lenP te76 rfl p0) ?_
  refine FL.v (E.lss rfl rfl) ?_
  refine FL.nil ?_
  refine FW.condF rfl dlt_len ?_
  refine FW.exit ?_
  exact ⟨nofun, rfl, ⟨_, S61, i62, k67⟩⟩
 ·
  clear hq
  intro e f58 w57 hD
  rcases q22 with s22 | x22
  ·
   obtain ⟨rfl, hD⟩ := hD
   obtain ⟨H54, S55, i56, k59⟩ := hD
   replace hp := el_go hp
   refine FW.seq (FW.region ?_)
   refine FL.v (E.move k59) ?_
   refine FL.v (E.assign (v := Value.int .i64 s22) rfl) ?_
   refine FL.nil ?_
   refine FW.ret ?_
   obtain rfl := Option.some.inj hp
   exact ⟨.inr rfl, res1 rfl rfl ⟨rfl, S55.back⟩⟩
  ·
   obtain ⟨he, hL⟩ := hD
   replace hp := el_rt hp
   obtain rfl := Option.some.inj hp
   subst he
   exact hL

theorem w_laws_heldIntSS {Ha : GH} {wa : World} (hs : Sl Ha wa) (v0 : Value) (a0 : List (List Int)) (p0 : RSl Ha (eL eI 1) 1 v0 a0) (a1 : Int) {r : Int} (hp : (PF.laws_heldIntSS a0 a1) = some r) :
  Calls Tryz.prog 25 #[v0, Value.int .i64 a1] wa (Sc Ha wa (Value.int .i64 r)) := by
 unfold PF.laws_heldIntSS at hp
 have S0 := St.init hs
 refine calls_go (N := 21) (args := [v0, Value.int .i64 a1]) Tryz.func25 rfl rfl rfl ?_
 refine FW.seq (FW.region ?_)
 refine FL.v (E.assign (v := Value.int .i64 0) rfl) ?_
 refine FL.nil (FW.seq (FW.seq (FW.region ?_)))
 refine FL.v (E.assign (v := Value.int .i64 0) rfl) ?_
 refine FL.nil ?_
 obtain ⟨q22, hq, hp⟩ := bndR hp
 refine FW.block ?_
 refine FW.mono (FW.forL (S := Int) (X := Int) (fun (i22 : Nat) (s22 : Int) f w => ∃ H : GH, St Ha wa H w [] ∧ Inc Ha H ∧ f 5 = Value.int .i64 ((i22 : Nat) : Int) ∧ f 0 = v0 ∧ f 1 = Value.int .i64 s22) (fun q e f w => match q with | .go s22 => e = Exit.exit 0 ∧ (∃ H : GH, St Ha wa H w [] ∧ Inc Ha H ∧ f 1 = Value.int .i64 s22) | .rt x => ((e = Exit.ret) ∧ (fun e f w => (e = Exit.normal ∨ e = Exit.ret) ∧ ∀ a, Fr (δ := []) 21 a f → ∃ v, (results Tryz.f25 a.tmps).run Tryz.prog w = .ok v w ∧ (Sc Ha wa (Value.int .i64 x)) (.returned v) w) e f w)) hq ⟨_, S0, (Inc.rfl _), rfl, rfl, rfl⟩ ?_ ?_) ?_
 ·
  clear hp hq
  rintro i22 y21 s22 f49 w48 ⟨H45, S46, i47, k50, k51, k52⟩ hx22 o67 hp
  refine FW.seq (FW.seq (FW.region ?_))
  refine FL.v (E.move k50) ?_
  refine FL.v (E.move k51) ?_
  refine FL.v (E.lenP te22 rfl p0) ?_
  refine FL.v (E.lssT rfl rfl (lss_len hx22)) ?_
  refine FL.nil ?_
  refine FW.condT rfl rfl ?_
  refine FW.skip (FW.seq (FW.block (FW.seq (FW.region ?_))))
  refine FL.v (E.move k51) ?_
  refine FL.v (E.move k50) ?_
  obtain ⟨p53, cs54, pt55, l56, at57, rel58⟩ := p0.at (ix_nat hx22)
  obtain ⟨v59, rfl, h60⟩ := eL_open rel58
  refine FL.v (E.indexAddr te22 rfl rfl pt55) ?_
  refine FL.v (E.load rfl (run_load0 Tryz.isAgg76 ((at57.mono i47).now S46.sl) rfl)) ?_
  refine FL.v (E.move k52) ?_
  obtain ⟨r61, hr62, hp⟩ := bnd hp
  refine FL.call rfl rfl rfl (E.call Tryz.call63 (A2 rfl rfl)) (w_laws_heldIntS S46.sl v59 y21 (h60.mono i47) s22 hr62) ?_
  rintro e w63 ⟨rfl, r64⟩
  refine ⟨_, rfl, ?_⟩
  have S65 := S46.call r64
  refine FL.v (E.assign (v := Value.int .i64 r61) rfl) ?_
  refine FL.nil (FW.seq (FW.region ?_))
  refine FL.v (E.move (v := Value.int .i64 r61) rfl) ?_
  refine FL.v (E.lss rfl rfl) ?_
  refine FL.nil ?_
  rcases ifB hp with ⟨c66, hp⟩ | ⟨c66, hp⟩
  ·
   refine FW.condT rfl c66 ?_
   refine FW.seq (FW.region ?_)
   refine FL.v (E.assign (v := Value.int .i64 (-1)) rfl) ?_
   refine FL.nil ?_
   refine FW.ret ?_
   obtain rfl := Option.some.inj hp
   exact ⟨nofun, rfl, ⟨.inr rfl, res1 rfl rfl ⟨rfl, S65.back⟩⟩⟩
  ·
   refine FW.condF rfl c66 ?_
   refine FW.skip (FW.region ?_)
   refine FL.v (E.move k50) ?_
   refine FL.v (E.add rfl rfl) ?_
   refine FL.v (E.assign (v := Value.int .i64 (wr (((i22 : Nat) : Int) + 1))) rfl) ?_
   refine FL.nil ?_
   obtain rfl := Option.some.inj hp
   exact ⟨rfl, ⟨_, S65, i47, (nat_succ rfl (lt_of_get hx22) (p0.mono i47).le), k51, rfl⟩⟩
 ·
  clear hp hq
  rintro s22 f78 w77 ⟨H74, S75, i76, k79, k80, k81⟩
  refine FW.seq (FW.seq (FW.region ?_))
  refine FL.v (E.move k79) ?_
  refine FL.v (E.move k80) ?_
  refine FL.v (E.lenP te22 rfl p0) ?_
  refine FL.v (E.lss rfl rfl) ?_
  refine FL.nil ?_
  refine FW.condF rfl dlt_len ?_
  refine FW.exit ?_
  exact ⟨nofun, rfl, ⟨_, S75, i76, k81⟩⟩
 ·
  clear hq
  intro e f72 w71 hD
  rcases q22 with s22 | x22
  ·
   obtain ⟨rfl, hD⟩ := hD
   obtain ⟨H68, S69, i70, k73⟩ := hD
   replace hp := el_go hp
   refine FW.seq (FW.region ?_)
   refine FL.v (E.move k73) ?_
   refine FL.v (E.assign (v := Value.int .i64 s22) rfl) ?_
   refine FL.nil ?_
   refine FW.ret ?_
   obtain rfl := Option.some.inj hp
   exact ⟨.inr rfl, res1 rfl rfl ⟨rfl, S69.back⟩⟩
  ·
   obtain ⟨he, hL⟩ := hD
   replace hp := el_rt hp
   obtain rfl := Option.some.inj hp
   subst he
   exact hL

set_option maxHeartbeats 4000000 in
theorem w_laws_FnExactAfterSpaceSteps {Ha : GH} {wa : World} (hs : Sl Ha wa) (a0 : Cnf) (v0_1 : Value) (p0_1 : RSl Ha (eL eI 1) 1 v0_1 a0.clauses) (v1 : Value) (a1 : List SpaceStep) (p1 : RSl Ha eSpaceStep 4 v1 a1) {r : Bool} (hp : (PF.laws_FnExactAfterSpaceSteps a0 a1) = some r) :
  Calls Tryz.prog 3 #[Value.agg #[Value.int .i64 a0.vars, v0_1], v1] wa (Sc Ha wa (Value.bool r)) := by
 unfold PF.laws_FnExactAfterSpaceSteps at hp
 have S0 := St.init hs
 refine calls_go (N := 119) (args := [Value.agg #[Value.int .i64 a0.vars, v0_1], v1]) Tryz.func3 rfl rfl rfl ?_
 refine FW.seq (FW.region ?_)
 obtain ⟨w21, run22, S23, z24⟩ := S0.boxB (P := Tryz.prog) 24 [Value.int .i64 a0.vars, v0_1] (v := Value.agg #[Value.int .i64 a0.vars, v0_1]) rfl (ones_cons rfl (ones_cons p0_1.one ones_nil))
 refine FL.v (E.box rfl run22) ?_
 obtain ⟨H25, S26, i27, at28⟩ := S23.sealBoxB (i := 0) (l' := []) rfl rfl
 refine FL.v (E.assign (v := Value.bool false) rfl) ?_
 refine FL.nil (FW.seq (FW.region ?_))
 refine FL.v (E.assign (v := Value.int .i64 1048576) rfl) ?_
 refine FL.nil (FW.seq (FW.region ?_))
 refine FL.v (E.load rfl (run_loadA Tryz.isAgg24 Tryz.sizeOf24 ((at28.mono sgI).now S26.sl) rfl)) ?_
 refine FL.v (E.move (v := Value.int .i64 1048576) rfl) ?_
 obtain ⟨r29, hr30, hp⟩ := bnd hp
 refine FL.call rfl rfl rfl (E.call Tryz.call13 (A2 rfl rfl)) (w_laws_szCnf S26.sl a0 v0_1 (p0_1.mono i27) 1048576 hr30) ?_
 rintro e w31 ⟨rfl, r32⟩
 refine ⟨_, rfl, ?_⟩
 have S33 := S26.call r32
 have z34 := r32.bel.size
 refine FL.v (E.assign (v := Value.int .i64 r29) rfl) ?_
 refine FL.nil (FW.seq (FW.seq (FW.region ?_)))
 refine FL.v (E.move (v := Value.int .i64 r29) rfl) ?_
 refine FL.v (E.lss rfl rfl) ?_
 refine FL.nil ?_
 rcases ifB hp with ⟨c35, hp⟩ | ⟨c35, hp⟩
 ·
  refine FW.condT rfl c35 ?_
  refine FW.seq (FW.region ?_)
  refine FL.v (E.assign (v := Value.bool true) rfl) ?_
  refine FL.nil ?_
  refine FW.ret ?_
  obtain rfl := Option.some.inj hp
  exact ⟨.inr rfl, res1 rfl rfl ⟨rfl, S33.back⟩⟩
 ·
  refine FW.condF rfl c35 ?_
  refine FW.skip (FW.seq (FW.region ?_))
  refine FL.v (E.move (v := v1) rfl) ?_
  refine FL.v (E.move (v := Value.int .i64 r29) rfl) ?_
  refine FL.call rfl rfl rfl (E.call Tryz.call14 (A2 rfl rfl)) (w_laws_szSpaceStepS S33.sl v1 a1 (p1.mono i27) r29) ?_
  rintro e w36 ⟨rfl, r37⟩
  refine ⟨_, rfl, ?_⟩
  have S38 := S33.call r37
  have z39 := r37.bel.size
  refine FL.v (E.assign (v := Value.int .i64 (PF.laws_szSpaceStepS a1 r29)) rfl) ?_
  refine FL.nil (FW.seq (FW.seq (FW.region ?_)))
  refine FL.v (E.move (v := Value.int .i64 (PF.laws_szSpaceStepS a1 r29)) rfl) ?_
  refine FL.v (E.lss rfl rfl) ?_
  refine FL.nil ?_
  rcases ifB hp with ⟨c40, hp⟩ | ⟨c40, hp⟩
  ·
   refine FW.condT rfl c40 ?_
   refine FW.seq (FW.region ?_)
   refine FL.v (E.assign (v := Value.bool true) rfl) ?_
   refine FL.nil ?_
   refine FW.ret ?_
   obtain rfl := Option.some.inj hp
   exact ⟨.inr rfl, res1 rfl rfl ⟨rfl, S38.back⟩⟩
  ·
   refine FW.condF rfl c40 ?_
   refine FW.skip (FW.seq (FW.region ?_))
   refine FL.v (E.load rfl (run_loadA Tryz.isAgg24 Tryz.sizeOf24 ((at28.mono sgI).now S38.sl) rfl)) ?_
   obtain ⟨r41, hr42, hp⟩ := bnd hp
   refine FL.call rfl rfl rfl (E.call Tryz.call16 (A1 rfl)) (w_laws_toCnf S38.sl a0 v0_1 (p0_1.mono i27) hr42) ?_
   rintro e w44 ⟨H43, v47, rfl, r46, ⟨c50, ns49⟩⟩
   refine ⟨_, rfl, ?_⟩
   have h48 := ns49.rsl
   have nv51 : New H25 [v47] := New.of_up S38.sl h48.dom
   have S45 := S38.call r46
   have z52 := r46.bel.size
   have h48 := h48.mono (sg_of S45.sl)
   have ns49 := ns49.mono (sg_of S45.sl)
   refine FL.v (E.move (v := v1) rfl) ?_
   obtain ⟨r53, hr54, hp⟩ := bnd hp
   refine FL.call rfl rfl rfl (E.call Tryz.call17 (A1 rfl)) (w_laws_toSpaceStepS S45.sl v1 a1 (p1.mono (i27.tr r46.inc)) hr54) ?_
   rintro e w56 ⟨H55, v59, n60, cs61, rfl, r58, els62⟩
   refine ⟨_, rfl, ?_⟩
   obtain ⟨H63, r64, i65, h66, nv67⟩ := r58.sealRowU (i := 0) (l' := []) rfl els62 (by decide) rfl
   have S57 := S45.call r64.run
   have z68 := r64.run.bel.size
   have h66 := h66.mono (sg_of S57.sl)
   obtain ⟨r69, hr70, hp⟩ := bnd hp
   refine FL.call rfl rfl rfl (E.call Tryz.call15 (A2 rfl rfl)) (w_spec_AfterSpaceSteps S57.sl r41 v47 (h48.mono (sgI.tr r64.run.inc)) v59 r53 (h66.mono sgI) hr70) ?_
   rintro e w72 ⟨H71, v75, n76, cs77, rfl, r74, els78, nd79⟩
   refine ⟨_, rfl, ?_⟩
   have nv80 : New H63 cs77 := New.of_up S57.sl els78.dom
   obtain ⟨H81, r82, i83, ns86, nv85⟩ := r74.sealRowN (i := 0) (l' := []) rfl els78 nd79 (by decide) rfl
   have h84 := ns86.rsl
   have S73 := S57.call r82.run
   have z87 := r82.run.bel.size
   have h84 := h84.mono (sg_of S73.sl)
   have ns86 := ns86.mono (sg_of S73.sl)
   refine FL.v (E.move (v := Value.tuple #[v75, Value.bool r69.2]) rfl) ?_
   refine FL.v (E.extract (i := 0) rfl rfl) ?_
   refine FL.v (E.extract (i := 1) rfl rfl) ?_
   refine FL.v (E.assign (v := v75) rfl) ?_
   refine FL.v (E.assign (v := Value.bool r69.2) rfl) ?_
   refine FL.nil (FW.seq (FW.region ?_))
   refine FL.v (E.load rfl (run_loadA Tryz.isAgg24 Tryz.sizeOf24 ((at28.mono (sgI.tr ((r46.inc.tr r64.run.inc).tr r82.run.inc))).now S73.sl) rfl)) ?_
   obtain ⟨r88, hr89, hp⟩ := bnd hp
   refine FL.call rfl rfl rfl (E.call Tryz.call16 (A1 rfl)) (w_laws_toCnf S73.sl a0 v0_1 (p0_1.mono (((i27.tr r46.inc).tr r64.run.inc).tr r82.run.inc)) hr89) ?_
   rintro e w91 ⟨H90, v94, rfl, r93, ⟨c97, ns96⟩⟩
   refine ⟨_, rfl, ?_⟩
   have h95 := ns96.rsl
   have nv98 : New H81 [v94] := New.of_up S73.sl h95.dom
   have S92 := S73.call r93
   have z99 := r93.bel.size
   have h95 := h95.mono (sg_of S92.sl)
   have ns96 := ns96.mono (sg_of S92.sl)
   obtain ⟨w100, run101, S102, z103⟩ := S92.allocB (P := Tryz.prog) 30 [Value.int .i64 0, Value.slice none 0 0] Tryz.zeroValue30 rfl (ones_cons rfl (ones_cons rfl ones_nil))
   refine FL.v (E.alloc run101) ?_
   obtain ⟨w104, run105, S106, z107⟩ := S102.store0B (P := Tryz.prog) (t := 30) (i := 0) (cs' := [Value.int .i64 r88.vars, v94]) (l' := [.box w91.heap.size 30 [Value.int .i64 r88.vars, v94]]) (v := Value.agg #[Value.int .i64 r88.vars, v94]) (c := [Value.int .i64 r88.vars, v94]) rfl Tryz.sizeOf30 rfl rfl (ones_cons rfl (ones_cons h95.one ones_nil)) (Nat.le_of_ble_eq_true rfl) rfl rfl
   refine FL.act rfl rfl (E.store rfl rfl run105) ?_
   obtain ⟨H108, S109, i110, at111⟩ := S106.sealBoxB (i := 0) (l' := []) rfl rfl
   refine FL.nil (FW.seq (FW.region ?_))
   refine FL.v (E.move (v := v1) rfl) ?_
   obtain ⟨r112, hr113, hp⟩ := bnd hp
   refine FL.call rfl rfl rfl (E.call Tryz.call17 (A1 rfl)) (w_laws_toSpaceStepS S109.sl v1 a1 (p1.mono (((((i27.tr r46.inc).tr r64.run.inc).tr r82.run.inc).tr r93.inc).tr i110)) hr113) ?_
   rintro e w115 ⟨H114, v118, n119, cs120, rfl, r117, els121⟩
   refine ⟨_, rfl, ?_⟩
   obtain ⟨H122, r123, i124, h125, nv126⟩ := r117.sealRowU (i := 0) (l' := []) rfl els121 (by decide) rfl
   have S116 := S109.call r123.run
   have z127 := r123.run.bel.size
   have h125 := h125.mono (sg_of S116.sl)
   refine FL.v (E.assign (v := v118) rfl) ?_
   refine FL.nil (FW.seq (FW.region ?_))
   refine FL.v (E.load rfl (run_loadA Tryz.isAgg30 Tryz.sizeOf30 ((at111.mono (sgI.tr r123.run.inc)).now S116.sl) rfl)) ?_
   refine FL.v (E.move (v := v118) rfl) ?_
   obtain ⟨r128, hr129, hp⟩ := bnd hp
   refine FL.call rfl rfl rfl (E.call Tryz.call18 (A2 rfl rfl)) (w_impl_AfterSpaceSteps S116.sl r88 v94 (h95.mono (sgI.tr (i110.tr r123.run.inc))) v118 r112 (h125.mono sgI) hr129) ?_
   rintro e w131 ⟨H130, v134, n135, cs136, rfl, r133, els137, nd138⟩
   refine ⟨_, rfl, ?_⟩
   have nv139 : New H122 cs136 := New.of_up S116.sl els137.dom
   obtain ⟨H140, r141, i142, ns145, nv144⟩ := r133.sealRowN (i := 0) (l' := []) rfl els137 nd138 (by decide) rfl
   have h143 := ns145.rsl
   have S132 := S116.call r141.run
   have z146 := r141.run.bel.size
   have h143 := h143.mono (sg_of S132.sl)
   have ns145 := ns145.mono (sg_of S132.sl)
   refine FL.v (E.move (v := Value.tuple #[v134, Value.bool r128.2]) rfl) ?_
   refine FL.v (E.extract (i := 0) rfl rfl) ?_
   refine FL.v (E.extract (i := 1) rfl rfl) ?_
   refine FL.v (E.assign (v := v134) rfl) ?_
   refine FL.v (E.assign (v := Value.bool r128.2) rfl) ?_
   refine FL.nil (FW.seq (FW.seq (FW.region ?_)))
   refine FL.v (E.move (v := v134) rfl) ?_
   refine FL.v (E.move (v := v75) rfl) ?_
   obtain ⟨r147, hr148, hp⟩ := bnd hp
   refine FL.call rfl rfl rfl (E.call Tryz.call19 (A2 rfl rfl)) (w_laws_eqIntSS S132.sl v134 r128.1 (h143.mono sgI) v75 r69.1 (h84.mono (sgI.tr (((r93.inc.tr i110).tr r123.run.inc).tr r141.run.inc))) hr148) ?_
   rintro e w149 ⟨rfl, r150⟩
   refine ⟨_, rfl, ?_⟩
   have S151 := S132.call r150
   have z152 := r150.bel.size
   refine FL.v (E.not rfl) ?_
   refine FL.v (E.move (v := Value.bool (!r147)) rfl) ?_
   refine FL.cut 4 (fun f w => ∃ H : GH, St Ha wa H w [] ∧ Inc H140 H ∧ f 1 = v1 ∧ f 2 = Value.pointer (some ⟨wa.heap.size, 0, none⟩) ∧ f 6 = v75 ∧ f 7 = Value.bool r69.2 ∧ f 8 = Value.pointer (some ⟨w91.heap.size, 0, none⟩) ∧ f 9 = v118 ∧ f 10 = v134 ∧ f 11 = Value.bool r128.2 ∧ f 53 = Value.bool (bif (!r147) then true else (!(r128.2 == r69.2)))) ?_ ?_
   ·
    rcases bcase (!r147) with c159 | c159
    ·
     refine FL.skip (wF_no rfl rfl rfl c159) rfl ?_
     refine FL.skip (wF_no rfl rfl rfl c159) rfl ?_
     refine FL.skip (wF_no rfl rfl rfl c159) rfl ?_
     refine FL.v (E.pickT rfl c159 rfl) ?_
     exact FL.nil ⟨rfl, _, S151, (Inc.rfl _), rfl, rfl, rfl, rfl, rfl, rfl, rfl, rfl, (congrArg Value.bool (bifT c159).symm)⟩
    ·
     refine FL.val (wF_yes rfl rfl rfl c159) rfl rfl (E.move (v := Value.bool r128.2) rfl) ?_
     refine FL.val (wF_yes rfl rfl rfl c159) rfl rfl (E.move (v := Value.bool r69.2) rfl) ?_
     refine FL.val (wF_yes rfl rfl rfl c159) rfl rfl (E.neqB Tryz.runUnderlying4 rfl rfl) ?_
     refine FL.v (E.pickF rfl c159 rfl) ?_
     exact FL.nil ⟨rfl, _, S151, (Inc.rfl _), rfl, rfl, rfl, rfl, rfl, rfl, rfl, rfl, (congrArg Value.bool (bifF c159).symm)⟩
   rintro f158 w157 ⟨H154, S155, i156, k160, k161, k162, k163, k164, k165, k166, k167, k168⟩
   refine FL.nil ?_
   rcases ifB hp with ⟨c169, hp⟩ | ⟨c169, hp⟩
   ·
    refine FW.condT k168 c169 ?_
    refine FW.seq (FW.region ?_)
    refine FL.v (E.assign (v := Value.bool false) rfl) ?_
    refine FL.nil ?_
    refine FW.ret ?_
    obtain rfl := Option.some.inj hp
    exact ⟨.inr rfl, res1 rfl rfl ⟨rfl, S155.back⟩⟩
   ·
    refine FW.condF k168 c169 ?_
    refine FW.skip (FW.seq (FW.seq ?_))
    obtain ⟨r153, hr173, hp⟩ := bnd hp
    obtain ⟨r184, hr185, hp⟩ := bnd hp
    refine FW.drawB (Sl H154) (fun f w => ∃ H : GH, St Ha wa H w [] ∧ Inc H154 H ∧ f 1 = v1 ∧ f 2 = Value.pointer (some ⟨wa.heap.size, 0, none⟩) ∧ f 6 = v75 ∧ f 7 = Value.bool r69.2 ∧ f 8 = Value.pointer (some ⟨w91.heap.size, 0, none⟩) ∧ f 9 = v118 ∧ f 10 = v134 ∧ f 11 = Value.bool r128.2 ∧ f 58 = Value.bool (!r184)) (by kernel_rfl) S155.sl ?_ ?_
    ·
     intro w170 r171
     have S172 := S155.call r171
     refine FB.t (i := 0) (bs 5 1) rfl (SP.nil S172.sl) rfl (fun w' hw' => (E.load k164 (run_loadA Tryz.isAgg30 Tryz.sizeOf30 ((at111.mono (sgI.tr ((r123.run.inc.tr r141.run.inc).tr i156))).now hw') rfl))) ?_
     refine FB.t (i := 1) (bs 5 3) rfl (SP.nil S172.sl) rfl (fun w' hw' => (E.load k161 (run_loadA Tryz.isAgg24 Tryz.sizeOf24 ((at28.mono (sgI.tr (((((((r46.inc.tr r64.run.inc).tr r82.run.inc).tr r93.inc).tr i110).tr r123.run.inc).tr r141.run.inc).tr i156))).now hw') rfl))) ?_
     refine FB.all1 (i := 2) (by kernel_rfl) ?_
     ·
      refine FC.call (l' := (bs 5 7)) rfl (by kernel_rfl) rfl rfl rfl (E.call Tryz.call16 (A1 rfl)) (w_laws_toCnf S172.sl a0 v0_1 (p0_1.mono ((((((((i27.tr r46.inc).tr r64.run.inc).tr r82.run.inc).tr r93.inc).tr i110).tr r123.run.inc).tr r141.run.inc).tr i156)) hr173) ?_
      rintro e w175 ⟨H174, v178, rfl, r177, ⟨c181, ns180⟩⟩
      refine ⟨_, rfl, ?_⟩
      have h179 := ns180.rsl
      have nv182 : New H154 [v178] := New.of_up S172.sl h179.dom
      have S176 := S172.call r177
      have z183 := r177.bel.size
      have h179 := h179.mono (sg_of S176.sl)
      have ns180 := ns180.mono (sg_of S176.sl)
      refine ⟨(SP.nil (Sl.of_inc r177.inc S176.sl)), ?_⟩
      refine FB.all1 (i := 3) (by kernel_rfl) ?_
      ·
       refine FC.call (l' := (bs 5 15)) rfl (by kernel_rfl) rfl rfl rfl (E.call Tryz.call20 (A2 rfl rfl)) (w_laws_eqCnf S176.sl r88 v94 (h95.mono (sgI.tr ((((i110.tr r123.run.inc).tr r141.run.inc).tr i156).tr r177.inc))) r153 v178 (h179.mono sgI) hr185) ?_
       rintro e w186 ⟨rfl, r187⟩
       refine ⟨_, rfl, ?_⟩
       have S188 := S176.call r187
       have z189 := r187.bel.size
       refine ⟨(SP.nil (Sl.of_inc r177.inc S188.sl)), ?_⟩
       refine FB.t (i := 4) (bs 5 31) rfl (SP.nil (Sl.of_inc r177.inc S188.sl)) rfl (fun w' hw' => (E.not rfl)) ?_
       exact FB.done (by kernel_rfl) ⟨_, S188, r177.inc, k160, k161, k162, k163, k164, k165, k166, k167, rfl⟩
    ·
     rintro f194 w193 ⟨H190, S191, i192, k195, k196, k197, k198, k199, k200, k201, k202, k203⟩
     rcases ifB hp with ⟨c204, hp⟩ | ⟨c204, hp⟩
     ·
      refine FW.condT k203 c204 ?_
      refine FW.seq (FW.region ?_)
      refine FL.v (E.assign (v := Value.bool false) rfl) ?_
      refine FL.nil ?_
      refine FW.ret ?_
      obtain rfl := Option.some.inj hp
      exact ⟨.inr rfl, res1 rfl rfl ⟨rfl, S191.back⟩⟩
     ·
      refine FW.condF k203 c204 ?_
      refine FW.skip (FW.seq (FW.seq (FW.region ?_)))
      refine FL.v (E.move k200) ?_
      refine FL.v (E.move k195) ?_
      obtain ⟨r205, hr206, hp⟩ := bnd hp
      refine FL.call rfl rfl rfl (E.call Tryz.call17 (A1 rfl)) (w_laws_toSpaceStepS S191.sl v1 a1 (p1.mono (((((((((i27.tr r46.inc).tr r64.run.inc).tr r82.run.inc).tr r93.inc).tr i110).tr r123.run.inc).tr r141.run.inc).tr i156).tr i192)) hr206) ?_
      rintro e w208 ⟨H207, v211, n212, cs213, rfl, r210, els214⟩
      refine ⟨_, rfl, ?_⟩
      obtain ⟨H215, r216, i217, h218, nv219⟩ := r210.sealRowU (i := 0) (l' := []) rfl els214 (by decide) rfl
      have S209 := S191.call r216.run
      have z220 := r216.run.bel.size
      have h218 := h218.mono (sg_of S209.sl)
      obtain ⟨r221, hr222, hp⟩ := bnd hp
      refine FL.call rfl rfl rfl (E.call Tryz.call21 (A2 rfl rfl)) (w_laws_eqSpaceStepS S209.sl v118 r112 (h125.mono (sgI.tr (((r141.run.inc.tr i156).tr i192).tr r216.run.inc))) v211 r205 (h218.mono sgI) hr222) ?_
      rintro e w223 ⟨rfl, r224⟩
      refine ⟨_, rfl, ?_⟩
      have S225 := S209.call r224
      have z226 := r224.bel.size
      refine FL.v (E.not rfl) ?_
      refine FL.nil ?_
      rcases ifB hp with ⟨c227, hp⟩ | ⟨c227, hp⟩
      ·
       refine FW.condT rfl c227 ?_
       refine FW.seq (FW.region ?_)
       refine FL.v (E.assign (v := Value.bool false) rfl) ?_
       refine FL.nil ?_
       refine FW.ret ?_
       obtain rfl := Option.some.inj hp
       exact ⟨.inr rfl, res1 rfl rfl ⟨rfl, S225.back⟩⟩
      ·
       refine FW.condF rfl c227 ?_
       refine FW.skip (FW.seq (FW.region ?_))
       refine FL.v (E.assign (v := Value.int .i64 1) rfl) ?_
       refine FL.nil (FW.seq (FW.region ?_))
       refine FL.v (E.load k199 (run_loadA Tryz.isAgg30 Tryz.sizeOf30 ((at111.mono (sgI.tr ((((r123.run.inc.tr r141.run.inc).tr i156).tr i192).tr r216.run.inc))).now S225.sl) rfl)) ?_
       refine FL.v (E.move (v := Value.int .i64 1) rfl) ?_
       refine FL.call rfl rfl rfl (E.call Tryz.call22 (A2 rfl rfl)) (w_laws_markCnf S225 hs r88 v94 c97 (ns96.mono (sg_up (by omega) (((((i110.tr r123.run.inc).tr r141.run.inc).tr i156).tr i192).tr r216.run.inc))) 1) ?_
       rintro e w229 ⟨H228, c234, rfl, S230, ns236, hb235, o232⟩
       refine ⟨_, rfl, ?_⟩
       have o233 := (ns96.mono (sg_mono (hi := w91.heap.size) (((((i110.tr r123.run.inc).tr r141.run.inc).tr i156).tr i192).tr r216.run.inc))).outside o232
       have ns236 := ns96.span (eL_loc eI_flat) (by omega) ns236 hb235
       have h231 := ns236.rsl
       have f237 := at28.mono ((sg_mono (lo := wa.heap.size) (hi := wa.heap.size + 1) (((((((((r46.inc.tr r64.run.inc).tr r82.run.inc).tr r93.inc).tr i110).tr r123.run.inc).tr r141.run.inc).tr i156).tr i192).tr r216.run.inc)).tr (sg_keep o233 (by omega)))
       have f238 := h84.mono ((sg_mono (lo := w56.heap.size) (hi := w72.heap.size) ((((((r93.inc.tr i110).tr r123.run.inc).tr r141.run.inc).tr i156).tr i192).tr r216.run.inc)).tr (sg_keep o233 (by omega)))
       have f239 := ns86.mono ((sg_mono (lo := w56.heap.size) (hi := w72.heap.size) ((((((r93.inc.tr i110).tr r123.run.inc).tr r141.run.inc).tr i156).tr i192).tr r216.run.inc)).tr (sg_keep o233 (by omega)))
       have f240 := at111.mono ((sg_mono (lo := w91.heap.size) (hi := w91.heap.size + 1) ((((r123.run.inc.tr r141.run.inc).tr i156).tr i192).tr r216.run.inc)).tr (sg_keep o233 (by omega)))
       have f241 := h125.mono ((sg_mono (lo := w104.heap.size) (hi := w115.heap.size) (((r141.run.inc.tr i156).tr i192).tr r216.run.inc)).tr (sg_keep o233 (by omega)))
       have f242 := h143.mono ((sg_mono (lo := w115.heap.size) (hi := w131.heap.size) ((i156.tr i192).tr r216.run.inc)).tr (sg_keep o233 (by omega)))
       have f243 := ns145.mono ((sg_mono (lo := w115.heap.size) (hi := w131.heap.size) ((i156.tr i192).tr r216.run.inc)).tr (sg_keep o233 (by omega)))
       refine FL.v (E.assign (v := Value.int .i64 ((PF.laws_markCnf r88 1).2)) rfl) ?_
       refine FL.nil (FW.seq (FW.region ?_))
       refine FL.v (E.move k200) ?_
       refine FL.v (E.move (v := Value.int .i64 ((PF.laws_markCnf r88 1).2)) rfl) ?_
       refine FL.call rfl rfl rfl (E.call Tryz.call23 (A2 rfl rfl)) (w_laws_markSpaceStepS S230 hs v118 r112 (f241.mono (sg_up (by omega) (Inc.rfl _))) ((PF.laws_markCnf r88 1).2)) ?_
       rintro e w245 ⟨H244, rfl, S246, h247, o248⟩
       refine ⟨_, rfl, ?_⟩
       have o249 := (f241.mono (sg_mono (hi := w115.heap.size) (Inc.rfl _))).outside o248
       have h247 := f241.span eSpaceStep_flat (by omega) h247
       have f250 := f237.mono ((sg_mono (lo := wa.heap.size) (hi := wa.heap.size + 1) (Inc.rfl _)).tr (sg_keep o249 (by omega)))
       have f251 := f238.mono ((sg_mono (lo := w56.heap.size) (hi := w72.heap.size) (Inc.rfl _)).tr (sg_keep o249 (by omega)))
       have f252 := f239.mono ((sg_mono (lo := w56.heap.size) (hi := w72.heap.size) (Inc.rfl _)).tr (sg_keep o249 (by omega)))
       have f253 := f240.mono ((sg_mono (lo := w91.heap.size) (hi := w91.heap.size + 1) (Inc.rfl _)).tr (sg_keep o249 (by omega)))
       have f254 := h231.mono ((sg_mono (lo := w72.heap.size) (hi := w91.heap.size) (Inc.rfl _)).tr (sg_keep o249 (by omega)))
       have f255 := ns236.mono ((sg_mono (lo := w72.heap.size) (hi := w91.heap.size) (Inc.rfl _)).tr (sg_keep o249 (by omega)))
       have f256 := f242.mono ((sg_mono (lo := w115.heap.size) (hi := w131.heap.size) (Inc.rfl _)).tr (sg_keep o249 (by omega)))
       have f257 := f243.mono ((sg_mono (lo := w115.heap.size) (hi := w131.heap.size) (Inc.rfl _)).tr (sg_keep o249 (by omega)))
       refine FL.v (E.assign (v := Value.int .i64 ((PF.laws_markSpaceStepS r112 ((PF.laws_markCnf r88 1).2)).2)) rfl) ?_
       refine FL.nil (FW.seq (FW.seq (FW.region ?_)))
       refine FL.v (E.move (v := Value.int .i64 ((PF.laws_markSpaceStepS r112 ((PF.laws_markCnf r88 1).2)).2)) rfl) ?_
       refine FL.v (E.lss rfl rfl) ?_
       refine FL.v (E.move (v := Value.bool (decide ((PF.laws_markSpaceStepS r112 ((PF.laws_markCnf r88 1).2)).2 < 0))) rfl) ?_
       obtain ⟨t258, hqt258, hp⟩ := bnd hp
       refine FL.cut 5 (fun f w => ∃ H : GH, St Ha wa H w [] ∧ Inc H244 H ∧ f 1 = v1 ∧ f 2 = Value.pointer (some ⟨wa.heap.size, 0, none⟩) ∧ f 6 = v75 ∧ f 7 = Value.bool r69.2 ∧ f 10 = v134 ∧ f 11 = Value.bool r128.2 ∧ f 77 = Value.bool t258) ?_ ?_
       ·
        clear hp; have hp := hqt258; clear hqt258
        rcases ifB hp with ⟨c264, hp⟩ | ⟨c264, hp⟩
        ·
         refine FL.skip (wF_no rfl rfl rfl c264) rfl ?_
         refine FL.skip (wF_no rfl rfl rfl c264) rfl ?_
         refine FL.skip (wF_no rfl rfl rfl c264) rfl ?_
         refine FL.skip (wF_no rfl rfl rfl c264) rfl ?_
         obtain rfl := Option.some.inj hp
         refine FL.v (E.pickT rfl c264 rfl) ?_
         exact FL.nil ⟨rfl, _, S246, (Inc.rfl _), k195, k196, k197, k198, k201, k202, rfl⟩
        ·
         refine FL.val (wF_yes rfl rfl rfl c264) rfl rfl (E.move k201) ?_
         refine FL.val (wF_yes rfl rfl rfl c264) rfl rfl (E.move k197) ?_
         obtain ⟨r265, hr266, hp⟩ := bnd hp
         refine FL.call (wF_yes rfl rfl rfl c264) rfl rfl (E.call Tryz.call19 (A2 rfl rfl)) (w_laws_eqIntSS S246.sl v134 r128.1 (f256.mono sgI) v75 r69.1 (f251.mono sgI) hr266) ?_
         rintro e w267 ⟨rfl, r268⟩
         refine ⟨_, rfl, ?_⟩
         have S269 := S246.call r268
         have z270 := r268.bel.size
         refine FL.val (wF_yes rfl rfl rfl c264) rfl rfl (E.not rfl) ?_
         obtain rfl := Option.some.inj hp
         refine FL.v (E.pickF rfl c264 rfl) ?_
         exact FL.nil ⟨rfl, _, S269, (Inc.rfl _), k195, k196, k197, k198, k201, k202, rfl⟩
       rintro f263 w262 ⟨H259, S260, i261, k271, k272, k273, k274, k275, k276, k277⟩
       refine FL.v (E.move k277) ?_
       refine FL.cut 4 (fun f w => ∃ H : GH, St Ha wa H w [] ∧ Inc H259 H ∧ f 1 = v1 ∧ f 2 = Value.pointer (some ⟨wa.heap.size, 0, none⟩) ∧ f 6 = v75 ∧ f 7 = Value.bool r69.2 ∧ f 10 = v134 ∧ f 82 = Value.bool (bif t258 then true else (!(r128.2 == r69.2)))) ?_ ?_
       ·
        rcases bcase t258 with c283 | c283
        ·
         refine FL.skip (wF_no rfl rfl rfl c283) rfl ?_
         refine FL.skip (wF_no rfl rfl rfl c283) rfl ?_
         refine FL.skip (wF_no rfl rfl rfl c283) rfl ?_
         refine FL.v (E.pickT rfl c283 rfl) ?_
         exact FL.nil ⟨rfl, _, S260, (Inc.rfl _), k271, k272, k273, k274, k275, (congrArg Value.bool (bifT c283).symm)⟩
        ·
         refine FL.val (wF_yes rfl rfl rfl c283) rfl rfl (E.move k276) ?_
         refine FL.val (wF_yes rfl rfl rfl c283) rfl rfl (E.move k274) ?_
         refine FL.val (wF_yes rfl rfl rfl c283) rfl rfl (E.neqB Tryz.runUnderlying4 rfl rfl) ?_
         refine FL.v (E.pickF rfl c283 rfl) ?_
         exact FL.nil ⟨rfl, _, S260, (Inc.rfl _), k271, k272, k273, k274, k275, (congrArg Value.bool (bifF c283).symm)⟩
       rintro f282 w281 ⟨H278, S279, i280, k284, k285, k286, k287, k288, k289⟩
       refine FL.nil ?_
       rcases ifB hp with ⟨c290, hp⟩ | ⟨c290, hp⟩
       ·
        refine FW.condT k289 c290 ?_
        refine FW.seq (FW.region ?_)
        refine FL.v (E.assign (v := Value.bool false) rfl) ?_
        refine FL.nil ?_
        refine FW.ret ?_
        obtain rfl := Option.some.inj hp
        exact ⟨.inr rfl, res1 rfl rfl ⟨rfl, S279.back⟩⟩
       ·
        refine FW.condF k289 c290 ?_
        refine FW.skip (FW.seq (FW.region ?_))
        refine FL.v (E.assign (v := Value.int .i64 1) rfl) ?_
        refine FL.nil (FW.seq (FW.region ?_))
        refine FL.v (E.move k288) ?_
        refine FL.v (E.move (v := Value.int .i64 1) rfl) ?_
        refine FL.call rfl rfl rfl (E.call Tryz.call24 (A2 rfl rfl)) (w_laws_markIntSS S279 hs v134 r128.1 cs136 (f257.mono (sg_up (by omega) (i261.tr i280))) 1) ?_
        rintro e w292 ⟨H291, c297, rfl, S293, ns299, hb298, o295⟩
        refine ⟨_, rfl, ?_⟩
        have o296 := (f257.mono (sg_mono (hi := w131.heap.size) (i261.tr i280))).outside o295
        have ns299 := f257.span (eL_loc eI_flat) (by omega) ns299 hb298
        have h294 := ns299.rsl
        have f300 := f250.mono ((sg_mono (lo := wa.heap.size) (hi := wa.heap.size + 1) (i261.tr i280)).tr (sg_keep o296 (by omega)))
        have f301 := f251.mono ((sg_mono (lo := w56.heap.size) (hi := w72.heap.size) (i261.tr i280)).tr (sg_keep o296 (by omega)))
        have f302 := f252.mono ((sg_mono (lo := w56.heap.size) (hi := w72.heap.size) (i261.tr i280)).tr (sg_keep o296 (by omega)))
        refine FL.v (E.assign (v := Value.int .i64 ((PF.laws_markIntSS r128.1 1).2)) rfl) ?_
        refine FL.nil (FW.seq (FW.region ?_))
        refine FL.v (E.assign (v := Value.int .i64 1) rfl) ?_
        refine FL.nil (FW.seq (FW.region ?_))
        refine FL.v (E.move k288) ?_
        refine FL.v (E.move (v := Value.int .i64 1) rfl) ?_
        obtain ⟨r303, hr304, hp⟩ := bnd hp
        refine FL.call rfl rfl rfl (E.call Tryz.call25 (A2 rfl rfl)) (w_laws_heldIntSS S293.sl v134 ((PF.laws_markIntSS r128.1 1).1) (h294.mono sgI) 1 hr304) ?_
        rintro e w305 ⟨rfl, r306⟩
        refine ⟨_, rfl, ?_⟩
        have S307 := S293.call r306
        have z308 := r306.bel.size
        refine FL.v (E.assign (v := Value.int .i64 r303) rfl) ?_
        refine FL.nil (FW.seq (FW.seq (FW.region ?_)))
        refine FL.v (E.move (v := Value.int .i64 r303) rfl) ?_
        refine FL.v (E.lss rfl rfl) ?_
        refine FL.nil ?_
        rcases ifB hp with ⟨c309, hp⟩ | ⟨c309, hp⟩
        ·
         refine FW.condT rfl c309 ?_
         refine FW.seq (FW.region ?_)
         refine FL.v (E.assign (v := Value.bool false) rfl) ?_
         refine FL.nil ?_
         refine FW.ret ?_
         obtain rfl := Option.some.inj hp
         exact ⟨.inr rfl, res1 rfl rfl ⟨rfl, S307.back⟩⟩
        ·
         refine FW.condF rfl c309 ?_
         refine FW.skip (FW.seq (FW.seq (FW.region ?_)))
         refine FL.v (E.move (v := Value.int .i64 r303) rfl) ?_
         refine FL.v (E.move (v := Value.int .i64 ((PF.laws_markIntSS r128.1 1).2)) rfl) ?_
         refine FL.v (E.neq rfl rfl) ?_
         refine FL.nil ?_
         rcases ifB hp with ⟨c310, hp⟩ | ⟨c310, hp⟩
         ·
          refine FW.condT rfl c310 ?_
          refine FW.seq (FW.region ?_)
          refine FL.v (E.assign (v := Value.bool false) rfl) ?_
          refine FL.nil ?_
          refine FW.ret ?_
          obtain rfl := Option.some.inj hp
          exact ⟨.inr rfl, res1 rfl rfl ⟨rfl, S307.back⟩⟩
         ·
          refine FW.condF rfl c310 ?_
          refine FW.skip (FW.seq (FW.region ?_))
          refine FL.v (E.load k285 (run_loadA Tryz.isAgg24 Tryz.sizeOf24 ((f300.mono sgI).now S307.sl) rfl)) ?_
          obtain ⟨r311, hr312, hp⟩ := bnd hp
          refine FL.call rfl rfl rfl (E.call Tryz.call16 (A1 rfl)) (w_laws_toCnf S307.sl a0 v0_1 (p0_1.mono S293.inc) hr312) ?_
          rintro e w314 ⟨H313, v317, rfl, r316, ⟨c320, ns319⟩⟩
          refine ⟨_, rfl, ?_⟩
          have h318 := ns319.rsl
          have nv321 : New H291 [v317] := New.of_up S307.sl h318.dom
          have S315 := S307.call r316
          have z322 := r316.bel.size
          have h318 := h318.mono (sg_of S315.sl)
          have ns319 := ns319.mono (sg_of S315.sl)
          refine FL.v (E.move k284) ?_
          obtain ⟨r323, hr324, hp⟩ := bnd hp
          refine FL.call rfl rfl rfl (E.call Tryz.call17 (A1 rfl)) (w_laws_toSpaceStepS S315.sl v1 a1 (p1.mono (S293.inc.tr r316.inc)) hr324) ?_
          rintro e w326 ⟨H325, v329, n330, cs331, rfl, r328, els332⟩
          refine ⟨_, rfl, ?_⟩
          obtain ⟨H333, r334, i335, h336, nv337⟩ := r328.sealRowU (i := 0) (l' := []) rfl els332 (by decide) rfl
          have S327 := S315.call r334.run
          have z338 := r334.run.bel.size
          have h336 := h336.mono (sg_of S327.sl)
          obtain ⟨r339, hr340, hp⟩ := bnd hp
          refine FL.call rfl rfl rfl (E.call Tryz.call18 (A2 rfl rfl)) (w_impl_AfterSpaceSteps S327.sl r311 v317 (h318.mono (sgI.tr r334.run.inc)) v329 r323 (h336.mono sgI) hr340) ?_
          rintro e w342 ⟨H341, v345, n346, cs347, rfl, r344, els348, nd349⟩
          refine ⟨_, rfl, ?_⟩
          have nv350 : New H333 cs347 := New.of_up S327.sl els348.dom
          obtain ⟨H351, r352, i353, ns356, nv355⟩ := r344.sealRowN (i := 0) (l' := []) rfl els348 nd349 (by decide) rfl
          have h354 := ns356.rsl
          have S343 := S327.call r352.run
          have z357 := r352.run.bel.size
          have h354 := h354.mono (sg_of S343.sl)
          have ns356 := ns356.mono (sg_of S343.sl)
          refine FL.v (E.move (v := Value.tuple #[v345, Value.bool r339.2]) rfl) ?_
          refine FL.v (E.extract (i := 0) rfl rfl) ?_
          refine FL.v (E.extract (i := 1) rfl rfl) ?_
          refine FL.v (E.assign (v := v345) rfl) ?_
          refine FL.v (E.assign (v := Value.bool r339.2) rfl) ?_
          refine FL.nil (FW.seq (FW.seq (FW.region ?_)))
          refine FL.v (E.move (v := v345) rfl) ?_
          refine FL.v (E.move k286) ?_
          obtain ⟨r358, hr359, hp⟩ := bnd hp
          refine FL.call rfl rfl rfl (E.call Tryz.call19 (A2 rfl rfl)) (w_laws_eqIntSS S343.sl v345 r339.1 (h354.mono sgI) v75 r69.1 (f301.mono (sgI.tr ((r316.inc.tr r334.run.inc).tr r352.run.inc))) hr359) ?_
          rintro e w360 ⟨rfl, r361⟩
          refine ⟨_, rfl, ?_⟩
          have S362 := S343.call r361
          have z363 := r361.bel.size
          refine FL.v (E.not rfl) ?_
          refine FL.v (E.move (v := Value.bool (!r358)) rfl) ?_
          refine FL.cut 4 (fun f w => ∃ H : GH, St Ha wa H w [] ∧ Inc H351 H ∧ f 10 = v134 ∧ f 13 = Value.int .i64 ((PF.laws_markIntSS r128.1 1).2) ∧ f 110 = Value.bool (bif (!r358) then true else (!(r339.2 == r69.2)))) ?_ ?_
          ·
           rcases bcase (!r358) with c369 | c369
           ·
            refine FL.skip (wF_no rfl rfl rfl c369) rfl ?_
            refine FL.skip (wF_no rfl rfl rfl c369) rfl ?_
            refine FL.skip (wF_no rfl rfl rfl c369) rfl ?_
            refine FL.v (E.pickT rfl c369 rfl) ?_
            exact FL.nil ⟨rfl, _, S362, (Inc.rfl _), k288, rfl, (congrArg Value.bool (bifT c369).symm)⟩
           ·
            refine FL.val (wF_yes rfl rfl rfl c369) rfl rfl (E.move (v := Value.bool r339.2) rfl) ?_
            refine FL.val (wF_yes rfl rfl rfl c369) rfl rfl (E.move k287) ?_
            refine FL.val (wF_yes rfl rfl rfl c369) rfl rfl (E.neqB Tryz.runUnderlying4 rfl rfl) ?_
            refine FL.v (E.pickF rfl c369 rfl) ?_
            exact FL.nil ⟨rfl, _, S362, (Inc.rfl _), k288, rfl, (congrArg Value.bool (bifF c369).symm)⟩
          rintro f368 w367 ⟨H364, S365, i366, k370, k371, k372⟩
          refine FL.nil ?_
          rcases ifB hp with ⟨c373, hp⟩ | ⟨c373, hp⟩
          ·
           refine FW.condT k372 c373 ?_
           refine FW.seq (FW.region ?_)
           refine FL.v (E.assign (v := Value.bool false) rfl) ?_
           refine FL.nil ?_
           refine FW.ret ?_
           obtain rfl := Option.some.inj hp
           exact ⟨.inr rfl, res1 rfl rfl ⟨rfl, S365.back⟩⟩
          ·
           refine FW.condF k372 c373 ?_
           refine FW.skip (FW.seq (FW.region ?_))
           refine FL.v (E.assign (v := Value.int .i64 1) rfl) ?_
           refine FL.nil (FW.seq (FW.region ?_))
           refine FL.v (E.move k370) ?_
           refine FL.v (E.move (v := Value.int .i64 1) rfl) ?_
           obtain ⟨r374, hr375, hp⟩ := bnd hp
           refine FL.call rfl rfl rfl (E.call Tryz.call25 (A2 rfl rfl)) (w_laws_heldIntSS S365.sl v134 ((PF.laws_markIntSS r128.1 1).1) (h294.mono (sgI.tr (((r316.inc.tr r334.run.inc).tr r352.run.inc).tr i366))) 1 hr375) ?_
           rintro e w376 ⟨rfl, r377⟩
           refine ⟨_, rfl, ?_⟩
           have S378 := S365.call r377
           have z379 := r377.bel.size
           refine FL.v (E.assign (v := Value.int .i64 r374) rfl) ?_
           refine FL.nil (FW.seq (FW.seq (FW.region ?_)))
           refine FL.v (E.move (v := Value.int .i64 r374) rfl) ?_
           refine FL.v (E.lss rfl rfl) ?_
           refine FL.nil ?_
           rcases ifB hp with ⟨c380, hp⟩ | ⟨c380, hp⟩
           ·
            refine FW.condT rfl c380 ?_
            refine FW.seq (FW.region ?_)
            refine FL.v (E.assign (v := Value.bool false) rfl) ?_
            refine FL.nil ?_
            refine FW.ret ?_
            obtain rfl := Option.some.inj hp
            exact ⟨.inr rfl, res1 rfl rfl ⟨rfl, S378.back⟩⟩
           ·
            refine FW.condF rfl c380 ?_
            refine FW.skip (FW.seq (FW.seq (FW.region ?_)))
            refine FL.v (E.move (v := Value.int .i64 r374) rfl) ?_
            refine FL.v (E.move k371) ?_
            refine FL.v (E.neq rfl rfl) ?_
            refine FL.nil ?_
            rcases ifB hp with ⟨c381, hp⟩ | ⟨c381, hp⟩
            ·
             refine FW.condT rfl c381 ?_
             refine FW.seq (FW.region ?_)
             refine FL.v (E.assign (v := Value.bool false) rfl) ?_
             refine FL.nil ?_
             refine FW.ret ?_
             obtain rfl := Option.some.inj hp
             exact ⟨.inr rfl, res1 rfl rfl ⟨rfl, S378.back⟩⟩
            ·
             refine FW.condF rfl c381 ?_
             refine FW.skip (FW.seq (FW.region ?_))
             refine FL.v (E.assign (v := Value.bool true) rfl) ?_
             refine FL.nil ?_
             refine FW.ret ?_
             obtain rfl := Option.some.inj hp
             exact ⟨.inr rfl, res1 rfl rfl ⟨rfl, S378.back⟩⟩

end Go.Proofs
