/- Part of the walks and plain laws behind the claim: it proves helpers, under no condition beyond their own. -/
import Derived.Test.YtmpfnnkmplkfoaaGreatPtWk1
set_option linter.unusedVariables false
set_option maxRecDepth 100000
namespace Go.Proofs
open Go.Mr Go.Pu Go.PF Go.RowKit

@[reducible] def p_slices_Concat_int_int (Ha : GH) (wa : World) (r : (List Int)) : Ending → World → Prop :=
  fun e w' => ∃ H' : GH, ∃ v0 : Value, ∃ n0 : Nat, ∃ c0 : List Value, e = .returned (v0) ∧ St Ha wa H' w' [.row 3 1 v0 n0 c0] ∧ Els (up wa.heap.size H') eI 1 c0 r
theorem w_slices_Concat_int_int {Ha : GH} {wa : World} (hs : Sl Ha wa) (v0 : Value) (a0 : List (List Int)) (p0 : RSl Ha (eL eI 1) 1 v0 a0) {r : (List Int)} (hp : (PF.slices_Concat_int_int a0) = some r) :
    Calls Tryz.prog 221 #[v0] wa (p_slices_Concat_int_int Ha wa r) := by
  unfold PF.slices_Concat_int_int at hp
  have S0 := St.init hs
  refine calls_go (N := 36) (args := [v0]) Tryz.func221 rfl rfl rfl ?_
  refine FW.seq (FW.region ?_)
  refine FL.v (E.assign (v := Value.slice none 0 0) rfl) ?_
  refine FL.nil (FW.seq (FW.region ?_))
  refine FL.v (E.assign (v := Value.int .i64 0) rfl) ?_
  refine FL.nil (FW.seq (FW.seq (FW.region ?_)))
  refine FL.v (E.move (v := v0) rfl) ?_
  refine FL.v (E.lenP te22 rfl p0) ?_
  refine FL.v (E.move (v := Value.int .i64 0) rfl) ?_
  refine FL.nil ?_
  obtain ⟨q22, hq, hp⟩ := bndR hp
  refine FW.block ?_
  refine FW.mono (FW.forL (S := Int) (X := Empty) (fun (i22 : Nat) (s22 : Int) f w => ∃ H : GH, St Ha wa H w [] ∧ Inc Ha H ∧ f 11 = Value.int .i64 ((i22 : Nat) : Int) ∧ f 0 = v0 ∧ f 3 = Value.int .i64 s22 ∧ f 9 = v0 ∧ f 10 = Value.int .i64 (len a0)) (fun (q : Rs Int Empty) e f w => match q with | .go s22 => e = Exit.exit 0 ∧ (∃ H : GH, St Ha wa H w [] ∧ Inc Ha H ∧ f 0 = v0 ∧ f 3 = Value.int .i64 s22) | .rt x => x.elim) hq ⟨_, S0, (Inc.rfl _), rfl, rfl, rfl, rfl, rfl⟩ ?_ ?_) ?_
  ·
    clear hp hq
    rintro i22 y21 s22 f46 w45 ⟨H42, S43, i44, k47, k48, k49, k50, k51⟩ hx22 o61 hp
    refine FW.seq (FW.region ?_)
    refine FL.v (E.lssT k47 k51 (lss_len hx22)) ?_
    refine FL.nil (FW.seq ?_)
    refine FW.condT rfl rfl ?_
    refine FW.skip (FW.seq (FW.block (FW.seq (FW.region ?_))))
    obtain ⟨p52, cs53, pt54, l55, at56, rel57⟩ := p0.at (ix_nat hx22)
    obtain ⟨v58, rfl, h59⟩ := eL_open rel57
    refine FL.v (E.indexAddr te22 k50 k47 pt54) ?_
    refine FL.v (E.load rfl (run_load0 Tryz.isAgg84 ((at56.mono i44).now S43.sl) rfl)) ?_
    refine FL.v (E.assign (v := v58) rfl) ?_
    refine FL.nil (FW.seq (FW.region ?_))
    refine FL.v (E.move k49) ?_
    refine FL.v (E.move (v := v58) rfl) ?_
    refine FL.v (E.lenP te84 rfl h59) ?_
    refine FL.v (E.add rfl rfl) ?_
    refine FL.v (E.assign (v := Value.int .i64 (wr (s22 + (len y21)))) rfl) ?_
    refine FL.nil (FW.seq (FW.region ?_))
    refine FL.v (E.move (v := Value.int .i64 (wr (s22 + (len y21)))) rfl) ?_
    refine FL.v (E.lss rfl rfl) ?_
    refine FL.nil ?_
    rcases ifB hp with ⟨c60, hp⟩ | ⟨c60, hp⟩
    ·
      refine FW.condT rfl c60 ?_
      cases hp
    ·
      refine FW.condF rfl c60 ?_
      refine FW.skip (FW.region ?_)
      refine FL.v (E.add k47 rfl) ?_
      refine FL.v (E.move (v := Value.int .i64 (wr (((i22 : Nat) : Int) + 1))) rfl) ?_
      refine FL.nil ?_
      obtain rfl := Option.some.inj hp
      exact ⟨rfl, ⟨_, S43, i44, (nat_succ rfl (lt_of_get hx22) (p0.mono i44).le), k48, rfl, k50, k51⟩⟩
  ·
    clear hp hq
    rintro s22 f159 w158 ⟨H155, S156, i157, k160, k161, k162, k163, k164⟩
    refine FW.seq (FW.region ?_)
    refine FL.v (E.lss k160 k164) ?_
    refine FL.nil (FW.seq ?_)
    refine FW.condF rfl dlt_len ?_
    refine FW.exit ?_
    exact ⟨nofun, rfl, ⟨_, S156, i157, k161, k162⟩⟩
  ·
    clear hq
    intro e f66 w65 hD
    rcases q22 with s22 | x22
    ·
      obtain ⟨rfl, hD⟩ := hD
      obtain ⟨H62, S63, i64, k67, k68⟩ := hD
      replace hp := el_go hp
      refine FW.seq (FW.region ?_)
      refine FL.v (E.move k68) ?_
      obtain ⟨r69, hr70, hp⟩ := bnd hp
      refine FL.call rfl rfl rfl (E.call Tryz.call237 (A2 rfl rfl)) (w_slices_Grow_int_int S63.sl s22 hr70) ?_
      rintro e w72 ⟨H71, v75, n76, cs77, rfl, r74, els78⟩
      refine ⟨_, rfl, ?_⟩
      have els78 := els78.mono (up_le S63.size)
      have S73 := S63.join (l' := [.row 3 1 v75 n76 cs77]) r74 rfl
      refine FL.v (E.assign (v := v75) rfl) ?_
      refine FL.nil (FW.seq (FW.seq (FW.region ?_)))
      refine FL.v (E.move k67) ?_
      refine FL.v (E.lenP te22 rfl p0) ?_
      refine FL.v (E.move (v := Value.int .i64 0) rfl) ?_
      refine FL.nil ?_
      obtain ⟨q80, hq, hp⟩ := bndR hp
      refine FW.block ?_
      refine FW.mono (FW.forL (S := (List Int)) (X := Empty) (fun (i80 : Nat) (s80 : (List Int)) f w => ∃ H : GH, ∃ v81 : Value, ∃ n82 : Nat, ∃ cs83 : List Value, St Ha wa H w [.row 3 1 v81 n82 cs83] ∧ Inc H71 H ∧ Els (up wa.heap.size H) eI 1 cs83 s80 ∧ f 27 = Value.int .i64 ((i80 : Nat) : Int) ∧ f 6 = v81 ∧ f 25 = v0 ∧ f 26 = Value.int .i64 (len a0)) (fun (q : Rs (List Int) Empty) e f w => match q with | .go s80 => e = Exit.exit 2 ∧ (∃ H : GH, ∃ v81 : Value, ∃ n82 : Nat, ∃ cs83 : List Value, St Ha wa H w [.row 3 1 v81 n82 cs83] ∧ Inc H71 H ∧ Els (up wa.heap.size H) eI 1 cs83 s80 ∧ f 6 = v81) | .rt x => x.elim) hq ⟨_, _, _, _, S73, (Inc.rfl _), els78, rfl, rfl, rfl, rfl⟩ ?_ ?_) ?_
      ·
        clear hp hq
        rintro i80 y79 s80 f116 w115 ⟨H112, v81, n82, cs83, S113, i114, els84, k117, k118, k119, k120⟩ hx80 o139 hp
        refine FW.seq (FW.region ?_)
        refine FL.v (E.lssT k117 k120 (lss_len hx80)) ?_
        refine FL.nil (FW.seq ?_)
        refine FW.condT rfl rfl ?_
        refine FW.skip (FW.seq (FW.block (FW.seq (FW.region ?_))))
        obtain ⟨p121, cs122, pt123, l124, at125, rel126⟩ := p0.at (ix_nat hx80)
        obtain ⟨v127, rfl, h128⟩ := eL_open rel126
        refine FL.v (E.indexAddr te22 k119 k117 pt123) ?_
        refine FL.v (E.load rfl (run_load0 Tryz.isAgg84 ((at125.mono ((i64.tr r74.run.inc).tr i114)).now S113.sl) rfl)) ?_
        refine FL.v (E.assign (v := v127) rfl) ?_
        refine FL.nil (FW.region ?_)
        refine FL.v (E.move k118) ?_
        refine FL.v (E.move (v := v127) rfl) ?_
        obtain ⟨xs129, hz130, hp⟩ := bnd hp
        obtain ⟨v131, w134, n132, cs133, run135, S136, els137⟩ := S113.appendP (P := Tryz.prog) (Inc.rfl _) te84 (i := 0) rfl (els84.mono upI) (h128.mono ((i64.tr r74.run.inc).tr i114)) hz130
        have S136 : St Ha wa H112 w134 [.row 3 1 v131 n132 cs133] := S136
        have els137 : Els (up wa.heap.size H112) eI 1 cs133 xs129 := els137.any (fun _ _ _ _ h => h)
        refine FL.v (E.append rfl rfl run135) ?_
        refine FL.v (E.assign (v := v131) rfl) ?_
        refine FL.nil (FW.region ?_)
        refine FL.v (E.add k117 rfl) ?_
        refine FL.v (E.move (v := Value.int .i64 (wr (((i80 : Nat) : Int) + 1))) rfl) ?_
        refine FL.nil ?_
        obtain rfl := Option.some.inj hp
        exact ⟨rfl, ⟨_, _, _, _, S136, i114, els137, (nat_succ rfl (lt_of_get hx80) (p0.mono ((i64.tr r74.run.inc).tr i114)).le), rfl, k119, k120⟩⟩
      ·
        clear hp hq
        rintro s80 f150 w149 ⟨H146, v81, n82, cs83, S147, i148, els84, k151, k152, k153, k154⟩
        refine FW.seq (FW.region ?_)
        refine FL.v (E.lss k151 k154) ?_
        refine FL.nil (FW.seq ?_)
        refine FW.condF rfl dlt_len ?_
        refine FW.exit ?_
        exact ⟨nofun, rfl, ⟨_, _, _, _, S147, i148, els84, k152⟩⟩
      ·
        clear hq
        intro e f144 w143 hD
        rcases q80 with s80 | x80
        ·
          obtain ⟨rfl, hD⟩ := hD
          obtain ⟨H140, v81, n82, cs83, S141, i142, els84, k145⟩ := hD
          replace hp := el_go hp
          refine FW.seq (FW.region ?_)
          refine FL.v (E.move k145) ?_
          refine FL.v (E.assign (v := v81) rfl) ?_
          refine FL.nil ?_
          refine FW.ret ?_
          obtain rfl := Option.some.inj hp
          exact ⟨.inr rfl, res1 rfl rfl ⟨_, _, _, _, rfl, S141, els84⟩⟩
        · exact x80.elim
    · exact x22.elim

@[reducible] def p_slices_SortFunc_int_int (H0 : GH) (w0 : World) (Ha : GH) (L : List MO) (v0 : Value) (n0 : Nat) (r : (List Int)) : Ending → World → Prop :=
 fun e w' => ∃ H' : GH, ∃ c0k : List Value, e = .returned (Value.tuple #[]) ∧ (St H0 w0 H' w' (.row 3 1 v0 n0 c0k :: L) ∧ Inc Ha H') ∧ Els (up w0.heap.size H') eI 1 c0k r
theorem w_slices_SortFunc_int_int {H0 Ha : GH} {w0 wa : World} {L : List MO} {v0 : Value} {n0 : Nat} {k0 : List Value} (S0 : St H0 w0 Ha wa (.row 3 1 v0 n0 k0 :: L)) (a0 : List Int) (p0 : Els (up w0.heap.size Ha) eI 1 k0 a0) (v1 : Value) (a1 : Int → Int → Option Int) (p1 : Fn_I_I_to_I Tryz.prog Ha v1 a1) {r : (List Int)} (hp : (PF.slices_SortFunc_int_int a0 a1) = some r) :
  Calls Tryz.prog 235 #[v0, v1] wa (p_slices_SortFunc_int_int H0 w0 Ha L v0 n0 r) := by
 refine (St.sortF (l := .row 3 1 v0 n0 k0 :: L) (i := 0) upI S0 rfl p0 (fun H2 w2 hi hs2 c x hc d y hd r hr => by cases eI_open hc; cases eI_open hd; exact p1 H2 w2 hi hs2 x y r hr) (fun p cap fv w => AnyF.slices_SortFunc_none (P := Tryz.prog) (ρ := Tryz.sort235_ren) { Tryz.sort235 with } p cap fv w) (fun α _ enc h1 cf hO g cb blk off cap d w eg hc hH hb hs => Any.slices_SortFunc Tryz.sort235 enc h1 cf hO g cb blk off cap d w eg hc hH hb hs) hp).mono ?_
 rintro e w' ⟨rfl, c', h1, h2⟩
 exact ⟨_, _, rfl, ⟨h1, Inc.rfl _⟩, h2⟩

theorem w_cmp_isNaN_int {Ha : GH} {wa : World} (hs : Sl Ha wa) (a0 : Int) :
  Calls Tryz.prog 165 #[Value.int .i64 a0] wa (Sc Ha wa (Value.bool (PF.cmp_isNaN_int a0))) := by
 obtain ⟨r, hp⟩ : ∃ r, (PF.cmp_isNaN_int a0) = r := ⟨_, rfl⟩
 rw [hp]
 unfold PF.cmp_isNaN_int at hp
 have S0 := St.init hs
 refine calls_go (N := 6) (args := [Value.int .i64 a0]) Tryz.func165 rfl rfl rfl ?_
 refine FW.seq (FW.region ?_)
 refine FL.v (E.assign (v := Value.bool false) rfl) ?_
 refine FL.nil (FW.seq (FW.region ?_))
 refine FL.v (E.move (v := Value.int .i64 a0) rfl) ?_
 refine FL.v (E.move (v := Value.int .i64 a0) rfl) ?_
 refine FL.v (E.neq rfl rfl) ?_
 refine FL.v (E.assign (v := Value.bool (!(a0 == a0))) rfl) ?_
 refine FL.nil ?_
 refine FW.ret ?_
 obtain rfl := hp
 exact ⟨.inr rfl, res1 rfl rfl ⟨rfl, S0.back⟩⟩

theorem w_cmp_Compare_int {Ha : GH} {wa : World} (hs : Sl Ha wa) (a0 : Int) (a1 : Int) :
  Calls Tryz.prog 101 #[Value.int .i64 a0, Value.int .i64 a1] wa (Sc Ha wa (Value.int .i64 (PF.cmp_Compare_int a0 a1))) := by
 obtain ⟨r, hp⟩ : ∃ r, (PF.cmp_Compare_int a0 a1) = r := ⟨_, rfl⟩
 rw [hp]
 unfold PF.cmp_Compare_int at hp
 have S0 := St.init hs
 refine calls_go (N := 20) (args := [Value.int .i64 a0, Value.int .i64 a1]) Tryz.func101 rfl rfl rfl ?_
 refine FW.seq (FW.region ?_)
 refine FL.v (E.assign (v := Value.int .i64 0) rfl) ?_
 refine FL.nil (FW.seq (FW.region ?_))
 refine FL.v (E.move (v := Value.int .i64 a0) rfl) ?_
 refine FL.call rfl rfl rfl (E.call Tryz.call165 (A1 rfl)) (w_cmp_isNaN_int S0.sl a0) ?_
 rintro e w21 ⟨rfl, r22⟩
 refine ⟨_, rfl, ?_⟩
 have S23 := S0.call r22
 refine FL.v (E.assign (v := Value.bool (PF.cmp_isNaN_int a0)) rfl) ?_
 refine FL.nil (FW.seq (FW.region ?_))
 refine FL.v (E.move (v := Value.int .i64 a1) rfl) ?_
 refine FL.call rfl rfl rfl (E.call Tryz.call165 (A1 rfl)) (w_cmp_isNaN_int S23.sl a1) ?_
 rintro e w24 ⟨rfl, r25⟩
 refine ⟨_, rfl, ?_⟩
 have S26 := S23.call r25
 refine FL.v (E.assign (v := Value.bool (PF.cmp_isNaN_int a1)) rfl) ?_
 refine FL.nil (FW.seq (FW.seq (FW.region ?_)))
 refine FL.v (E.move (v := Value.bool (PF.cmp_isNaN_int a0)) rfl) ?_
 refine FL.nil ?_
 rcases ifT hp with ⟨c27, hp⟩ | ⟨c27, hp⟩
 ·
  refine FW.condT rfl c27 ?_
  refine FW.seq (FW.seq (FW.region ?_))
  refine FL.v (E.move (v := Value.bool (PF.cmp_isNaN_int a1)) rfl) ?_
  refine FL.nil ?_
  rcases ifT hp with ⟨c28, hp⟩ | ⟨c28, hp⟩
  ·
   refine FW.condT rfl c28 ?_
   refine FW.seq (FW.region ?_)
   refine FL.v (E.assign (v := Value.int .i64 0) rfl) ?_
   refine FL.nil ?_
   refine FW.ret ?_
   obtain rfl := hp
   exact ⟨.inr rfl, res1 rfl rfl ⟨rfl, S26.back⟩⟩
  ·
   refine FW.condF rfl c28 ?_
   refine FW.skip (FW.seq (FW.region ?_))
   refine FL.v (E.assign (v := Value.int .i64 (-1)) rfl) ?_
   refine FL.nil ?_
   refine FW.ret ?_
   obtain rfl := hp
   exact ⟨.inr rfl, res1 rfl rfl ⟨rfl, S26.back⟩⟩
 ·
  refine FW.condF rfl c27 ?_
  refine FW.skip (FW.seq (FW.seq (FW.region ?_)))
  refine FL.v (E.move (v := Value.bool (PF.cmp_isNaN_int a1)) rfl) ?_
  refine FL.nil ?_
  rcases ifT hp with ⟨c29, hp⟩ | ⟨c29, hp⟩
  ·
   refine FW.condT rfl c29 ?_
   refine FW.seq (FW.region ?_)
   refine FL.v (E.assign (v := Value.int .i64 1) rfl) ?_
   refine FL.nil ?_
   refine FW.ret ?_
   obtain rfl := hp
   exact ⟨.inr rfl, res1 rfl rfl ⟨rfl, S26.back⟩⟩
  ·
   refine FW.condF rfl c29 ?_
   refine FW.skip (FW.seq (FW.seq (FW.region ?_)))
   refine FL.v (E.move (v := Value.int .i64 a0) rfl) ?_
   refine FL.v (E.move (v := Value.int .i64 a1) rfl) ?_
   refine FL.v (E.lss rfl rfl) ?_
   refine FL.nil ?_
   rcases ifT hp with ⟨c30, hp⟩ | ⟨c30, hp⟩
   ·
    refine FW.condT rfl c30 ?_
    refine FW.seq (FW.region ?_)
    refine FL.v (E.assign (v := Value.int .i64 (-1)) rfl) ?_
    refine FL.nil ?_
    refine FW.ret ?_
    obtain rfl := hp
    exact ⟨.inr rfl, res1 rfl rfl ⟨rfl, S26.back⟩⟩
   ·
    refine FW.condF rfl c30 ?_
    refine FW.skip (FW.seq (FW.seq (FW.region ?_)))
    refine FL.v (E.move (v := Value.int .i64 a0) rfl) ?_
    refine FL.v (E.move (v := Value.int .i64 a1) rfl) ?_
    refine FL.v (E.gtr rfl rfl) ?_
    refine FL.nil ?_
    rcases ifT hp with ⟨c31, hp⟩ | ⟨c31, hp⟩
    ·
     refine FW.condT rfl c31 ?_
     refine FW.seq (FW.region ?_)
     refine FL.v (E.assign (v := Value.int .i64 1) rfl) ?_
     refine FL.nil ?_
     refine FW.ret ?_
     obtain rfl := hp
     exact ⟨.inr rfl, res1 rfl rfl ⟨rfl, S26.back⟩⟩
    ·
     refine FW.condF rfl c31 ?_
     refine FW.skip (FW.seq (FW.region ?_))
     refine FL.v (E.assign (v := Value.int .i64 0) rfl) ?_
     refine FL.nil ?_
     refine FW.ret ?_
     obtain rfl := hp
     exact ⟨.inr rfl, res1 rfl rfl ⟨rfl, S26.back⟩⟩

theorem w_cmp_Or_int {Ha : GH} {wa : World} (hs : Sl Ha wa) (v0 : Value) (a0 : List Int) (p0 : RSl Ha eI 1 v0 a0) {r : Int} (hp : (PF.cmp_Or_int a0) = some r) :
  Calls Tryz.prog 100 #[v0] wa (Sc Ha wa (Value.int .i64 r)) := by
 unfold PF.cmp_Or_int at hp
 have S0 := St.init hs
 refine calls_go (N := 18) (args := [v0]) Tryz.func100 rfl rfl rfl ?_
 refine FW.seq (FW.region ?_)
 refine FL.v (E.assign (v := Value.int .i64 0) rfl) ?_
 refine FL.nil (FW.seq (FW.region ?_))
 refine FL.v (E.assign (v := Value.int .i64 0) rfl) ?_
 refine FL.nil (FW.seq (FW.seq (FW.region ?_)))
 refine FL.v (E.move (v := v0) rfl) ?_
 refine FL.v (E.lenP te84 rfl p0) ?_
 refine FL.v (E.move (v := Value.int .i64 0) rfl) ?_
 refine FL.nil ?_
 obtain ⟨q22, hq, hp⟩ := bndR hp
 refine FW.block ?_
 refine FW.mono (FW.forL (S := Unit) (X := Int) (fun (i22 : Nat) (s22 : Unit) f w => ∃ H : GH, St Ha wa H w [] ∧ Inc Ha H ∧ f 8 = Value.int .i64 ((i22 : Nat) : Int) ∧ f 3 = Value.int .i64 0 ∧ f 6 = v0 ∧ f 7 = Value.int .i64 (len a0)) (fun q e f w => match q with | .go s22 => e = Exit.exit 0 ∧ (∃ H : GH, St Ha wa H w [] ∧ Inc Ha H ∧ f 3 = Value.int .i64 0) | .rt x => ((e = Exit.ret) ∧ (fun e f w => (e = Exit.normal ∨ e = Exit.ret) ∧ ∀ a, Fr (δ := []) 18 a f → ∃ v, (results Tryz.f100 a.tmps).run Tryz.prog w = .ok v w ∧ (Sc Ha wa (Value.int .i64 x)) (.returned v) w) e f w)) hq ⟨_, S0, (Inc.rfl _), rfl, rfl, rfl, rfl⟩ ?_ ?_) ?_
 ·
  clear hp hq
  rintro i22 y21 s22 f43 w42 ⟨H39, S40, i41, k44, k45, k46, k47⟩ hx22 o55 hp
  refine FW.seq (FW.region ?_)
  refine FL.v (E.lssT k44 k47 (lss_len hx22)) ?_
  refine FL.nil (FW.seq ?_)
  refine FW.condT rfl rfl ?_
  refine FW.skip (FW.seq (FW.block (FW.seq (FW.region ?_))))
  obtain ⟨p48, cs49, pt50, l51, at52, rel53⟩ := p0.at (ix_nat hx22)
  obtain rfl := eI_open rel53
  refine FL.v (E.indexAddr te84 k46 k44 pt50) ?_
  refine FL.v (E.load rfl (run_load0 Tryz.isAgg3 ((at52.mono i41).now S40.sl) rfl)) ?_
  refine FL.v (E.assign (v := Value.int .i64 y21) rfl) ?_
  refine FL.nil (FW.seq (FW.region ?_))
  refine FL.v (E.move (v := Value.int .i64 y21) rfl) ?_
  refine FL.v (E.move k45) ?_
  refine FL.v (E.neq rfl rfl) ?_
  refine FL.nil ?_
  rcases ifB hp with ⟨c54, hp⟩ | ⟨c54, hp⟩
  ·
   refine FW.condT rfl c54 ?_
   refine FW.seq (FW.region ?_)
   refine FL.v (E.move (v := Value.int .i64 y21) rfl) ?_
   refine FL.v (E.assign (v := Value.int .i64 y21) rfl) ?_
   refine FL.nil ?_
   refine FW.ret ?_
   obtain rfl := Option.some.inj hp
   exact ⟨nofun, rfl, ⟨.inr rfl, res1 rfl rfl ⟨rfl, S40.back⟩⟩⟩
  ·
   refine FW.condF rfl c54 ?_
   refine FW.skip (FW.region ?_)
   refine FL.v (E.add k44 rfl) ?_
   refine FL.v (E.move (v := Value.int .i64 (wr (((i22 : Nat) : Int) + 1))) rfl) ?_
   refine FL.nil ?_
   obtain rfl := Option.some.inj hp
   exact ⟨rfl, ⟨_, S40, i41, (nat_succ rfl (lt_of_get hx22) (p0.mono i41).le), k45, k46, k47⟩⟩
 ·
  clear hp hq
  rintro s22 f66 w65 ⟨H62, S63, i64, k67, k68, k69, k70⟩
  refine FW.seq (FW.region ?_)
  refine FL.v (E.lss k67 k70) ?_
  refine FL.nil (FW.seq ?_)
  refine FW.condF rfl dlt_len ?_
  refine FW.exit ?_
  exact ⟨nofun, rfl, ⟨_, S63, i64, k68⟩⟩
 ·
  clear hq
  intro e f60 w59 hD
  rcases q22 with s22 | x22
  ·
   obtain ⟨rfl, hD⟩ := hD
   obtain ⟨H56, S57, i58, k61⟩ := hD
   replace hp := el_go hp
   refine FW.seq (FW.region ?_)
   refine FL.v (E.move k61) ?_
   refine FL.v (E.assign (v := Value.int .i64 0) rfl) ?_
   refine FL.nil ?_
   refine FW.ret ?_
   obtain rfl := Option.some.inj hp
   exact ⟨.inr rfl, res1 rfl rfl ⟨rfl, S57.back⟩⟩
  ·
   obtain ⟨he, hL⟩ := hD
   replace hp := el_rt hp
   obtain rfl := Option.some.inj hp
   subst he
   exact hL

theorem w_impl_compareLiterals {Ha : GH} {wa : World} (hs : Sl Ha wa) (a0 : Int) (a1 : Int) {r : Int} (hp : (PF.impl_compareLiterals a0 a1) = some r) :
  Calls Tryz.prog 103 #[Value.int .i64 a0, Value.int .i64 a1] wa (Sc Ha wa (Value.int .i64 r)) := by
 unfold PF.impl_compareLiterals at hp
 have S0 := St.init hs
 refine calls_go (N := 15) (args := [Value.int .i64 a0, Value.int .i64 a1]) Tryz.func103 rfl rfl rfl ?_
 refine FW.seq (FW.region ?_)
 refine FL.v (E.assign (v := Value.int .i64 0) rfl) ?_
 refine FL.nil (FW.seq (FW.region ?_))
 refine FL.v (E.move (v := Value.int .i64 a0) rfl) ?_
 refine FL.call rfl rfl rfl (E.call Tryz.call166 (A1 rfl)) (w_impl_abs S0.sl a0) ?_
 rintro e w21 ⟨rfl, r22⟩
 refine ⟨_, rfl, ?_⟩
 have S23 := S0.call r22
 refine FL.v (E.move (v := Value.int .i64 a1) rfl) ?_
 refine FL.call rfl rfl rfl (E.call Tryz.call166 (A1 rfl)) (w_impl_abs S23.sl a1) ?_
 rintro e w24 ⟨rfl, r25⟩
 refine ⟨_, rfl, ?_⟩
 have S26 := S23.call r25
 refine FL.call rfl rfl rfl (E.call Tryz.call101 (A2 rfl rfl)) (w_cmp_Compare_int S26.sl (PF.impl_abs a0) (PF.impl_abs a1)) ?_
 rintro e w27 ⟨rfl, r28⟩
 refine ⟨_, rfl, ?_⟩
 have S29 := S26.call r28
 refine FL.v (E.move (v := Value.int .i64 a1) rfl) ?_
 refine FL.v (E.move (v := Value.int .i64 a0) rfl) ?_
 refine FL.call rfl rfl rfl (E.call Tryz.call101 (A2 rfl rfl)) (w_cmp_Compare_int S29.sl a1 a0) ?_
 rintro e w30 ⟨rfl, r31⟩
 refine ⟨_, rfl, ?_⟩
 have S32 := S29.call r31
 obtain ⟨v33, w34, run35, S36⟩ := S32.buildSlice (P := Tryz.prog) te84 [Value.int .i64 (PF.cmp_Compare_int (PF.impl_abs a0) (PF.impl_abs a1)), Value.int .i64 (PF.cmp_Compare_int a1 a0)] (parts := #[(0, Value.int .i64 (PF.cmp_Compare_int (PF.impl_abs a0) (PF.impl_abs a1))), (1, Value.int .i64 (PF.cmp_Compare_int a1 a0))]) (cells := [Value.int .i64 (PF.cmp_Compare_int (PF.impl_abs a0) (PF.impl_abs a1)), Value.int .i64 (PF.cmp_Compare_int a1 a0)]) rfl (szs_cons rfl (szs_cons rfl szs_nil)) (fc_cons rfl (fc_cons rfl fc_nil)) (ones_cons rfl (ones_cons rfl ones_nil)) (Nat.le_of_ble_eq_true rfl)
 have els37 : Els (up wa.heap.size Ha) eI 1 [Value.int .i64 (PF.cmp_Compare_int (PF.impl_abs a0) (PF.impl_abs a1)), Value.int .i64 (PF.cmp_Compare_int a1 a0)] [(PF.cmp_Compare_int (PF.impl_abs a0) (PF.impl_abs a1)), (PF.cmp_Compare_int a1 a0)] := (Els.snoc (H := (up wa.heap.size Ha)) (E := eI) (k := 1) (c := [Value.int .i64 (PF.cmp_Compare_int a1 a0)]) (x := (PF.cmp_Compare_int a1 a0)) (Els.snoc (H := (up wa.heap.size Ha)) (E := eI) (k := 1) (c := [Value.int .i64 (PF.cmp_Compare_int (PF.impl_abs a0) (PF.impl_abs a1))]) (x := (PF.cmp_Compare_int (PF.impl_abs a0) (PF.impl_abs a1))) Els.nil rfl rfl) rfl rfl)
 refine FL.v (E.buildSlice (B2 rfl rfl) run35) ?_
 obtain ⟨H38, S39, i40, h41, nv42⟩ := S36.sealRowU (i := 0) (l' := []) rfl els37 (by decide) rfl
 obtain ⟨r43, hr44, hp⟩ := bnd hp
 refine FL.call rfl rfl rfl (E.call Tryz.call100 (A1 rfl)) (w_cmp_Or_int S39.sl v33 [(PF.cmp_Compare_int (PF.impl_abs a0) (PF.impl_abs a1)), (PF.cmp_Compare_int a1 a0)] (h41.mono upI) hr44) ?_
 rintro e w45 ⟨rfl, r46⟩
 refine ⟨_, rfl, ?_⟩
 have r46 := Run.lend i40 S36.sl r46
 have S47 := S36.call r46
 refine FL.v (E.assign (v := Value.int .i64 r43) rfl) ?_
 refine FL.nil ?_
 refine FW.ret ?_
 obtain rfl := Option.some.inj hp
 exact ⟨.inr rfl, res1 rfl rfl ⟨rfl, S47.back⟩⟩

@[reducible] def p_slices_Compact_int_int (H0 : GH) (w0 : World) (Ha : GH) (L : List MO) (r : (List Int)) : Ending → World → Prop :=
 fun e w' => ∃ H' : GH, ∃ v0r : Value, ∃ n0r : Nat, ∃ c0r : List Value, e = .returned (v0r) ∧ (St H0 w0 H' w' (.row 3 1 v0r n0r c0r :: L) ∧ Inc Ha H') ∧ Els (up w0.heap.size H') eI 1 c0r r
theorem w_slices_Compact_int_int {H0 Ha : GH} {w0 wa : World} {L : List MO} {v0 : Value} {n0 : Nat} {k0 : List Value} (S0 : St H0 w0 Ha wa (.row 3 1 v0 n0 k0 :: L)) (a0 : List Int) (p0 : Els (up w0.heap.size Ha) eI 1 k0 a0) {r : (List Int)} (hp : (PF.slices_Compact_int_int a0) = some r) :
  Calls Tryz.prog 236 #[v0] wa (p_slices_Compact_int_int H0 w0 Ha L r) := by
 cases hp
 refine (St.compactF (l := .row 3 1 v0 n0 k0 :: L) (i := 0) S0 rfl p0 (enc := Value.int .i64) (fun _ => rfl) (fun _ _ _ h => by cases eI_open h; rfl) (fun _ _ => rfl) 0 (fun w => compact_none Tryz.comp236 w) (fun blk off cap d w hH hs hc => AnyE.slices_Compact Tryz.comp236 (Value.int .i64) (fun _ => rfl) (EqlAt.intD _ _ _) (NeqAt.intD _ _ _) 0 (fun w => Tryz.zeroValue3 w) blk off cap d w hH hs hc)).mono ?_
 rintro e w' ⟨v', n', c', rfl, h1, h2⟩
 exact ⟨_, _, _, _, rfl, ⟨h1, Inc.rfl _⟩, h2⟩

@[reducible] def p_impl_clause (Ha : GH) (wa : World) (r : ((List Int) × Bool)) : Ending → World → Prop :=
 fun e w' => ∃ H' : GH, ∃ v0 : Value, ∃ n0 : Nat, ∃ c0 : List Value, e = .returned (Value.tuple #[v0, Value.bool r.2]) ∧ St Ha wa H' w' [.row 3 1 v0 n0 c0] ∧ Els (up wa.heap.size H') eI 1 c0 r.1
theorem w_impl_clause {Ha : GH} {wa : World} (hs : Sl Ha wa) (v0 : Value) (a0 : List Int) (p0 : RSl Ha eI 1 v0 a0) {r : ((List Int) × Bool)} (hp : (PF.impl_clause a0) = some r) :
  Calls Tryz.prog 220 #[v0] wa (p_impl_clause Ha wa r) := by
 unfold PF.impl_clause at hp
 have S0 := St.init hs
 refine calls_go (N := 30) (args := [v0]) Tryz.func220 rfl rfl rfl ?_
 refine FW.seq (FW.region ?_)
 refine FL.v (E.assign (v := Value.slice none 0 0) rfl) ?_
 refine FL.v (E.assign (v := Value.bool false) rfl) ?_
 refine FL.nil (FW.seq (FW.region ?_))
 refine FL.v (E.move (v := v0) rfl) ?_
 obtain ⟨r21, hr22, hp⟩ := bnd hp
 refine FL.call rfl rfl rfl (E.call Tryz.call62 (A1 rfl)) (w_slices_Clone_int_int S0.sl v0 a0 p0 hr22) ?_
 rintro e w24 ⟨H23, v27, n28, cs29, rfl, r26, els30⟩
 refine ⟨_, rfl, ?_⟩
 have els30 := els30.mono (up_le S0.size)
 have S25 := S0.join (l' := [.row 3 1 v27 n28 cs29]) r26 rfl
 refine FL.v (E.assign (v := v27) rfl) ?_
 refine FL.nil (FW.seq (FW.region ?_))
 refine FL.v (E.move (v := v27) rfl) ?_
 obtain ⟨r31, hr32, hp⟩ := bnd hp
 refine FL.call rfl rfl rfl (E.call Tryz.call235 (A2 rfl rfl)) (w_slices_SortFunc_int_int (L := []) S25 r21 els30 (Value.func (.func 103) #[] #[]) (fun x0 x1 => PF.impl_compareLiterals x0 x1) (fun H2 w2 hi2 hs2 x0 x1 r hr => ⟨103, #[], rfl, Tryz.call103, w_impl_compareLiterals hs2 x0 x1  hr⟩) hr32) ?_
 rintro e w34 ⟨H33, cs37, rfl, ⟨S35, i36⟩, els38⟩
 refine ⟨_, rfl, ?_⟩
 have S35 : St Ha wa H33 w34 [.row 3 1 v27 n28 cs37] := S35
 refine FL.nil (FW.seq (FW.region ?_))
 refine FL.v (E.move (v := v27) rfl) ?_
 obtain ⟨r39, hr40, hp⟩ := bnd hp
 refine FL.call rfl rfl rfl (E.call Tryz.call236 (A1 rfl)) (w_slices_Compact_int_int (L := []) S35 r31 els38 hr40) ?_
 rintro e w42 ⟨H41, v45, n46, cs47, rfl, ⟨S43, i44⟩, els48⟩
 refine ⟨_, rfl, ?_⟩
 have S43 : St Ha wa H41 w42 [.row 3 1 v45 n46 cs47] := S43
 refine FL.v (E.assign (v := v45) rfl) ?_
 refine FL.nil (FW.seq (FW.seq (FW.region ?_)))
 refine FL.v (E.assign (v := Value.int .i64 1) rfl) ?_
 refine FL.nil ?_
 obtain ⟨q49, hq, hp⟩ := bndR hp
 refine FW.block ?_
 refine FW.mono (FW.iter (S := Int) (X := ((List Int) × Bool)) (fun (s49 : Int) f w => ∃ H : GH, St Ha wa H w [.row 3 1 v45 n46 cs47] ∧ Inc H41 H ∧ f 4 = v45 ∧ f 5 = Value.int .i64 s49) (fun q e f w => match q with | .go s49 => e = Exit.exit 0 ∧ (∃ H : GH, St Ha wa H w [.row 3 1 v45 n46 cs47] ∧ Inc H41 H ∧ f 4 = v45) | .rt x => ((e = Exit.ret) ∧ (fun e f w => (e = Exit.normal ∨ e = Exit.ret) ∧ ∀ a, Fr (δ := []) 30 a f → ∃ v, (results Tryz.f220 a.tmps).run Tryz.prog w = .ok v w ∧ (p_impl_clause Ha wa x) (.returned v) w) e f w)) hq ⟨_, S43, (Inc.rfl _), rfl, rfl⟩ ?_) ?_
 ·
  clear hp hq
  rintro s49 f83 w82 ⟨H79, S80, i81, k84, k85⟩ o108 hp
  refine FW.seq (FW.seq (FW.region ?_))
  refine FL.v (E.move k85) ?_
  refine FL.v (E.move k84) ?_
  refine FL.v (E.lenO te84 rfl S80 (i := 0) rfl els48 (by decide)) ?_
  refine FL.v (E.lss rfl rfl) ?_
  refine FL.nil ?_
  rcases ifB hp with ⟨c86, hp⟩ | ⟨c86, hp⟩
  ·
   refine FW.condT rfl c86 ?_
   refine FW.skip (FW.seq (FW.block (FW.seq ?_)))
   refine FW.draw (fun w' => Run w82.heap.size H79 w82 H79 w') (by kernel_rfl) (by kernel_rfl) (run_drew S80.sl) ?_
   refine FD.val rfl rfl rfl (fun w' hw' => (E.move k84)) ?_
   refine FD.val rfl rfl rfl (fun w' hw' => (E.move k85)) ?_
   obtain ⟨x94, hx95, hp⟩ := bnd hp
   obtain ⟨p88, cs89, pt90, l91, at92, rel93⟩ := S80.row_at (i := 0) rfl els48 (by decide) hx95
   obtain rfl := eI_open rel93
   refine FD.val rfl rfl rfl (fun w' hw' => (E.indexAddr te84 rfl rfl pt90)) ?_
   refine FD.val rfl rfl rfl (fun w' hw' => (E.load rfl (run_load0 Tryz.isAgg3 (at92.cls hw') rfl))) ?_
   refine FD.val rfl rfl rfl (fun w' hw' => (E.move k84)) ?_
   refine FD.val rfl rfl rfl (fun w' hw' => (E.move k85)) ?_
   refine FD.val rfl rfl rfl (fun w' hw' => (E.sub rfl rfl)) ?_
   obtain ⟨x102, hx103, hp⟩ := bnd hp
   obtain ⟨p96, cs97, pt98, l99, at100, rel101⟩ := S80.row_at (i := 0) rfl els48 (by decide) hx103
   obtain rfl := eI_open rel101
   refine FD.val rfl rfl rfl (fun w' hw' => (E.indexAddr te84 rfl rfl pt98)) ?_
   refine FD.val rfl rfl rfl (fun w' hw' => (E.load rfl (run_load0 Tryz.isAgg3 (at100.cls hw') rfl))) ?_
   refine FD.val rfl rfl rfl (fun w' hw' => (E.neg rfl)) ?_
   refine FD.val rfl rfl rfl (fun w' hw' => (E.eql rfl rfl)) ?_
   refine FD.nil ?_
   intro w104 r106
   have S105 := S80.call r106
   rcases ifB hp with ⟨c107, hp⟩ | ⟨c107, hp⟩
   ·
    refine FW.condT rfl c107 ?_
    refine FW.seq (FW.region ?_)
    refine FL.v (E.assign (v := Value.slice none 0 0) rfl) ?_
    refine FL.v (E.assign (v := Value.bool false) rfl) ?_
    refine FL.nil ?_
    refine FW.ret ?_
    obtain rfl := Option.some.inj hp
    exact ⟨nofun, rfl, ⟨.inr rfl, res2 rfl rfl rfl ⟨_, _, _, _, rfl, ((S105.nil 3 1).sel [0] (by decide) rfl), Els.nil⟩⟩⟩
   ·
    refine FW.condF rfl c107 ?_
    refine FW.skip (FW.region ?_)
    refine FL.v (E.move k85) ?_
    refine FL.v (E.add rfl rfl) ?_
    refine FL.v (E.assign (v := Value.int .i64 (wr (s49 + 1))) rfl) ?_
    refine FL.nil ?_
    obtain rfl := Option.some.inj hp
    exact ⟨rfl, ⟨_, S105, i81, k84, rfl⟩⟩
  ·
   refine FW.condF rfl c86 ?_
   refine FW.exit ?_
   obtain rfl := Option.some.inj hp
   exact ⟨nofun, rfl, ⟨_, S80, i81, k84⟩⟩
 ·
  clear hq
  intro e f113 w112 hD
  rcases q49 with s49 | x49
  ·
   obtain ⟨rfl, hD⟩ := hD
   obtain ⟨H109, S110, i111, k114⟩ := hD
   replace hp := el_go hp
   refine FW.seq (FW.region ?_)
   refine FL.v (E.move k114) ?_
   refine FL.v (E.assign (v := v45) rfl) ?_
   refine FL.v (E.assign (v := Value.bool true) rfl) ?_
   refine FL.nil ?_
   refine FW.ret ?_
   obtain rfl := Option.some.inj hp
   exact ⟨.inr rfl, res2 rfl rfl rfl ⟨_, _, _, _, rfl, S110, (els48.mono (up_mono i111))⟩⟩
  ·
   obtain ⟨he, hL⟩ := hD
   replace hp := el_rt hp
   obtain rfl := Option.some.inj hp
   subst he
   exact hL

@[reducible] def p_impl_resolve (Ha : GH) (wa : World) (r : ((List Int) × Bool)) : Ending → World → Prop :=
 fun e w' => ∃ H' : GH, ∃ v0 : Value, ∃ n0 : Nat, ∃ c0 : List Value, e = .returned (Value.tuple #[v0, Value.bool r.2]) ∧ St Ha wa H' w' [.row 3 1 v0 n0 c0] ∧ Els (up wa.heap.size H') eI 1 c0 r.1
theorem w_impl_resolve {Ha : GH} {wa : World} (hs : Sl Ha wa) (v0 : Value) (a0 : List Int) (p0 : RSl Ha eI 1 v0 a0) (v1 : Value) (a1 : List Int) (p1 : RSl Ha eI 1 v1 a1) (a2 : Int) {r : ((List Int) × Bool)} (hp : (PF.impl_resolve a0 a1 a2) = some r) :
  Calls Tryz.prog 179 #[v0, v1, Value.int .i64 a2] wa (p_impl_resolve Ha wa r) := by
 unfold PF.impl_resolve at hp
 have S0 := St.init hs
 refine calls_go (N := 30) (args := [v0, v1, Value.int .i64 a2]) Tryz.func179 rfl rfl rfl ?_
 refine FW.seq (FW.region ?_)
 refine FL.v (E.assign (v := Value.slice none 0 0) rfl) ?_
 refine FL.v (E.assign (v := Value.bool false) rfl) ?_
 refine FL.nil (FW.seq (FW.seq (FW.region ?_)))
 refine FL.v (E.move (v := v0) rfl) ?_
 refine FL.v (E.move (v := Value.int .i64 a2) rfl) ?_
 obtain ⟨r21, hr22, hp⟩ := bnd hp
 refine FL.call rfl rfl rfl (E.call Tryz.call129 (A2 rfl rfl)) (w_slices_Contains_int_int S0.sl v0 a0 p0 a2 hr22) ?_
 rintro e w23 ⟨rfl, r24⟩
 refine ⟨_, rfl, ?_⟩
 have S25 := S0.call r24
 refine FL.v (E.not rfl) ?_
 refine FL.v (E.move (v := Value.bool (!r21)) rfl) ?_
 obtain ⟨t31, hqt31, hp⟩ := bnd hp
 refine FL.cut 6 (fun f w => ∃ H : GH, St Ha wa H w [] ∧ Inc Ha H ∧ f 0 = v0 ∧ f 1 = v1 ∧ f 2 = Value.int .i64 a2 ∧ f 18 = Value.bool t31) ?_ ?_
 ·
  clear hp; have hp := hqt31; clear hqt31
  rcases ifB hp with ⟨c37, hp⟩ | ⟨c37, hp⟩
  ·
   refine FL.skip (wF_no rfl rfl rfl c37) rfl ?_
   refine FL.skip (wF_no rfl rfl rfl c37) rfl ?_
   refine FL.skip (wF_no rfl rfl rfl c37) rfl ?_
   refine FL.skip (wF_no rfl rfl rfl c37) rfl ?_
   refine FL.skip (wF_no rfl rfl rfl c37) rfl ?_
   obtain rfl := Option.some.inj hp
   refine FL.v (E.pickT rfl c37 rfl) ?_
   exact FL.nil ⟨rfl, _, S25, (Inc.rfl _), rfl, rfl, rfl, rfl⟩
  ·
   refine FL.val (wF_yes rfl rfl rfl c37) rfl rfl (E.move (v := v1) rfl) ?_
   refine FL.val (wF_yes rfl rfl rfl c37) rfl rfl (E.move (v := Value.int .i64 a2) rfl) ?_
   refine FL.val (wF_yes rfl rfl rfl c37) rfl rfl (E.neg rfl) ?_
   obtain ⟨r38, hr39, hp⟩ := bnd hp
   refine FL.call (wF_yes rfl rfl rfl c37) rfl rfl (E.call Tryz.call129 (A2 rfl rfl)) (w_slices_Contains_int_int S25.sl v1 a1 p1 (wr (-a2)) hr39) ?_
   rintro e w40 ⟨rfl, r41⟩
   refine ⟨_, rfl, ?_⟩
   have S42 := S25.call r41
   refine FL.val (wF_yes rfl rfl rfl c37) rfl rfl (E.not rfl) ?_
   obtain rfl := Option.some.inj hp
   refine FL.v (E.pickF rfl c37 rfl) ?_
   exact FL.nil ⟨rfl, _, S42, (Inc.rfl _), rfl, rfl, rfl, rfl⟩
 rintro f36 w35 ⟨H32, S33, i34, k43, k44, k45, k46⟩
 refine FL.nil ?_
 rcases ifB hp with ⟨c47, hp⟩ | ⟨c47, hp⟩
 ·
  refine FW.condT k46 c47 ?_
  refine FW.seq (FW.region ?_)
  refine FL.v (E.assign (v := Value.slice none 0 0) rfl) ?_
  refine FL.v (E.assign (v := Value.bool false) rfl) ?_
  refine FL.nil ?_
  refine FW.ret ?_
  obtain rfl := Option.some.inj hp
  exact ⟨.inr rfl, res2 rfl rfl rfl ⟨_, _, _, _, rfl, (S33.nil 3 1), Els.nil⟩⟩
 ·
  refine FW.condF k46 c47 ?_
  refine FW.skip (FW.seq (FW.region ?_))
  refine FL.v (E.move k43) ?_
  refine FL.v (E.move k45) ?_
  obtain ⟨r48, hr49, hp⟩ := bnd hp
  refine FL.call rfl rfl rfl (E.call Tryz.call182 (A2 rfl rfl)) (w_impl_withoutVar S33.sl v0 a0 (p0.mono i34) a2 hr49) ?_
  rintro e w51 ⟨H50, v54, n55, cs56, rfl, r53, els57⟩
  refine ⟨_, rfl, ?_⟩
  have els57 := els57.mono (up_le S33.size)
  have S52 := S33.join (l' := [.row 3 1 v54 n55 cs56]) r53 rfl
  refine FL.v (E.move k44) ?_
  refine FL.v (E.move k45) ?_
  obtain ⟨r58, hr59, hp⟩ := bnd hp
  refine FL.call rfl rfl rfl (E.call Tryz.call182 (A2 rfl rfl)) (w_impl_withoutVar S52.sl v1 a1 (p1.mono (i34.tr r53.run.inc)) a2 hr59) ?_
  rintro e w61 ⟨H60, v64, n65, cs66, rfl, r63, els67⟩
  refine ⟨_, rfl, ?_⟩
  have els67 := els67.mono (up_le S52.size)
  have S62 := S52.join (l' := [.row 3 1 v64 n65 cs66, .row 3 1 v54 n55 cs56]) r63 rfl
  obtain ⟨H68, S69, i70, h71, nv72⟩ := S62.sealRowU (i := 1) (l' := [.row 3 1 v64 n65 cs66]) rfl (els57.mono (up_mono r63.run.inc)) (by decide) rfl
  obtain ⟨H73, S74, i75, h76, nv77⟩ := S69.sealRowU (i := 0) (l' := []) rfl (els67.mono (up_mono i70)) (by decide) rfl
  obtain ⟨v78, w79, run80, S81⟩ := S74.buildSlice (P := Tryz.prog) te22 [v54, v64] (parts := #[(0, v54), (1, v64)]) (cells := [v54, v64]) rfl (szs_cons (cells_size h71.cells) (szs_cons (cells_size h76.cells) szs_nil)) (fc_cons h71.cells (fc_cons h76.cells fc_nil)) (ones_cons h71.one (ones_cons h76.one ones_nil)) (Nat.le_of_ble_eq_true rfl)
  have els82 : Els (up wa.heap.size H73) (eL eI 1) 1 [v54, v64] [r48, r58] := (Els.snoc (H := (up wa.heap.size H73)) (E := (eL eI 1)) (k := 1) (c := [v64]) (x := r58) (Els.snoc (H := (up wa.heap.size H73)) (E := (eL eI 1)) (k := 1) (c := [v54]) (x := r48) Els.nil rfl ⟨_, rfl, (h71.mono (up_mono i75))⟩) rfl ⟨_, rfl, h76⟩)
  refine FL.v (E.buildSlice (B2 rfl rfl) run80) ?_
  obtain ⟨H83, S84, i85, h86, nv87⟩ := S81.sealRowU (i := 0) (l' := []) rfl els82 (by decide) rfl
  obtain ⟨r88, hr89, hp⟩ := bnd hp
  refine FL.call rfl rfl rfl (E.call Tryz.call221 (A1 rfl)) (w_slices_Concat_int_int S84.sl v78 [r48, r58] (h86.mono upI) hr89) ?_
  rintro e w91 ⟨H90, v96, n97, cs98, rfl, r93, els99⟩
  refine ⟨_, rfl, ?_⟩
  obtain ⟨H94, r93, hU95⟩ := St.lendX i85 S81.sl r93
  have els99 := els99.mono (hU95.tr (up_le S81.size))
  have S92 := S81.join (l' := [.row 3 1 v96 n97 cs98, .row 84 1 v78 2 [v54, v64]]) r93 rfl
  obtain ⟨H100, S101, i102, h103, nv104⟩ := S92.sealRowU (i := 0) (l' := [.row 84 1 v78 2 [v54, v64]]) rfl els99 (by decide) rfl
  obtain ⟨r105, hr106, hp⟩ := bnd hp
  refine FL.call rfl rfl rfl (E.call Tryz.call220 (A1 rfl)) (w_impl_clause S101.sl v96 r88 (h103.mono upI) hr106) ?_
  rintro e w108 ⟨H107, v113, n114, cs115, rfl, r110, els116⟩
  refine ⟨_, rfl, ?_⟩
  obtain ⟨H111, r110, hU112⟩ := St.lendX i102 S92.sl r110
  have els116 := els116.mono (hU112.tr (up_le S92.size))
  have S109 := S92.join (l' := [.row 3 1 v113 n114 cs115, .row 3 1 v96 n97 cs98, .row 84 1 v78 2 [v54, v64]]) r110 rfl
  refine FL.v (E.extract (i := 0) rfl rfl) ?_
  refine FL.v (E.extract (i := 1) rfl rfl) ?_
  refine FL.v (E.assign (v := v113) rfl) ?_
  refine FL.v (E.assign (v := Value.bool r105.2) rfl) ?_
  refine FL.nil ?_
  refine FW.ret ?_
  obtain rfl := Option.some.inj hp
  exact ⟨.inr rfl, res2 rfl rfl rfl ⟨_, _, _, _, rfl, (S109.sel [0] (by decide) rfl), els116⟩⟩

set_option maxHeartbeats 4000000 in
theorem w_impl_correct {Ha : GH} {wa : World} (hs : Sl Ha wa) (a0 : Cnf) (v0_1 : Value) (p0_1 : RSl Ha (eL eI 1) 1 v0_1 a0.clauses) (v1 : Value) (a1 : List ResStep) (p1 : RSl Ha eResStep 4 v1 a1) (a2 : Int) {r : Bool} (hp : (PF.impl_correct a0 a1 a2) = some r) :
  Calls Tryz.prog 213 #[Value.agg #[Value.int .i64 a0.vars, v0_1], v1, Value.int .i64 a2] wa (Sc Ha wa (Value.bool r)) := by
 unfold PF.impl_correct at hp
 have S0 := St.init hs
 refine calls_go (N := 105) (args := [Value.agg #[Value.int .i64 a0.vars, v0_1], v1, Value.int .i64 a2]) Tryz.func213 rfl rfl rfl ?_
 refine FW.seq (FW.region ?_)
 obtain ⟨b21, w22, run23, S24⟩ := S0.box (P := Tryz.prog) 30 [Value.int .i64 a0.vars, v0_1] (v := Value.agg #[Value.int .i64 a0.vars, v0_1]) rfl (ones_cons rfl (ones_cons p0_1.one ones_nil))
 refine FL.v (E.box rfl run23) ?_
 obtain ⟨H25, S26, i27, at28⟩ := S24.sealBox (i := 0) (l' := []) rfl rfl
 refine FL.v (E.assign (v := Value.bool false) rfl) ?_
 refine FL.nil (FW.seq (FW.region ?_))
 refine FL.v (E.move (v := v1) rfl) ?_
 refine FL.v (E.move (v := Value.int .i64 a2) rfl) ?_
 obtain ⟨x35, hx36, hp⟩ := bnd hp
 obtain ⟨p29, cs30, pt31, l32, at33, rel34⟩ := p1.at hx36
 obtain ⟨v37, rfl, h38⟩ := eResStep_open rel34
 refine FL.v (E.indexAddr te46 rfl rfl pt31) ?_
 refine FL.v (E.load rfl (run_loadA Tryz.isAgg94 Tryz.sizeOf94 ((at33.mono i27).now S26.sl) rfl)) ?_
 obtain ⟨b39, w40, run41, S42⟩ := S26.alloc (P := Tryz.prog) 94 [Value.slice none 0 0, Value.int .i64 0, Value.int .i64 0, Value.int .i64 0] Tryz.zeroValue94 rfl (ones_cons rfl (ones_cons rfl (ones_cons rfl (ones_cons rfl ones_nil))))
 refine FL.v (E.alloc run41) ?_
 obtain ⟨w43, run44, S45⟩ := S42.store0 (P := Tryz.prog) (t := 94) (i := 0) (cs' := [v37, Value.int .i64 x35.left, Value.int .i64 x35.right, Value.int .i64 x35.pivot]) (l' := [.box b39 94 [v37, Value.int .i64 x35.left, Value.int .i64 x35.right, Value.int .i64 x35.pivot]]) (v := Value.agg #[v37, Value.int .i64 x35.left, Value.int .i64 x35.right, Value.int .i64 x35.pivot]) (c := [v37, Value.int .i64 x35.left, Value.int .i64 x35.right, Value.int .i64 x35.pivot]) rfl Tryz.sizeOf94 rfl rfl (ones_cons h38.one (ones_cons rfl (ones_cons rfl (ones_cons rfl ones_nil)))) (Nat.le_of_ble_eq_true rfl) rfl rfl
 refine FL.act rfl rfl (E.store rfl rfl run44) ?_
 obtain ⟨H46, S47, i48, at49⟩ := S45.sealBox (i := 0) (l' := []) rfl rfl
 refine FL.nil (FW.seq (FW.seq (FW.region ?_)))
 refine FL.v (E.fieldAddr tf30_0 rfl) ?_
 refine FL.v (E.load rfl (run_load1 Tryz.isAgg3 ((at28.mono i48).now S47.sl) rfl)) ?_
 refine FL.v (E.fieldAddr tf94_0 rfl) ?_
 refine FL.v (E.load rfl (run_load1 Tryz.isAgg84 (at49.now S47.sl) rfl)) ?_
 obtain ⟨r50, hr51, hp⟩ := bnd hp
 refine FL.call rfl rfl rfl (E.call Tryz.call151 (A2 rfl rfl)) (w_impl_IsClause S47.sl a0.vars v37 x35.clause (h38.mono (i27.tr i48)) hr51) ?_
 rintro e w52 ⟨rfl, r53⟩
 refine ⟨_, rfl, ?_⟩
 have S54 := S47.call r53
 refine FL.v (E.not rfl) ?_
 refine FL.nil ?_
 rcases ifB hp with ⟨c55, hp⟩ | ⟨c55, hp⟩
 ·
  refine FW.condT rfl c55 ?_
  refine FW.seq (FW.region ?_)
  refine FL.v (E.assign (v := Value.bool false) rfl) ?_
  refine FL.nil ?_
  refine FW.ret ?_
  obtain rfl := Option.some.inj hp
  exact ⟨.inr rfl, res1 rfl rfl ⟨rfl, S54.back⟩⟩
 ·
  refine FW.condF rfl c55 ?_
  refine FW.skip (FW.seq (FW.seq (FW.region ?_)))
  refine FL.v (E.fieldAddr tf94_1 rfl) ?_
  refine FL.v (E.load rfl (run_load1 Tryz.isAgg3 (at49.now S54.sl) rfl)) ?_
  refine FL.v (E.eql rfl rfl) ?_
  refine FL.nil ?_
  rcases ifB hp with ⟨c56, hp⟩ | ⟨c56, hp⟩
  ·
   refine FW.condT rfl c56 ?_
   refine FW.seq ?_
   refine FW.draw (fun w' => Run w52.heap.size H46 w52 H46 w') (by kernel_rfl) (by kernel_rfl) (run_drew S54.sl) ?_
   refine FD.val rfl rfl rfl (fun w' hw' => (E.fieldAddr tf94_3 rfl)) ?_
   refine FD.val rfl rfl rfl (fun w' hw' => (E.load rfl (run_load1 Tryz.isAgg3 (at49.now (S54.call hw').sl) rfl))) ?_
   refine FD.val rfl rfl rfl (fun w' hw' => (E.eql rfl rfl)) ?_
   refine FD.val rfl rfl rfl (fun w' hw' => (E.move (v := Value.bool (x35.pivot == 0)) rfl)) ?_
   refine FD.cut 8 (fun f => f 3 = Value.pointer (some ⟨b21, 0, none⟩) ∧ f 7 = Value.pointer (some ⟨b39, 0, none⟩) ∧ f 36 = Value.bool (bif (x35.pivot == 0) then (PF.impl_within x35.right 0 (wr ((len a0.clauses) - 1))) else false)) ?_ ?_
   ·
    rcases bcase (x35.pivot == 0) with c64 | c64
    ·
     refine FD.val (wF_yes rfl rfl rfl c64) rfl rfl (fun w' hw' => (E.fieldAddr tf94_2 rfl)) ?_
     refine FD.val (wF_yes rfl rfl rfl c64) rfl rfl (fun w' hw' => (E.load rfl (run_load1 Tryz.isAgg3 (at49.now (S54.call hw').sl) rfl))) ?_
     refine FD.val (wF_yes rfl rfl rfl c64) rfl rfl (fun w' hw' => (E.fieldAddr tf30_1 rfl)) ?_
     refine FD.val (wF_yes rfl rfl rfl c64) rfl rfl (fun w' hw' => (E.load rfl (run_load1 Tryz.isAgg22 ((at28.mono i48).now (S54.call hw').sl) rfl))) ?_
     refine FD.val (wF_yes rfl rfl rfl c64) rfl rfl (fun w' hw' => (E.lenP te22 rfl p0_1)) ?_
     refine FD.val (wF_yes rfl rfl rfl c64) rfl rfl (fun w' hw' => (E.sub rfl rfl)) ?_
     refine FD.call (wF_yes rfl rfl rfl c64) rfl rfl (fun w' hw' => (E.call Tryz.call108 (A3 rfl rfl rfl))) (fun w' hw' => Calls.cls hw' (w_impl_within (S54.call hw').sl x35.right 0 (wr ((len a0.clauses) - 1)))) ?_
     refine FD.val rfl rfl rfl (fun w' hw' => (E.pickT rfl c64 rfl)) ?_
     exact FD.nil ⟨rfl, rfl, (congrArg Value.bool (bifT c64).symm)⟩
    ·
     refine FD.skip (wF_no rfl rfl rfl c64) rfl ?_
     refine FD.skip (wF_no rfl rfl rfl c64) rfl ?_
     refine FD.skip (wF_no rfl rfl rfl c64) rfl ?_
     refine FD.skip (wF_no rfl rfl rfl c64) rfl ?_
     refine FD.skip (wF_no rfl rfl rfl c64) rfl ?_
     refine FD.skip (wF_no rfl rfl rfl c64) rfl ?_
     refine FD.skip (wF_no rfl rfl rfl c64) rfl ?_
     refine FD.val rfl rfl rfl (fun w' hw' => (E.pickF rfl c64 rfl)) ?_
     exact FD.nil ⟨rfl, rfl, (congrArg Value.bool (bifF c64).symm)⟩
   rintro f63 ⟨k65, k66, k67⟩
   refine FD.val rfl rfl rfl (fun w' hw' => (E.move k67)) ?_
   obtain ⟨t80, hqt80, hp⟩ := bnd hp
   refine FD.cut 10 (fun f => f 47 = Value.bool t80) ?_ ?_
   ·
    clear hp; have hp := hqt80; clear hqt80
    rcases ifB hp with ⟨c86, hp⟩ | ⟨c86, hp⟩
    ·
     refine FD.val (wF_yes rfl rfl rfl c86) rfl rfl (fun w' hw' => (E.fieldAddr tf30_1 k65)) ?_
     refine FD.val (wF_yes rfl rfl rfl c86) rfl rfl (fun w' hw' => (E.load rfl (run_load1 Tryz.isAgg22 ((at28.mono i48).now (S54.call hw').sl) rfl))) ?_
     refine FD.val (wF_yes rfl rfl rfl c86) rfl rfl (fun w' hw' => (E.fieldAddr tf94_2 k66)) ?_
     refine FD.val (wF_yes rfl rfl rfl c86) rfl rfl (fun w' hw' => (E.load rfl (run_load1 Tryz.isAgg3 (at49.now (S54.call hw').sl) rfl))) ?_
     obtain ⟨x93, hx94, hp⟩ := bnd hp
     obtain ⟨p87, cs88, pt89, l90, at91, rel92⟩ := p0_1.at hx94
     obtain ⟨v95, rfl, h96⟩ := eL_open rel92
     refine FD.val (wF_yes rfl rfl rfl c86) rfl rfl (fun w' hw' => (E.indexAddr te22 rfl rfl pt89)) ?_
     refine FD.val (wF_yes rfl rfl rfl c86) rfl rfl (fun w' hw' => (E.load rfl (run_load0 Tryz.isAgg84 ((at91.mono (i27.tr i48)).now (S54.call hw').sl) rfl))) ?_
     refine FD.val (wF_yes rfl rfl rfl c86) rfl rfl (fun w' hw' => (E.fieldAddr tf94_0 k66)) ?_
     refine FD.val (wF_yes rfl rfl rfl c86) rfl rfl (fun w' hw' => (E.load rfl (run_load1 Tryz.isAgg84 (at49.now (S54.call hw').sl) rfl))) ?_
     obtain ⟨r97, hr98, hp⟩ := bnd hp
     refine FD.call (wF_yes rfl rfl rfl c86) rfl rfl (fun w' hw' => (E.call Tryz.call53 (A2 rfl rfl))) (fun w' hw' => Calls.cls hw' (w_slices_Equal_int_int (S54.call hw').sl v95 x93 (h96.mono (i27.tr i48)) v37 x35.clause (h38.mono (i27.tr i48)) hr98)) ?_
     obtain rfl := Option.some.inj hp
     refine FD.val rfl rfl rfl (fun w' hw' => (E.pickT rfl c86 rfl)) ?_
     exact FD.nil rfl
    ·
     refine FD.skip (wF_no rfl rfl rfl c86) rfl ?_
     refine FD.skip (wF_no rfl rfl rfl c86) rfl ?_
     refine FD.skip (wF_no rfl rfl rfl c86) rfl ?_
     refine FD.skip (wF_no rfl rfl rfl c86) rfl ?_
     refine FD.skip (wF_no rfl rfl rfl c86) rfl ?_
     refine FD.skip (wF_no rfl rfl rfl c86) rfl ?_
     refine FD.skip (wF_no rfl rfl rfl c86) rfl ?_
     refine FD.skip (wF_no rfl rfl rfl c86) rfl ?_
     refine FD.skip (wF_no rfl rfl rfl c86) rfl ?_
     obtain rfl := Option.some.inj hp
     refine FD.val rfl rfl rfl (fun w' hw' => (E.pickF rfl c86 rfl)) ?_
     exact FD.nil rfl
   intro f85 k99
   refine FD.val rfl rfl rfl (fun w' hw' => (E.assign k99)) ?_
   refine FD.nil ?_
   intro w100 r102
   have S101 := S54.call r102
   refine FW.ret ?_
   obtain rfl := Option.some.inj hp
   exact ⟨.inr rfl, res1 rfl rfl ⟨rfl, S101.back⟩⟩
  ·
   refine FW.condF rfl c56 ?_
   refine FW.skip (FW.seq (FW.region ?_))
   refine FL.v (E.load rfl (run_loadA Tryz.isAgg30 Tryz.sizeOf30 ((at28.mono i48).now S54.sl) rfl)) ?_
   refine FL.v (E.move (v := v1) rfl) ?_
   refine FL.v (E.move (v := Value.int .i64 a2) rfl) ?_
   refine FL.v (E.fieldAddr tf94_1 rfl) ?_
   refine FL.v (E.load rfl (run_load1 Tryz.isAgg3 (at49.now S54.sl) rfl)) ?_
   obtain ⟨r103, hr104, hp⟩ := bnd hp
   refine FL.call rfl rfl rfl (E.call Tryz.call231 (A4 rfl rfl rfl rfl)) (w_impl_earlier S54.sl a0 v0_1 (p0_1.mono (i27.tr i48)) v1 a1 (p1.mono (i27.tr i48)) a2 x35.left hr104) ?_
   rintro e w106 ⟨H105, v109, rfl, r108, h110⟩
   refine ⟨_, rfl, ?_⟩
   have S107 := S54.call r108
   refine FL.v (E.move (v := Value.tuple #[v109, Value.bool r103.2]) rfl) ?_
   refine FL.v (E.extract (i := 0) rfl rfl) ?_
   refine FL.v (E.extract (i := 1) rfl rfl) ?_
   refine FL.v (E.assign (v := v109) rfl) ?_
   refine FL.v (E.assign (v := Value.bool r103.2) rfl) ?_
   refine FL.nil (FW.seq (FW.seq (FW.region ?_)))
   refine FL.v (E.move (v := Value.bool r103.2) rfl) ?_
   refine FL.v (E.not rfl) ?_
   refine FL.nil ?_
   rcases ifB hp with ⟨c111, hp⟩ | ⟨c111, hp⟩
   ·
    refine FW.condT rfl c111 ?_
    refine FW.seq (FW.region ?_)
    refine FL.v (E.assign (v := Value.bool false) rfl) ?_
    refine FL.nil ?_
    refine FW.ret ?_
    obtain rfl := Option.some.inj hp
    exact ⟨.inr rfl, res1 rfl rfl ⟨rfl, S107.back⟩⟩
   ·
    refine FW.condF rfl c111 ?_
    refine FW.skip (FW.seq (FW.seq (FW.region ?_)))
    refine FL.v (E.fieldAddr tf94_2 rfl) ?_
    refine FL.v (E.load rfl (run_load1 Tryz.isAgg3 ((at49.mono r108.inc).now S107.sl) rfl)) ?_
    refine FL.v (E.eql rfl rfl) ?_
    refine FL.nil ?_
    rcases ifB hp with ⟨c112, hp⟩ | ⟨c112, hp⟩
    ·
     refine FW.condT rfl c112 ?_
     refine FW.seq (FW.region ?_)
     refine FL.v (E.fieldAddr tf94_3 rfl) ?_
     refine FL.v (E.load rfl (run_load1 Tryz.isAgg3 ((at49.mono r108.inc).now S107.sl) rfl)) ?_
     refine FL.v (E.eql rfl rfl) ?_
     refine FL.v (E.move (v := Value.bool (x35.pivot == 0)) rfl) ?_
     obtain ⟨t118, hqt118, hp⟩ := bnd hp
     refine FL.cut 5 (fun f w => ∃ H : GH, St Ha wa H w [] ∧ Inc H105 H ∧ f 70 = Value.bool t118) ?_ ?_
     ·
      clear hp; have hp := hqt118; clear hqt118
      rcases ifB hp with ⟨c124, hp⟩ | ⟨c124, hp⟩
      ·
       refine FL.val (wF_yes rfl rfl rfl c124) rfl rfl (E.move (v := v109) rfl) ?_
       refine FL.val (wF_yes rfl rfl rfl c124) rfl rfl (E.fieldAddr tf94_0 rfl) ?_
       refine FL.val (wF_yes rfl rfl rfl c124) rfl rfl (E.load rfl (run_load1 Tryz.isAgg84 ((at49.mono r108.inc).now S107.sl) rfl)) ?_
       obtain ⟨r125, hr126, hp⟩ := bnd hp
       refine FL.call (wF_yes rfl rfl rfl c124) rfl rfl (E.call Tryz.call232 (A2 rfl rfl)) (w_impl_part S107.sl v109 r103.1 h110 v37 x35.clause (h38.mono ((i27.tr i48).tr r108.inc)) hr126) ?_
       rintro e w127 ⟨rfl, r128⟩
       refine ⟨_, rfl, ?_⟩
       have S129 := S107.call r128
       obtain rfl := Option.some.inj hp
       refine FL.v (E.pickT rfl c124 rfl) ?_
       exact FL.nil ⟨rfl, _, S129, (Inc.rfl _), rfl⟩
      ·
       refine FL.skip (wF_no rfl rfl rfl c124) rfl ?_
       refine FL.skip (wF_no rfl rfl rfl c124) rfl ?_
       refine FL.skip (wF_no rfl rfl rfl c124) rfl ?_
       refine FL.skip (wF_no rfl rfl rfl c124) rfl ?_
       obtain rfl := Option.some.inj hp
       refine FL.v (E.pickF rfl c124 rfl) ?_
       exact FL.nil ⟨rfl, _, S107, (Inc.rfl _), rfl⟩
     rintro f123 w122 ⟨H119, S120, i121, k130⟩
     refine FL.v (E.assign k130) ?_
     refine FL.nil ?_
     refine FW.ret ?_
     obtain rfl := Option.some.inj hp
     exact ⟨.inr rfl, res1 rfl rfl ⟨rfl, S120.back⟩⟩
    ·
     refine FW.condF rfl c112 ?_
     refine FW.skip (FW.seq (FW.region ?_))
     refine FL.v (E.load rfl (run_loadA Tryz.isAgg30 Tryz.sizeOf30 ((at28.mono (i48.tr r108.inc)).now S107.sl) rfl)) ?_
     refine FL.v (E.move (v := v1) rfl) ?_
     refine FL.v (E.move (v := Value.int .i64 a2) rfl) ?_
     refine FL.v (E.fieldAddr tf94_2 rfl) ?_
     refine FL.v (E.load rfl (run_load1 Tryz.isAgg3 ((at49.mono r108.inc).now S107.sl) rfl)) ?_
     obtain ⟨r131, hr132, hp⟩ := bnd hp
     refine FL.call rfl rfl rfl (E.call Tryz.call231 (A4 rfl rfl rfl rfl)) (w_impl_earlier S107.sl a0 v0_1 (p0_1.mono ((i27.tr i48).tr r108.inc)) v1 a1 (p1.mono ((i27.tr i48).tr r108.inc)) a2 x35.right hr132) ?_
     rintro e w134 ⟨H133, v137, rfl, r136, h138⟩
     refine ⟨_, rfl, ?_⟩
     have S135 := S107.call r136
     refine FL.v (E.move (v := Value.tuple #[v137, Value.bool r131.2]) rfl) ?_
     refine FL.v (E.extract (i := 0) rfl rfl) ?_
     refine FL.v (E.extract (i := 1) rfl rfl) ?_
     refine FL.v (E.assign (v := v137) rfl) ?_
     refine FL.v (E.assign (v := Value.bool r131.2) rfl) ?_
     refine FL.nil (FW.seq (FW.seq (FW.region ?_)))
     refine FL.v (E.move (v := Value.bool r131.2) rfl) ?_
     refine FL.v (E.not rfl) ?_
     refine FL.v (E.move (v := Value.bool (!r131.2)) rfl) ?_
     refine FL.cut 7 (fun f w => ∃ H : GH, St Ha wa H w [] ∧ Inc H133 H ∧ f 7 = Value.pointer (some ⟨b39, 0, none⟩) ∧ f 8 = v109 ∧ f 10 = v137 ∧ f 89 = Value.bool (bif (!r131.2) then true else (!(PF.impl_isVar a0.vars x35.pivot)))) ?_ ?_
     ·
      rcases bcase (!r131.2) with c148 | c148
      ·
       refine FL.skip (wF_no rfl rfl rfl c148) rfl ?_
       refine FL.skip (wF_no rfl rfl rfl c148) rfl ?_
       refine FL.skip (wF_no rfl rfl rfl c148) rfl ?_
       refine FL.skip (wF_no rfl rfl rfl c148) rfl ?_
       refine FL.skip (wF_no rfl rfl rfl c148) rfl ?_
       refine FL.skip (wF_no rfl rfl rfl c148) rfl ?_
       refine FL.v (E.pickT rfl c148 rfl) ?_
       exact FL.nil ⟨rfl, _, S135, (Inc.rfl _), rfl, rfl, rfl, (congrArg Value.bool (bifT c148).symm)⟩
      ·
       refine FL.val (wF_yes rfl rfl rfl c148) rfl rfl (E.fieldAddr tf30_0 rfl) ?_
       refine FL.val (wF_yes rfl rfl rfl c148) rfl rfl (E.load rfl (run_load1 Tryz.isAgg3 ((at28.mono ((i48.tr r108.inc).tr r136.inc)).now S135.sl) rfl)) ?_
       refine FL.val (wF_yes rfl rfl rfl c148) rfl rfl (E.fieldAddr tf94_3 rfl) ?_
       refine FL.val (wF_yes rfl rfl rfl c148) rfl rfl (E.load rfl (run_load1 Tryz.isAgg3 ((at49.mono (r108.inc.tr r136.inc)).now S135.sl) rfl)) ?_
       refine FL.call (wF_yes rfl rfl rfl c148) rfl rfl (E.call Tryz.call202 (A2 rfl rfl)) (w_impl_isVar S135.sl a0.vars x35.pivot) ?_
       rintro e w149 ⟨rfl, r150⟩
       refine ⟨_, rfl, ?_⟩
       have S151 := S135.call r150
       refine FL.val (wF_yes rfl rfl rfl c148) rfl rfl (E.not rfl) ?_
       refine FL.v (E.pickF rfl c148 rfl) ?_
       exact FL.nil ⟨rfl, _, S151, (Inc.rfl _), rfl, rfl, rfl, (congrArg Value.bool (bifF c148).symm)⟩
     rintro f147 w146 ⟨H143, S144, i145, k152, k153, k154, k155⟩
     refine FL.nil ?_
     rcases ifB hp with ⟨c156, hp⟩ | ⟨c156, hp⟩
     ·
      refine FW.condT k155 c156 ?_
      refine FW.seq (FW.region ?_)
      refine FL.v (E.assign (v := Value.bool false) rfl) ?_
      refine FL.nil ?_
      refine FW.ret ?_
      obtain rfl := Option.some.inj hp
      exact ⟨.inr rfl, res1 rfl rfl ⟨rfl, S144.back⟩⟩
     ·
      refine FW.condF k155 c156 ?_
      refine FW.skip (FW.seq (FW.region ?_))
      refine FL.v (E.move k153) ?_
      refine FL.v (E.move k154) ?_
      refine FL.v (E.fieldAddr tf94_3 k152) ?_
      refine FL.v (E.load rfl (run_load1 Tryz.isAgg3 ((at49.mono ((r108.inc.tr r136.inc).tr i145)).now S144.sl) rfl)) ?_
      obtain ⟨r157, hr158, hp⟩ := bnd hp
      refine FL.call rfl rfl rfl (E.call Tryz.call179 (A3 rfl rfl rfl)) (w_impl_resolve S144.sl v109 r103.1 (h110.mono (r136.inc.tr i145)) v137 r131.1 (h138.mono i145) x35.pivot hr158) ?_
      rintro e w160 ⟨H159, v163, n164, cs165, rfl, r162, els166⟩
      refine ⟨_, rfl, ?_⟩
      have els166 := els166.mono (up_le S144.size)
      have S161 := S144.join (l' := [.row 3 1 v163 n164 cs165]) r162 rfl
      refine FL.v (E.move (v := Value.tuple #[v163, Value.bool r157.2]) rfl) ?_
      refine FL.v (E.extract (i := 0) rfl rfl) ?_
      refine FL.v (E.extract (i := 1) rfl rfl) ?_
      refine FL.v (E.assign (v := v163) rfl) ?_
      refine FL.v (E.assign (v := Value.bool r157.2) rfl) ?_
      refine FL.nil (FW.seq (FW.region ?_))
      refine FL.v (E.move (v := Value.bool r157.2) rfl) ?_
      refine FL.v (E.move (v := Value.bool r157.2) rfl) ?_
      obtain ⟨t177, hqt177, hp⟩ := bnd hp
      refine FL.cut 5 (fun f w => ∃ H : GH, St Ha wa H w [.row 3 1 v163 n164 cs165] ∧ Inc H159 H ∧ f 104 = Value.bool t177) ?_ ?_
      ·
       clear hp; have hp := hqt177; clear hqt177
       rcases ifB hp with ⟨c183, hp⟩ | ⟨c183, hp⟩
       ·
        refine FL.val (wF_yes rfl rfl rfl c183) rfl rfl (E.move (v := v163) rfl) ?_
        refine FL.val (wF_yes rfl rfl rfl c183) rfl rfl (E.fieldAddr tf94_0 k152) ?_
        refine FL.val (wF_yes rfl rfl rfl c183) rfl rfl (E.load rfl (run_load1 Tryz.isAgg84 ((at49.mono (((r108.inc.tr r136.inc).tr i145).tr r162.run.inc)).now S161.sl) rfl)) ?_
        obtain ⟨H184, S185, i186, h187, nv188⟩ := S161.sealRowU (i := 0) (l' := []) rfl els166 (by decide) rfl
        obtain ⟨r189, hr190, hp⟩ := bnd hp
        refine FL.call (wF_yes rfl rfl rfl c183) rfl rfl (E.call Tryz.call53 (A2 rfl rfl)) (w_slices_Equal_int_int S185.sl v163 r157.1 (h187.mono upI) v37 x35.clause (h38.mono ((((((i27.tr i48).tr r108.inc).tr r136.inc).tr i145).tr r162.run.inc).tr i186)) hr190) ?_
        rintro e w191 ⟨rfl, r192⟩
        refine ⟨_, rfl, ?_⟩
        have r192 := Run.lend i186 S161.sl r192
        have S193 := S161.call r192
        obtain rfl := Option.some.inj hp
        refine FL.v (E.pickT rfl c183 rfl) ?_
        exact FL.nil ⟨rfl, _, S193, (Inc.rfl _), rfl⟩
       ·
        refine FL.skip (wF_no rfl rfl rfl c183) rfl ?_
        refine FL.skip (wF_no rfl rfl rfl c183) rfl ?_
        refine FL.skip (wF_no rfl rfl rfl c183) rfl ?_
        refine FL.skip (wF_no rfl rfl rfl c183) rfl ?_
        obtain rfl := Option.some.inj hp
        refine FL.v (E.pickF rfl c183 rfl) ?_
        exact FL.nil ⟨rfl, _, S161, (Inc.rfl _), rfl⟩
      rintro f182 w181 ⟨H178, S179, i180, k194⟩
      refine FL.v (E.assign k194) ?_
      refine FL.nil ?_
      refine FW.ret ?_
      obtain rfl := Option.some.inj hp
      exact ⟨.inr rfl, res1 rfl rfl ⟨rfl, S179.back⟩⟩

theorem w_impl_firstWrong {Ha : GH} {wa : World} (hs : Sl Ha wa) (a0 : Cnf) (v0_1 : Value) (p0_1 : RSl Ha (eL eI 1) 1 v0_1 a0.clauses) (v1 : Value) (a1 : List ResStep) (p1 : RSl Ha eResStep 4 v1 a1) {r : Int} (hp : (PF.impl_firstWrong a0 a1) = some r) :
  Calls Tryz.prog 170 #[Value.agg #[Value.int .i64 a0.vars, v0_1], v1] wa (Sc Ha wa (Value.int .i64 r)) := by
 unfold PF.impl_firstWrong at hp
 have S0 := St.init hs
 refine calls_go (N := 18) (args := [Value.agg #[Value.int .i64 a0.vars, v0_1], v1]) Tryz.func170 rfl rfl rfl ?_
 refine FW.seq (FW.region ?_)
 obtain ⟨b21, w22, run23, S24⟩ := S0.box (P := Tryz.prog) 30 [Value.int .i64 a0.vars, v0_1] (v := Value.agg #[Value.int .i64 a0.vars, v0_1]) rfl (ones_cons rfl (ones_cons p0_1.one ones_nil))
 refine FL.v (E.box rfl run23) ?_
 obtain ⟨H25, S26, i27, at28⟩ := S24.sealBox (i := 0) (l' := []) rfl rfl
 refine FL.v (E.assign (v := Value.int .i64 0) rfl) ?_
 refine FL.nil (FW.seq (FW.seq (FW.region ?_)))
 refine FL.v (E.move (v := v1) rfl) ?_
 refine FL.v (E.lenP te46 rfl p1) ?_
 refine FL.v (E.move (v := Value.int .i64 0) rfl) ?_
 refine FL.nil ?_
 obtain ⟨q30, hq, hp⟩ := bndR hp
 refine FW.block ?_
 refine FW.mono (FW.forL (S := Unit) (X := Int) (fun (i30 : Nat) (s30 : Unit) f w => ∃ H : GH, St Ha wa H w [] ∧ Inc H25 H ∧ f 8 = Value.int .i64 ((i30 : Nat) : Int) ∧ f 1 = v1 ∧ f 2 = Value.pointer (some ⟨b21, 0, none⟩) ∧ f 7 = Value.int .i64 (len a1)) (fun q e f w => match q with | .go s30 => e = Exit.exit 0 ∧ (∃ H : GH, St Ha wa H w [] ∧ Inc H25 H) | .rt x => ((e = Exit.ret) ∧ (fun e f w => (e = Exit.normal ∨ e = Exit.ret) ∧ ∀ a, Fr (δ := []) 18 a f → ∃ v, (results Tryz.f170 a.tmps).run Tryz.prog w = .ok v w ∧ (Sc Ha wa (Value.int .i64 x)) (.returned v) w) e f w)) hq ⟨_, S26, (Inc.rfl _), rfl, rfl, rfl, rfl⟩ ?_ ?_) ?_
 ·
  clear hp hq
  rintro i30 y29 s30 f50 w49 ⟨H46, S47, i48, k51, k52, k53, k54⟩ hx30 o61 hp
  refine FW.seq (FW.region ?_)
  refine FL.v (E.lssT k51 k54 (lss_len hx30)) ?_
  refine FL.nil (FW.seq ?_)
  refine FW.condT rfl rfl ?_
  refine FW.skip (FW.seq (FW.block (FW.seq (FW.region ?_))))
  refine FL.v (E.move k51) ?_
  refine FL.v (E.assign (v := Value.int .i64 ((i30 : Nat) : Int)) rfl) ?_
  refine FL.nil (FW.seq (FW.region ?_))
  refine FL.v (E.load k53 (run_loadA Tryz.isAgg30 Tryz.sizeOf30 ((at28.mono i48).now S47.sl) rfl)) ?_
  refine FL.v (E.move k52) ?_
  refine FL.v (E.move (v := Value.int .i64 ((i30 : Nat) : Int)) rfl) ?_
  obtain ⟨r55, hr56, hp⟩ := bnd hp
  refine FL.call rfl rfl rfl (E.call Tryz.call213 (A3 rfl rfl rfl)) (w_impl_correct S47.sl a0 v0_1 (p0_1.mono (i27.tr i48)) v1 a1 (p1.mono (i27.tr i48)) ((i30 : Nat) : Int) hr56) ?_
  rintro e w57 ⟨rfl, r58⟩
  refine ⟨_, rfl, ?_⟩
  have S59 := S47.call r58
  refine FL.v (E.not rfl) ?_
  refine FL.nil ?_
  rcases ifB hp with ⟨c60, hp⟩ | ⟨c60, hp⟩
  ·
   refine FW.condT rfl c60 ?_
   refine FW.seq (FW.region ?_)
   refine FL.v (E.move (v := Value.int .i64 ((i30 : Nat) : Int)) rfl) ?_
   refine FL.v (E.assign (v := Value.int .i64 ((i30 : Nat) : Int)) rfl) ?_
   refine FL.nil ?_
   refine FW.ret ?_
   obtain rfl := Option.some.inj hp
   exact ⟨nofun, rfl, ⟨.inr rfl, res1 rfl rfl ⟨rfl, S59.back⟩⟩⟩
  ·
   refine FW.condF rfl c60 ?_
   refine FW.skip (FW.region ?_)
   refine FL.v (E.add k51 rfl) ?_
   refine FL.v (E.move (v := Value.int .i64 (wr (((i30 : Nat) : Int) + 1))) rfl) ?_
   refine FL.nil ?_
   obtain rfl := Option.some.inj hp
   exact ⟨rfl, ⟨_, S59, i48, (nat_succ rfl (lt_of_get hx30) (p1.mono (i27.tr i48)).le), k52, k53, k54⟩⟩
 ·
  clear hp hq
  rintro s30 f71 w70 ⟨H67, S68, i69, k72, k73, k74, k75⟩
  refine FW.seq (FW.region ?_)
  refine FL.v (E.lss k72 k75) ?_
  refine FL.nil (FW.seq ?_)
  refine FW.condF rfl dlt_len ?_
  refine FW.exit ?_
  exact ⟨nofun, rfl, ⟨_, S68, i69⟩⟩
 ·
  clear hq
  intro e f66 w65 hD
  rcases q30 with s30 | x30
  ·
   obtain ⟨rfl, hD⟩ := hD
   obtain ⟨H62, S63, i64⟩ := hD
   replace hp := el_go hp
   refine FW.seq (FW.region ?_)
   refine FL.v (E.assign (v := Value.int .i64 (-1)) rfl) ?_
   refine FL.nil ?_
   refine FW.ret ?_
   obtain rfl := Option.some.inj hp
   exact ⟨.inr rfl, res1 rfl rfl ⟨rfl, S63.back⟩⟩
  ·
   obtain ⟨he, hL⟩ := hD
   replace hp := el_rt hp
   obtain rfl := Option.some.inj hp
   subst he
   exact hL

theorem w_impl_IsDerivation {Ha : GH} {wa : World} (hs : Sl Ha wa) (a0 : Cnf) (v0_1 : Value) (p0_1 : RSl Ha (eL eI 1) 1 v0_1 a0.clauses) (v1 : Value) (a1 : List ResStep) (p1 : RSl Ha eResStep 4 v1 a1) {r : Bool} (hp : (PF.impl_IsDerivation a0 a1) = some r) :
  Calls Tryz.prog 110 #[Value.agg #[Value.int .i64 a0.vars, v0_1], v1] wa (Sc Ha wa (Value.bool r)) := by
 unfold PF.impl_IsDerivation at hp
 have S0 := St.init hs
 refine calls_go (N := 18) (args := [Value.agg #[Value.int .i64 a0.vars, v0_1], v1]) Tryz.func110 rfl rfl rfl ?_
 refine FW.seq (FW.region ?_)
 obtain ⟨b21, w22, run23, S24⟩ := S0.box (P := Tryz.prog) 30 [Value.int .i64 a0.vars, v0_1] (v := Value.agg #[Value.int .i64 a0.vars, v0_1]) rfl (ones_cons rfl (ones_cons p0_1.one ones_nil))
 refine FL.v (E.box rfl run23) ?_
 obtain ⟨H25, S26, i27, at28⟩ := S24.sealBox (i := 0) (l' := []) rfl rfl
 refine FL.v (E.assign (v := Value.bool false) rfl) ?_
 refine FL.nil (FW.seq (FW.region ?_))
 refine FL.v (E.load rfl (run_loadA Tryz.isAgg30 Tryz.sizeOf30 (at28.now S26.sl) rfl)) ?_
 obtain ⟨r29, hr30, hp⟩ := bnd hp
 refine FL.call rfl rfl rfl (E.call Tryz.call95 (A1 rfl)) (w_impl_IsCnf S26.sl a0 v0_1 (p0_1.mono i27) hr30) ?_
 rintro e w31 ⟨rfl, r32⟩
 refine ⟨_, rfl, ?_⟩
 have S33 := S26.call r32
 refine FL.v (E.move (v := Value.bool r29) rfl) ?_
 refine FL.cut 4 (fun f w => ∃ H : GH, St Ha wa H w [] ∧ Inc H25 H ∧ f 1 = v1 ∧ f 2 = Value.pointer (some ⟨b21, 0, none⟩) ∧ f 11 = Value.bool (bif r29 then (decide ((len a1) ≤ 200)) else false)) ?_ ?_
 ·
  rcases bcase r29 with c40 | c40
  ·
   refine FL.val (wF_yes rfl rfl rfl c40) rfl rfl (E.move (v := v1) rfl) ?_
   refine FL.val (wF_yes rfl rfl rfl c40) rfl rfl (E.lenP te46 rfl p1) ?_
   refine FL.val (wF_yes rfl rfl rfl c40) rfl rfl (E.leq rfl rfl) ?_
   refine FL.v (E.pickT rfl c40 rfl) ?_
   exact FL.nil ⟨rfl, _, S33, (Inc.rfl _), rfl, rfl, (congrArg Value.bool (bifT c40).symm)⟩
  ·
   refine FL.skip (wF_no rfl rfl rfl c40) rfl ?_
   refine FL.skip (wF_no rfl rfl rfl c40) rfl ?_
   refine FL.skip (wF_no rfl rfl rfl c40) rfl ?_
   refine FL.v (E.pickF rfl c40 rfl) ?_
   exact FL.nil ⟨rfl, _, S33, (Inc.rfl _), rfl, rfl, (congrArg Value.bool (bifF c40).symm)⟩
 rintro f39 w38 ⟨H35, S36, i37, k41, k42, k43⟩
 refine FL.v (E.move k43) ?_
 obtain ⟨t49, hqt49, hp⟩ := bnd hp
 refine FL.cut 5 (fun f w => ∃ H : GH, St Ha wa H w [] ∧ Inc H35 H ∧ f 17 = Value.bool t49) ?_ ?_
 ·
  clear hp; have hp := hqt49; clear hqt49
  rcases ifB hp with ⟨c55, hp⟩ | ⟨c55, hp⟩
  ·
   refine FL.val (wF_yes rfl rfl rfl c55) rfl rfl (E.load k42 (run_loadA Tryz.isAgg30 Tryz.sizeOf30 ((at28.mono i37).now S36.sl) rfl)) ?_
   refine FL.val (wF_yes rfl rfl rfl c55) rfl rfl (E.move k41) ?_
   obtain ⟨r56, hr57, hp⟩ := bnd hp
   refine FL.call (wF_yes rfl rfl rfl c55) rfl rfl (E.call Tryz.call170 (A2 rfl rfl)) (w_impl_firstWrong S36.sl a0 v0_1 (p0_1.mono (i27.tr i37)) v1 a1 (p1.mono (i27.tr i37)) hr57) ?_
   rintro e w58 ⟨rfl, r59⟩
   refine ⟨_, rfl, ?_⟩
   have S60 := S36.call r59
   refine FL.val (wF_yes rfl rfl rfl c55) rfl rfl (E.lss rfl rfl) ?_
   obtain rfl := Option.some.inj hp
   refine FL.v (E.pickT rfl c55 rfl) ?_
   exact FL.nil ⟨rfl, _, S60, (Inc.rfl _), rfl⟩
  ·
   refine FL.skip (wF_no rfl rfl rfl c55) rfl ?_
   refine FL.skip (wF_no rfl rfl rfl c55) rfl ?_
   refine FL.skip (wF_no rfl rfl rfl c55) rfl ?_
   refine FL.skip (wF_no rfl rfl rfl c55) rfl ?_
   obtain rfl := Option.some.inj hp
   refine FL.v (E.pickF rfl c55 rfl) ?_
   exact FL.nil ⟨rfl, _, S36, (Inc.rfl _), rfl⟩
 rintro f54 w53 ⟨H50, S51, i52, k61⟩
 refine FL.v (E.assign k61) ?_
 refine FL.nil ?_
 refine FW.ret ?_
 obtain rfl := Option.some.inj hp
 exact ⟨.inr rfl, res1 rfl rfl ⟨rfl, S51.back⟩⟩

@[reducible] def p_impl_last_impl_ResStep (Ha : GH) (wa : World) (r : ResStep) : Ending → World → Prop :=
 fun e w' => ∃ H' : GH, ∃ v0_0 : Value, e = .returned (Value.agg #[v0_0, Value.int .i64 r.left, Value.int .i64 r.right, Value.int .i64 r.pivot]) ∧ Run wa.heap.size Ha wa H' w' ∧ RSl H' eI 1 v0_0 r.clause
theorem w_impl_last_impl_ResStep {Ha : GH} {wa : World} (hs : Sl Ha wa) (v0 : Value) (a0 : List ResStep) (p0 : RSl Ha eResStep 4 v0 a0) {r : ResStep} (hp : (PF.impl_last_impl_ResStep a0) = some r) :
  Calls Tryz.prog 125 #[v0] wa (p_impl_last_impl_ResStep Ha wa r) := by
 unfold PF.impl_last_impl_ResStep at hp
 have S0 := St.init hs
 refine calls_go (N := 9) (args := [v0]) Tryz.func125 rfl rfl rfl ?_
 refine FW.seq (FW.region ?_)
 obtain ⟨b21, w22, run23, S24⟩ := S0.alloc (P := Tryz.prog) 94 [Value.slice none 0 0, Value.int .i64 0, Value.int .i64 0, Value.int .i64 0] Tryz.zeroValue94 rfl (ones_cons rfl (ones_cons rfl (ones_cons rfl (ones_cons rfl ones_nil))))
 refine FL.v (E.alloc run23) ?_
 refine FL.nil (FW.seq (FW.region ?_))
 refine FL.v (E.move (v := v0) rfl) ?_
 refine FL.v (E.move (v := v0) rfl) ?_
 refine FL.v (E.lenP te46 rfl p0) ?_
 refine FL.v (E.sub rfl rfl) ?_
 obtain ⟨x31, hx32, hp⟩ := bnd hp
 obtain ⟨p25, cs26, pt27, l28, at29, rel30⟩ := p0.at hx32
 obtain ⟨v33, rfl, h34⟩ := eResStep_open rel30
 refine FL.v (E.indexAddr te46 rfl rfl pt27) ?_
 refine FL.v (E.load rfl (run_loadA Tryz.isAgg94 Tryz.sizeOf94 (at29.now S24.sl) rfl)) ?_
 obtain ⟨w35, run36, S37⟩ := S24.store0 (P := Tryz.prog) (t := 94) (i := 0) (cs' := [v33, Value.int .i64 x31.left, Value.int .i64 x31.right, Value.int .i64 x31.pivot]) (l' := [.box b21 94 [v33, Value.int .i64 x31.left, Value.int .i64 x31.right, Value.int .i64 x31.pivot]]) (v := Value.agg #[v33, Value.int .i64 x31.left, Value.int .i64 x31.right, Value.int .i64 x31.pivot]) (c := [v33, Value.int .i64 x31.left, Value.int .i64 x31.right, Value.int .i64 x31.pivot]) rfl Tryz.sizeOf94 rfl rfl (ones_cons h34.one (ones_cons rfl (ones_cons rfl (ones_cons rfl ones_nil)))) (Nat.le_of_ble_eq_true rfl) rfl rfl
 refine FL.act rfl rfl (E.store rfl rfl run36) ?_
 obtain ⟨H38, S39, i40, at41⟩ := S37.sealBox (i := 0) (l' := []) rfl rfl
 refine FL.nil ?_
 refine FW.ret ?_
 obtain rfl := Option.some.inj hp
 exact ⟨.inr rfl, resC rfl rfl (loadVar_A Tryz.isAgg94 Tryz.sizeOf94 (at41.now S39.sl) rfl) ⟨_, _, rfl, S39.run, (h34.mono i40)⟩⟩

theorem w_impl_IsRefutation {Ha : GH} {wa : World} (hs : Sl Ha wa) (a0 : Cnf) (v0_1 : Value) (p0_1 : RSl Ha (eL eI 1) 1 v0_1 a0.clauses) (v1 : Value) (a1 : List ResStep) (p1 : RSl Ha eResStep 4 v1 a1) {r : Bool} (hp : (PF.impl_IsRefutation a0 a1) = some r) :
  Calls Tryz.prog 74 #[Value.agg #[Value.int .i64 a0.vars, v0_1], v1] wa (Sc Ha wa (Value.bool r)) := by
 unfold PF.impl_IsRefutation at hp
 have S0 := St.init hs
 refine calls_go (N := 20) (args := [Value.agg #[Value.int .i64 a0.vars, v0_1], v1]) Tryz.func74 rfl rfl rfl ?_
 refine FW.seq (FW.region ?_)
 obtain ⟨b21, w22, run23, S24⟩ := S0.box (P := Tryz.prog) 30 [Value.int .i64 a0.vars, v0_1] (v := Value.agg #[Value.int .i64 a0.vars, v0_1]) rfl (ones_cons rfl (ones_cons p0_1.one ones_nil))
 refine FL.v (E.box rfl run23) ?_
 obtain ⟨H25, S26, i27, at28⟩ := S24.sealBox (i := 0) (l' := []) rfl rfl
 refine FL.v (E.assign (v := Value.bool false) rfl) ?_
 refine FL.nil (FW.seq (FW.region ?_))
 refine FL.v (E.load rfl (run_loadA Tryz.isAgg30 Tryz.sizeOf30 (at28.now S26.sl) rfl)) ?_
 refine FL.v (E.move (v := v1) rfl) ?_
 obtain ⟨r29, hr30, hp⟩ := bnd hp
 refine FL.call rfl rfl rfl (E.call Tryz.call110 (A2 rfl rfl)) (w_impl_IsDerivation S26.sl a0 v0_1 (p0_1.mono i27) v1 a1 (p1.mono i27) hr30) ?_
 rintro e w31 ⟨rfl, r32⟩
 refine ⟨_, rfl, ?_⟩
 have S33 := S26.call r32
 refine FL.v (E.move (v := Value.bool r29) rfl) ?_
 refine FL.cut 4 (fun f w => ∃ H : GH, St Ha wa H w [] ∧ Inc H25 H ∧ f 1 = v1 ∧ f 12 = Value.bool (bif r29 then (decide (0 < (len a1))) else false)) ?_ ?_
 ·
  rcases bcase r29 with c40 | c40
  ·
   refine FL.val (wF_yes rfl rfl rfl c40) rfl rfl (E.move (v := v1) rfl) ?_
   refine FL.val (wF_yes rfl rfl rfl c40) rfl rfl (E.lenP te46 rfl p1) ?_
   refine FL.val (wF_yes rfl rfl rfl c40) rfl rfl (E.gtr rfl rfl) ?_
   refine FL.v (E.pickT rfl c40 rfl) ?_
   exact FL.nil ⟨rfl, _, S33, (Inc.rfl _), rfl, (congrArg Value.bool (bifT c40).symm)⟩
  ·
   refine FL.skip (wF_no rfl rfl rfl c40) rfl ?_
   refine FL.skip (wF_no rfl rfl rfl c40) rfl ?_
   refine FL.skip (wF_no rfl rfl rfl c40) rfl ?_
   refine FL.v (E.pickF rfl c40 rfl) ?_
   exact FL.nil ⟨rfl, _, S33, (Inc.rfl _), rfl, (congrArg Value.bool (bifF c40).symm)⟩
 rintro f39 w38 ⟨H35, S36, i37, k41, k42⟩
 refine FL.v (E.move k42) ?_
 obtain ⟨t51, hqt51, hp⟩ := bnd hp
 refine FL.cut 6 (fun f w => ∃ H : GH, St Ha wa H w [] ∧ Inc H35 H ∧ f 19 = Value.bool t51) ?_ ?_
 ·
  clear hp; have hp := hqt51; clear hqt51
  rcases ifB hp with ⟨c57, hp⟩ | ⟨c57, hp⟩
  ·
   refine FL.val (wF_yes rfl rfl rfl c57) rfl rfl (E.move k41) ?_
   obtain ⟨r58, hr59, hp⟩ := bnd hp
   refine FL.call (wF_yes rfl rfl rfl c57) rfl rfl (E.call Tryz.call125 (A1 rfl)) (w_impl_last_impl_ResStep S36.sl v1 a1 (p1.mono (i27.tr i37)) hr59) ?_
   rintro e w61 ⟨H60, v64, rfl, r63, h65⟩
   refine ⟨_, rfl, ?_⟩
   have S62 := S36.call r63
   refine FL.val (wF_yes rfl rfl rfl c57) rfl rfl (E.field (fd94_0 rfl) rfl) ?_
   refine FL.val (wF_yes rfl rfl rfl c57) rfl rfl (E.lenP te84 rfl h65) ?_
   refine FL.val (wF_yes rfl rfl rfl c57) rfl rfl (E.eql rfl rfl) ?_
   obtain rfl := Option.some.inj hp
   refine FL.v (E.pickT rfl c57 rfl) ?_
   exact FL.nil ⟨rfl, _, S62, r63.inc, rfl⟩
  ·
   refine FL.skip (wF_no rfl rfl rfl c57) rfl ?_
   refine FL.skip (wF_no rfl rfl rfl c57) rfl ?_
   refine FL.skip (wF_no rfl rfl rfl c57) rfl ?_
   refine FL.skip (wF_no rfl rfl rfl c57) rfl ?_
   refine FL.skip (wF_no rfl rfl rfl c57) rfl ?_
   obtain rfl := Option.some.inj hp
   refine FL.v (E.pickF rfl c57 rfl) ?_
   exact FL.nil ⟨rfl, _, S36, (Inc.rfl _), rfl⟩
 rintro f56 w55 ⟨H52, S53, i54, k66⟩
 refine FL.v (E.assign k66) ?_
 refine FL.nil ?_
 refine FW.ret ?_
 obtain rfl := Option.some.inj hp
 exact ⟨.inr rfl, res1 rfl rfl ⟨rfl, S53.back⟩⟩

theorem w_impl_ResStep_isAxiom {Ha : GH} {wa : World} (hs : Sl Ha wa) (a0 : ResStep) (v0_0 : Value) (p0_0 : RSl Ha eI 1 v0_0 a0.clause) :
  Calls Tryz.prog 126 #[Value.agg #[v0_0, Value.int .i64 a0.left, Value.int .i64 a0.right, Value.int .i64 a0.pivot]] wa (Sc Ha wa (Value.bool (PF.impl_ResStep_isAxiom a0))) := by
 obtain ⟨r, hp⟩ : ∃ r, (PF.impl_ResStep_isAxiom a0) = r := ⟨_, rfl⟩
 rw [hp]
 unfold PF.impl_ResStep_isAxiom at hp
 have S0 := St.init hs
 refine calls_go (N := 6) (args := [Value.agg #[v0_0, Value.int .i64 a0.left, Value.int .i64 a0.right, Value.int .i64 a0.pivot]]) Tryz.func126 rfl rfl rfl ?_
 refine FW.seq (FW.region ?_)
 obtain ⟨b21, w22, run23, S24⟩ := S0.box (P := Tryz.prog) 94 [v0_0, Value.int .i64 a0.left, Value.int .i64 a0.right, Value.int .i64 a0.pivot] (v := Value.agg #[v0_0, Value.int .i64 a0.left, Value.int .i64 a0.right, Value.int .i64 a0.pivot]) rfl (ones_cons p0_0.one (ones_cons rfl (ones_cons rfl (ones_cons rfl ones_nil))))
 refine FL.v (E.box rfl run23) ?_
 obtain ⟨H25, S26, i27, at28⟩ := S24.sealBox (i := 0) (l' := []) rfl rfl
 refine FL.v (E.assign (v := Value.bool false) rfl) ?_
 refine FL.nil (FW.seq (FW.region ?_))
 refine FL.v (E.fieldAddr tf94_1 rfl) ?_
 refine FL.v (E.load rfl (run_load1 Tryz.isAgg3 (at28.now S26.sl) rfl)) ?_
 refine FL.v (E.lss rfl rfl) ?_
 refine FL.v (E.assign (v := Value.bool (decide (a0.left < 0))) rfl) ?_
 refine FL.nil ?_
 refine FW.ret ?_
 obtain rfl := hp
 exact ⟨.inr rfl, res1 rfl rfl ⟨rfl, S26.back⟩⟩

@[reducible] def p_impl_grower_add (H0 : GH) (w0 : World) (Ha : GH) (L : List MO) (b0 : Nat) (r : (Bool × grower)) : Ending → World → Prop :=
 fun e w' => ∃ H' : GH, ∃ v0_1r : Value, ∃ v0_2r : Value, ∃ n0_2r : Nat, ∃ c0_2r : List Value, e = .returned (Value.bool r.1) ∧ (St H0 w0 H' w' (.box b0 116 [Value.int .i64 r.2.f.vars, v0_1r, v0_2r, Value.nilFunc] :: .row 98 4 v0_2r n0_2r c0_2r :: L) ∧ Inc Ha H') ∧ RSl H' (eL eI 1) 1 v0_1r r.2.f.clauses ∧ Els (up w0.heap.size H') eTreeNode 4 c0_2r r.2.nodes
theorem w_impl_grower_add {H0 Ha : GH} {w0 wa : World} {L : List MO} {a0 : grower} {b0 : Nat} {v0_1 : Value} {v0_2 : Value} {n0_2 : Nat} {k0_2 : List Value} (S0 : St H0 w0 Ha wa (.box b0 116 [Value.int .i64 a0.f.vars, v0_1, v0_2, Value.nilFunc] :: .row 98 4 v0_2 n0_2 k0_2 :: L)) (p0_1 : RSl Ha (eL eI 1) 1 v0_1 a0.f.clauses) (p0_2 : Els (up w0.heap.size Ha) eTreeNode 4 k0_2 a0.nodes) (a1 : TreeNode) {r : (Bool × grower)} (hp : (PF.impl_grower_add a0 a1) = some r) :
  Calls Tryz.prog 127 #[Value.pointer (some (⟨b0, 0, none⟩ : Addr)), Value.agg #[Value.int .i64 a1.var, Value.int .i64 a1.low, Value.int .i64 a1.high, Value.int .i64 a1.clause]] wa (p_impl_grower_add H0 w0 Ha L b0 r) := by
 unfold PF.impl_grower_add at hp
 refine calls_go (N := 21) (args := [Value.pointer (some (⟨b0, 0, none⟩ : Addr)), Value.agg #[Value.int .i64 a1.var, Value.int .i64 a1.low, Value.int .i64 a1.high, Value.int .i64 a1.clause]]) Tryz.func127 rfl rfl rfl ?_
 refine FW.seq (FW.region ?_)
 obtain ⟨b21, w22, run23, S24⟩ := S0.box (P := Tryz.prog) 98 [Value.int .i64 a1.var, Value.int .i64 a1.low, Value.int .i64 a1.high, Value.int .i64 a1.clause] (v := Value.agg #[Value.int .i64 a1.var, Value.int .i64 a1.low, Value.int .i64 a1.high, Value.int .i64 a1.clause]) rfl (ones_cons rfl (ones_cons rfl (ones_cons rfl (ones_cons rfl ones_nil))))
 refine FL.v (E.box rfl run23) ?_
 obtain ⟨H25, S26, i27, at28⟩ := S24.sealBox (i := 0) (l' := (.box b0 116 [Value.int .i64 a0.f.vars, v0_1, v0_2, Value.nilFunc] :: .row 98 4 v0_2 n0_2 k0_2 :: L)) rfl rfl
 refine FL.v (E.assign (v := Value.bool false) rfl) ?_
 refine FL.nil (FW.seq ?_)
 obtain ⟨xs37, hz38, hp⟩ := bnd hp
 refine FW.drawB (Sl H25) (fun f w => ∃ H : GH, ∃ v51 : Value, ∃ n52 : Nat, ∃ cs53 : List Value, ∃ v55 : Value, St H0 w0 H w (.box b0 116 [Value.int .i64 a0.f.vars, v55, v51, Value.nilFunc] :: .row 98 4 v51 n52 cs53 :: L) ∧ Inc H25 H ∧ Els (up w0.heap.size H) eTreeNode 4 cs53 xs37 ∧ RSl H (eL eI 1) 1 v55 a0.f.clauses ∧ f 0 = Value.pointer (some (⟨b0, 0, none⟩ : Addr))) (by kernel_rfl) S26.sl ?_ ?_
 ·
  intro w29 r30
  have S31 := S26.call r30
  refine FB.phase [10] (fun w => WAt w (Addr.add ⟨b0, 0, none⟩ 2) [v0_2]) ?_
  refine FB.t (i := 0) (bs 11 1) rfl (SP.on ((S31.box_now (i := 0) rfl).sub (j := 2) (n := 1) (c := [v0_2]) rfl) (SP.nil S31.sl)) rfl (fun w' hw' => (E.move (v := Value.pointer (some (⟨b0, 0, none⟩ : Addr))) rfl)) ?_
  refine FB.t (i := 1) (bs 11 3) rfl (SP.on ((S31.box_now (i := 0) rfl).sub (j := 2) (n := 1) (c := [v0_2]) rfl) (SP.nil S31.sl)) rfl (fun w' hw' => (E.move (v := Value.pointer (some (⟨b0, 0, none⟩ : Addr))) rfl)) ?_
  refine FB.t (i := 2) (bs 11 7) rfl (SP.on ((S31.box_now (i := 0) rfl).sub (j := 2) (n := 1) (c := [v0_2]) rfl) (SP.nil S31.sl)) rfl (fun w' hw' => (E.nilCheck rfl)) ?_
  refine FB.t (i := 3) (bs 11 15) rfl (SP.on ((S31.box_now (i := 0) rfl).sub (j := 2) (n := 1) (c := [v0_2]) rfl) (SP.nil S31.sl)) rfl (fun w' hw' => (E.fieldAddr tf116_1 rfl)) ?_
  refine FB.p (i := 4) (bs 11 31) 0 [7, 8, 9, 10] rfl (SP.on ((S31.box_now (i := 0) rfl).sub (j := 2) (n := 1) (c := [v0_2]) rfl) (SP.nil S31.sl)) rfl rfl (fun w' hw' => (E.load rfl (run_load0 Tryz.isAgg56 hw' rfl))) ?_
  refine FB.t (i := 5) (bs 11 63) rfl (SP.on ((S31.box_now (i := 0) rfl).sub (j := 2) (n := 1) (c := [v0_2]) rfl) (SP.nil S31.sl)) rfl (fun w' hw' => (E.load rfl (run_loadA Tryz.isAgg98 Tryz.sizeOf98 (at28.now hw') rfl))) ?_
  refine FB.all1 (i := 6) (by kernel_rfl) ?_
  ·
   obtain ⟨v32, w33, run34, S35⟩ := S31.buildSlice (P := Tryz.prog) te56 [Value.agg #[Value.int .i64 a1.var, Value.int .i64 a1.low, Value.int .i64 a1.high, Value.int .i64 a1.clause]] (parts := #[(0, Value.agg #[Value.int .i64 a1.var, Value.int .i64 a1.low, Value.int .i64 a1.high, Value.int .i64 a1.clause])]) (cells := [Value.int .i64 a1.var, Value.int .i64 a1.low, Value.int .i64 a1.high, Value.int .i64 a1.clause]) rfl (szs_cons rfl szs_nil) (fc_cons rfl fc_nil) (ones_cons rfl (ones_cons rfl (ones_cons rfl (ones_cons rfl ones_nil)))) (Nat.le_of_ble_eq_true rfl)
   have els36 : Els (up w0.heap.size H25) eTreeNode 4 [Value.int .i64 a1.var, Value.int .i64 a1.low, Value.int .i64 a1.high, Value.int .i64 a1.clause] [a1] := (Els.snoc (H := (up w0.heap.size H25)) (E := eTreeNode) (k := 4) (c := [Value.int .i64 a1.var, Value.int .i64 a1.low, Value.int .i64 a1.high, Value.int .i64 a1.clause]) (x := a1) Els.nil rfl rfl)
   refine FC.val (l' := (bs 11 127)) rfl (by kernel_rfl) rfl rfl rfl (E.buildSlice (B1 rfl) run34) ?_
   refine ⟨(SP.on ((S35.box_now (i := 1) rfl).sub (j := 2) (n := 1) (c := [v0_2]) rfl) (SP.nil S35.sl)), ?_⟩
   refine FB.all1 (i := 7) (by kernel_rfl) ?_
   ·
    obtain ⟨v39, w42, n40, cs41, run43, S44, els45, ce46⟩ := S35.appendO (P := Tryz.prog) te56 (i := 2) (j := 0) rfl (p0_2.mono (up_mono i27)) rfl els36 hz38
    have S44 : St H0 w0 H25 w42 (.row 98 4 v32 1 [Value.int .i64 a1.var, Value.int .i64 a1.low, Value.int .i64 a1.high, Value.int .i64 a1.clause] :: .box b0 116 [Value.int .i64 a0.f.vars, v0_1, v0_2, Value.nilFunc] :: .row 98 4 v39 n40 cs41 :: L) := S44
    have S47 : St H0 w0 H25 w42 (.box b0 116 [Value.int .i64 a0.f.vars, v0_1, v0_2, Value.nilFunc] :: .row 98 4 v39 n40 cs41 :: L) := S44.drop 0
    refine FC.val (l' := (bs 11 255)) rfl (by kernel_rfl) rfl rfl rfl (E.append rfl rfl run43) ?_
    refine ⟨(SP.on ((S47.box_now (i := 0) rfl).sub (j := 2) (n := 1) (c := [v0_2]) rfl) (SP.nil S47.sl)), ?_⟩
    refine FB.t (i := 8) (bs 11 511) rfl (SP.on ((S47.box_now (i := 0) rfl).sub (j := 2) (n := 1) (c := [v0_2]) rfl) (SP.nil S47.sl)) rfl (fun w' hw' => (E.nilCheck rfl)) ?_
    refine FB.t (i := 9) (bs 11 1023) rfl (SP.on ((S47.box_now (i := 0) rfl).sub (j := 2) (n := 1) (c := [v0_2]) rfl) (SP.nil S47.sl)) rfl (fun w' hw' => (E.fieldAddr tf116_1 rfl)) ?_
    refine FB.all1 (i := 10) (by kernel_rfl) ?_
    ·
     obtain ⟨w48, run49, S50⟩ := S47.store (P := Tryz.prog) (t := 56) (i := 0) (j := 2) (cs' := [Value.int .i64 a0.f.vars, v0_1, v39, Value.nilFunc]) (l' := (.box b0 116 [Value.int .i64 a0.f.vars, v0_1, v39, Value.nilFunc] :: .row 98 4 v39 n40 cs41 :: L)) (v := v39) (c := [v39]) rfl Tryz.sizeOf56 (Ln.cells (S47.row_ln (i := 1) rfl)) rfl (ones_cons (Ln.one (S47.row_ln (i := 1) rfl)) ones_nil) (Nat.le_of_ble_eq_true rfl) rfl rfl
     refine FC.act (l' := (bs 11 2047)) rfl (by kernel_rfl) rfl rfl (E.store rfl rfl run49) ?_
     refine ⟨(SP.o (SP.nil S50.sl)), ?_⟩
     exact FB.done (by kernel_rfl) ⟨_, _, _, _, _, S50, (Inc.rfl _), els45, (p0_1.mono i27), rfl⟩
 ·
  rintro f62 w61 ⟨H58, v51, n52, cs53, v55, S59, i60, els54, h57, k63⟩
  refine FW.seq (FW.region ?_)
  refine FL.v (E.move k63) ?_
  refine FL.v (E.nilCheck rfl) ?_
  refine FL.v (E.fieldAddr tf116_1 rfl) ?_
  refine FL.v (E.load rfl (run_load1 Tryz.isAgg56 (S59.box_now (i := 0) rfl) rfl)) ?_
  refine FL.v (E.lenO te56 rfl S59 (i := 1) rfl els54 (by decide)) ?_
  refine FL.v (E.leq rfl rfl) ?_
  refine FL.v (E.assign (v := Value.bool (decide ((len xs37) ≤ 199))) rfl) ?_
  refine FL.nil ?_
  refine FW.ret ?_
  obtain rfl := Option.some.inj hp
  exact ⟨.inr rfl, res1 rfl rfl ⟨_, _, _, _, _, rfl, ⟨S59, (i27.tr i60)⟩, h57, els54⟩⟩

theorem w_impl_ResStep_isWeakening {Ha : GH} {wa : World} (hs : Sl Ha wa) (a0 : ResStep) (v0_0 : Value) (p0_0 : RSl Ha eI 1 v0_0 a0.clause) :
  Calls Tryz.prog 128 #[Value.agg #[v0_0, Value.int .i64 a0.left, Value.int .i64 a0.right, Value.int .i64 a0.pivot]] wa (Sc Ha wa (Value.bool (PF.impl_ResStep_isWeakening a0))) := by
 obtain ⟨r, hp⟩ : ∃ r, (PF.impl_ResStep_isWeakening a0) = r := ⟨_, rfl⟩
 rw [hp]
 unfold PF.impl_ResStep_isWeakening at hp
 have S0 := St.init hs
 refine calls_go (N := 11) (args := [Value.agg #[v0_0, Value.int .i64 a0.left, Value.int .i64 a0.right, Value.int .i64 a0.pivot]]) Tryz.func128 rfl rfl rfl ?_
 refine FW.seq (FW.region ?_)
 obtain ⟨b21, w22, run23, S24⟩ := S0.box (P := Tryz.prog) 94 [v0_0, Value.int .i64 a0.left, Value.int .i64 a0.right, Value.int .i64 a0.pivot] (v := Value.agg #[v0_0, Value.int .i64 a0.left, Value.int .i64 a0.right, Value.int .i64 a0.pivot]) rfl (ones_cons p0_0.one (ones_cons rfl (ones_cons rfl (ones_cons rfl ones_nil))))
 refine FL.v (E.box rfl run23) ?_
 obtain ⟨H25, S26, i27, at28⟩ := S24.sealBox (i := 0) (l' := []) rfl rfl
 refine FL.v (E.assign (v := Value.bool false) rfl) ?_
 refine FL.nil (FW.seq (FW.region ?_))
 refine FL.v (E.fieldAddr tf94_1 rfl) ?_
 refine FL.v (E.load rfl (run_load1 Tryz.isAgg3 (at28.now S26.sl) rfl)) ?_
 refine FL.v (E.geq rfl rfl) ?_
 refine FL.v (E.move (v := Value.bool (decide (0 ≤ a0.left))) rfl) ?_
 refine FL.cut 4 (fun f w => ∃ H : GH, St Ha wa H w [] ∧ Inc H25 H ∧ f 10 = Value.bool (bif (decide (0 ≤ a0.left)) then (decide (a0.right < 0)) else false)) ?_ ?_
 ·
  rcases bcase (decide (0 ≤ a0.left)) with c35 | c35
  ·
   refine FL.val (wF_yes rfl rfl rfl c35) rfl rfl (E.fieldAddr tf94_2 rfl) ?_
   refine FL.val (wF_yes rfl rfl rfl c35) rfl rfl (E.load rfl (run_load1 Tryz.isAgg3 (at28.now S26.sl) rfl)) ?_
   refine FL.val (wF_yes rfl rfl rfl c35) rfl rfl (E.lss rfl rfl) ?_
   refine FL.v (E.pickT rfl c35 rfl) ?_
   exact FL.nil ⟨rfl, _, S26, (Inc.rfl _), (congrArg Value.bool (bifT c35).symm)⟩
  ·
   refine FL.skip (wF_no rfl rfl rfl c35) rfl ?_
   refine FL.skip (wF_no rfl rfl rfl c35) rfl ?_
   refine FL.skip (wF_no rfl rfl rfl c35) rfl ?_
   refine FL.v (E.pickF rfl c35 rfl) ?_
   exact FL.nil ⟨rfl, _, S26, (Inc.rfl _), (congrArg Value.bool (bifF c35).symm)⟩
 rintro f34 w33 ⟨H30, S31, i32, k36⟩
 refine FL.v (E.assign k36) ?_
 refine FL.nil ?_
 refine FW.ret ?_
 obtain rfl := hp
 exact ⟨.inr rfl, res1 rfl rfl ⟨rfl, S31.back⟩⟩

@[reducible] def p_impl_mustClause (Ha : GH) (wa : World) (r : (List Int)) : Ending → World → Prop :=
 fun e w' => ∃ H' : GH, ∃ v0 : Value, ∃ n0 : Nat, ∃ c0 : List Value, e = .returned (v0) ∧ St Ha wa H' w' [.row 3 1 v0 n0 c0] ∧ Els (up wa.heap.size H') eI 1 c0 r
theorem w_impl_mustClause {Ha : GH} {wa : World} (hs : Sl Ha wa) (v0 : Value) (a0 : List Int) (p0 : RSl Ha eI 1 v0 a0) {r : (List Int)} (hp : (PF.impl_mustClause a0) = some r) :
  Calls Tryz.prog 181 #[v0] wa (p_impl_mustClause Ha wa r) := by
 unfold PF.impl_mustClause at hp
 have S0 := St.init hs
 refine calls_go (N := 11) (args := [v0]) Tryz.func181 rfl rfl rfl ?_
 refine FW.seq (FW.region ?_)
 refine FL.v (E.assign (v := Value.slice none 0 0) rfl) ?_
 refine FL.nil (FW.seq (FW.region ?_))
 refine FL.v (E.move (v := v0) rfl) ?_
 obtain ⟨r21, hr22, hp⟩ := bnd hp
 refine FL.call rfl rfl rfl (E.call Tryz.call220 (A1 rfl)) (w_impl_clause S0.sl v0 a0 p0 hr22) ?_
 rintro e w24 ⟨H23, v27, n28, cs29, rfl, r26, els30⟩
 refine ⟨_, rfl, ?_⟩
 have els30 := els30.mono (up_le S0.size)
 have S25 := S0.join (l' := [.row 3 1 v27 n28 cs29]) r26 rfl
 refine FL.v (E.move (v := Value.tuple #[v27, Value.bool r21.2]) rfl) ?_
 refine FL.v (E.extract (i := 0) rfl rfl) ?_
 refine FL.v (E.extract (i := 1) rfl rfl) ?_
 refine FL.v (E.assign (v := v27) rfl) ?_
 refine FL.v (E.assign (v := Value.bool r21.2) rfl) ?_
 refine FL.nil (FW.seq (FW.region ?_))
 refine FL.v (E.move (v := v27) rfl) ?_
 refine FL.v (E.assign (v := v27) rfl) ?_
 refine FL.nil ?_
 refine FW.ret ?_
 obtain rfl := Option.some.inj hp
 exact ⟨.inr rfl, res1 rfl rfl ⟨_, _, _, _, rfl, S25, els30⟩⟩

@[reducible] def p_impl_set (Ha : GH) (wa : World) (r : (List Int)) : Ending → World → Prop :=
 fun e w' => ∃ H' : GH, ∃ v0 : Value, ∃ n0 : Nat, ∃ c0 : List Value, e = .returned (v0) ∧ St Ha wa H' w' [.row 3 1 v0 n0 c0] ∧ Els (up wa.heap.size H') eI 1 c0 r
theorem w_impl_set {Ha : GH} {wa : World} (hs : Sl Ha wa) (v0 : Value) (a0 : List Int) (p0 : RSl Ha eI 1 v0 a0) (a1 : Int) {r : (List Int)} (hp : (PF.impl_set a0 a1) = some r) :
  Calls Tryz.prog 130 #[v0, Value.int .i64 a1] wa (p_impl_set Ha wa r) := by
 unfold PF.impl_set at hp
 have S0 := St.init hs
 refine calls_go (N := 13) (args := [v0, Value.int .i64 a1]) Tryz.func130 rfl rfl rfl ?_
 refine FW.seq (FW.region ?_)
 refine FL.v (E.assign (v := Value.slice none 0 0) rfl) ?_
 refine FL.nil (FW.seq (FW.region ?_))
 refine FL.v (E.move (v := v0) rfl) ?_
 refine FL.v (E.move (v := Value.int .i64 a1) rfl) ?_
 refine FL.call rfl rfl rfl (E.call Tryz.call166 (A1 rfl)) (w_impl_abs S0.sl a1) ?_
 rintro e w21 ⟨rfl, r22⟩
 refine ⟨_, rfl, ?_⟩
 have S23 := S0.call r22
 obtain ⟨r24, hr25, hp⟩ := bnd hp
 refine FL.call rfl rfl rfl (E.call Tryz.call182 (A2 rfl rfl)) (w_impl_withoutVar S23.sl v0 a0 p0 (PF.impl_abs a1) hr25) ?_
 rintro e w27 ⟨H26, v30, n31, cs32, rfl, r29, els33⟩
 refine ⟨_, rfl, ?_⟩
 have els33 := els33.mono (up_le S23.size)
 have S28 := S23.join (l' := [.row 3 1 v30 n31 cs32]) r29 rfl
 refine FL.v (E.move (v := Value.int .i64 a1) rfl) ?_
 obtain ⟨v34, w35, run36, S37⟩ := S28.buildSlice (P := Tryz.prog) te84 [Value.int .i64 a1] (parts := #[(0, Value.int .i64 a1)]) (cells := [Value.int .i64 a1]) rfl (szs_cons rfl szs_nil) (fc_cons rfl fc_nil) (ones_cons rfl ones_nil) (Nat.le_of_ble_eq_true rfl)
 have els38 : Els (up wa.heap.size H26) eI 1 [Value.int .i64 a1] [a1] := (Els.snoc (H := (up wa.heap.size H26)) (E := eI) (k := 1) (c := [Value.int .i64 a1]) (x := a1) Els.nil rfl rfl)
 refine FL.v (E.buildSlice (B1 rfl) run36) ?_
 obtain ⟨xs39, hz40, hp⟩ := bnd hp
 obtain ⟨v41, w44, n42, cs43, run45, S46, els47, ce48⟩ := S37.appendO (P := Tryz.prog) te84 (i := 1) (j := 0) rfl els33 rfl els38 hz40
 have S46 : St Ha wa H26 w44 [.row 3 1 v34 1 [Value.int .i64 a1], .row 3 1 v41 n42 cs43] := S46
 have S49 : St Ha wa H26 w44 [.row 3 1 v41 n42 cs43] := S46.drop 0
 refine FL.v (E.append rfl rfl run45) ?_
 obtain ⟨H50, S51, i52, h53, nv54⟩ := S49.sealRowU (i := 0) (l' := []) rfl els47 (by decide) rfl
 obtain ⟨r55, hr56, hp⟩ := bnd hp
 refine FL.call rfl rfl rfl (E.call Tryz.call181 (A1 rfl)) (w_impl_mustClause S51.sl v41 xs39 (h53.mono upI) hr56) ?_
 rintro e w58 ⟨H57, v63, n64, cs65, rfl, r60, els66⟩
 refine ⟨_, rfl, ?_⟩
 obtain ⟨H61, r60, hU62⟩ := St.lendX i52 S49.sl r60
 have els66 := els66.mono (hU62.tr (up_le S49.size))
 have S59 := S49.join (l' := [.row 3 1 v63 n64 cs65, .row 3 1 v41 n42 cs43]) r60 rfl
 refine FL.v (E.assign (v := v63) rfl) ?_
 refine FL.nil ?_
 refine FW.ret ?_
 obtain rfl := Option.some.inj hp
 exact ⟨.inr rfl, res1 rfl rfl ⟨_, _, _, _, rfl, (S59.sel [0] (by decide) rfl), els66⟩⟩

@[reducible] def p_impl_grower_fromProof (H0 : GH) (w0 : World) (Ha : GH) (L : List MO) (b0 : Nat) (r : (Bool × grower)) : Ending → World → Prop :=
 fun e w' => ∃ H' : GH, ∃ v0_1r : Value, ∃ v0_2r : Value, ∃ n0_2r : Nat, ∃ c0_2r : List Value, e = .returned (Value.bool r.1) ∧ (St H0 w0 H' w' (.box b0 116 [Value.int .i64 r.2.f.vars, v0_1r, v0_2r, Value.nilFunc] :: .row 98 4 v0_2r n0_2r c0_2r :: L) ∧ Inc Ha H') ∧ RSl H' (eL eI 1) 1 v0_1r r.2.f.clauses ∧ Els (up w0.heap.size H') eTreeNode 4 c0_2r r.2.nodes
set_option maxHeartbeats 4000000 in
theorem w_impl_grower_fromProof_B {rec_impl_grower_fromProof : grower → (List ResStep) → Int → (List Int) → Option (Bool × grower)} (hrec_impl_grower_fromProof : ∀ {H0 Ha : GH} {w0 wa : World} {L : List MO} {a0 : grower} {b0 : Nat} {v0_1 : Value} {v0_2 : Value} {n0_2 : Nat} {k0_2 : List Value} (S0 : St H0 w0 Ha wa (.box b0 116 [Value.int .i64 a0.f.vars, v0_1, v0_2, Value.nilFunc] :: .row 98 4 v0_2 n0_2 k0_2 :: L)) (p0_1 : RSl Ha (eL eI 1) 1 v0_1 a0.f.clauses) (p0_2 : Els (up w0.heap.size Ha) eTreeNode 4 k0_2 a0.nodes) (v1 : Value) (a1 : List ResStep) (p1 : RSl Ha eResStep 4 v1 a1) (a2 : Int) (v3 : Value) (a3 : List Int) (p3 : RSl Ha eI 1 v3 a3) {r : (Bool × grower)} (hp : rec_impl_grower_fromProof a0 a1 a2 a3 = some r), Calls Tryz.prog 75 #[Value.pointer (some (⟨b0, 0, none⟩ : Addr)), v1, Value.int .i64 a2, v3] wa (p_impl_grower_fromProof H0 w0 Ha L b0 r)) {H0 Ha : GH} {w0 wa : World} {L : List MO} {a0 : grower} {b0 : Nat} {v0_1 : Value} {v0_2 : Value} {n0_2 : Nat} {k0_2 : List Value} (S0 : St H0 w0 Ha wa (.box b0 116 [Value.int .i64 a0.f.vars, v0_1, v0_2, Value.nilFunc] :: .row 98 4 v0_2 n0_2 k0_2 :: L)) (p0_1 : RSl Ha (eL eI 1) 1 v0_1 a0.f.clauses) (p0_2 : Els (up w0.heap.size Ha) eTreeNode 4 k0_2 a0.nodes) (v1 : Value) (a1 : List ResStep) (p1 : RSl Ha eResStep 4 v1 a1) (a2 : Int) (v3 : Value) (a3 : List Int) (p3 : RSl Ha eI 1 v3 a3) {r : (Bool × grower)} (hp : PF.impl_grower_fromProof_B rec_impl_grower_fromProof a0 a1 a2 a3 = some r) :
  Calls Tryz.prog 75 #[Value.pointer (some (⟨b0, 0, none⟩ : Addr)), v1, Value.int .i64 a2, v3] wa (p_impl_grower_fromProof H0 w0 Ha L b0 r) := by
 unfold PF.impl_grower_fromProof_B at hp
 refine calls_go (N := 94) (args := [Value.pointer (some (⟨b0, 0, none⟩ : Addr)), v1, Value.int .i64 a2, v3]) Tryz.func75 rfl rfl rfl ?_
 refine FW.seq (FW.region ?_)
 refine FL.v (E.assign (v := Value.bool false) rfl) ?_
 refine FL.nil (FW.seq (FW.region ?_))
 refine FL.v (E.move (v := v1) rfl) ?_
 refine FL.v (E.move (v := Value.int .i64 a2) rfl) ?_
 obtain ⟨x27, hx28, hp⟩ := bnd hp
 obtain ⟨p21, cs22, pt23, l24, at25, rel26⟩ := p1.at hx28
 obtain ⟨v29, rfl, h30⟩ := eResStep_open rel26
 refine FL.v (E.indexAddr te46 rfl rfl pt23) ?_
 refine FL.v (E.load rfl (run_loadA Tryz.isAgg94 Tryz.sizeOf94 (at25.now S0.sl) rfl)) ?_
 obtain ⟨b31, w32, run33, S34⟩ := S0.alloc (P := Tryz.prog) 94 [Value.slice none 0 0, Value.int .i64 0, Value.int .i64 0, Value.int .i64 0] Tryz.zeroValue94 rfl (ones_cons rfl (ones_cons rfl (ones_cons rfl (ones_cons rfl ones_nil))))
 refine FL.v (E.alloc run33) ?_
 obtain ⟨w35, run36, S37⟩ := S34.store0 (P := Tryz.prog) (t := 94) (i := 0) (cs' := [v29, Value.int .i64 x27.left, Value.int .i64 x27.right, Value.int .i64 x27.pivot]) (l' := (.box b31 94 [v29, Value.int .i64 x27.left, Value.int .i64 x27.right, Value.int .i64 x27.pivot] :: .box b0 116 [Value.int .i64 a0.f.vars, v0_1, v0_2, Value.nilFunc] :: .row 98 4 v0_2 n0_2 k0_2 :: L)) (v := Value.agg #[v29, Value.int .i64 x27.left, Value.int .i64 x27.right, Value.int .i64 x27.pivot]) (c := [v29, Value.int .i64 x27.left, Value.int .i64 x27.right, Value.int .i64 x27.pivot]) rfl Tryz.sizeOf94 rfl rfl (ones_cons h30.one (ones_cons rfl (ones_cons rfl (ones_cons rfl ones_nil)))) (Nat.le_of_ble_eq_true rfl) rfl rfl
 refine FL.act rfl rfl (E.store rfl rfl run36) ?_
 obtain ⟨H38, S39, i40, at41⟩ := S37.sealBox (i := 0) (l' := (.box b0 116 [Value.int .i64 a0.f.vars, v0_1, v0_2, Value.nilFunc] :: .row 98 4 v0_2 n0_2 k0_2 :: L)) rfl rfl
 refine FL.nil (FW.seq (FW.block (FW.seq (FW.region ?_))))
 refine FL.v (E.load rfl (run_loadA Tryz.isAgg94 Tryz.sizeOf94 (at41.now S39.sl) rfl)) ?_
 refine FL.call rfl rfl rfl (E.call Tryz.call126 (A1 rfl)) (w_impl_ResStep_isAxiom S39.sl x27 v29 (h30.mono i40)) ?_
 rintro e w42 ⟨rfl, r43⟩
 refine ⟨_, rfl, ?_⟩
 have S44 := S39.call r43
 refine FL.v (E.assign (v := Value.bool (PF.impl_ResStep_isAxiom x27)) rfl) ?_
 refine FL.nil ?_
 rcases ifB hp with ⟨c45, hp⟩ | ⟨c45, hp⟩
 ·
  refine FW.condT rfl c45 ?_
  refine FW.seq (FW.region ?_)
  refine FL.v (E.move (v := Value.pointer (some (⟨b0, 0, none⟩ : Addr))) rfl) ?_
  refine FL.v (E.fieldAddr tf94_2 rfl) ?_
  refine FL.v (E.load rfl (run_load1 Tryz.isAgg3 (at41.now S44.sl) rfl)) ?_
  refine FL.v (E.build (B1 rfl) (run_build _ 98 #[(3, Value.int .i64 x27.right)] #[Value.int .i64 0, Value.int .i64 0, Value.int .i64 0, Value.int .i64 x27.right] (by rfl))) ?_
  obtain ⟨r46, hr47, hp⟩ := bnd hp
  have S48 : St H0 w0 H38 w42 (.row 98 4 v0_2 n0_2 k0_2 :: .box b0 116 [Value.int .i64 a0.f.vars, v0_1, v0_2, Value.nilFunc] :: L) := S44.front 1 rfl rfl
  have S49 : St H0 w0 H38 w42 (.box b0 116 [Value.int .i64 a0.f.vars, v0_1, v0_2, Value.nilFunc] :: .row 98 4 v0_2 n0_2 k0_2 :: L) := S48.front 1 rfl rfl
  refine FL.call rfl rfl rfl (E.call Tryz.call127 (A2 rfl rfl)) (w_impl_grower_add (L := (L)) S49 (a0 := (grower.mk a0.f a0.nodes (fun _ => none))) (p0_1.mono i40) (p0_2.mono (up_mono i40)) (TreeNode.mk 0 0 0 x27.right) hr47) ?_
  rintro e w51 ⟨H50, v54, v56, n57, cs58, rfl, ⟨S52, i53⟩, h55, els59⟩
  refine ⟨_, rfl, ?_⟩
  have S52 : St H0 w0 H50 w51 (.box b0 116 [Value.int .i64 r46.2.f.vars, v54, v56, Value.nilFunc] :: .row 98 4 v56 n57 cs58 :: L) := S52
  refine FL.v (E.assign (v := Value.bool r46.1) rfl) ?_
  refine FL.nil ?_
  refine FW.ret ?_
  obtain rfl := Option.some.inj hp
  exact ⟨.inr rfl, res1 rfl rfl ⟨_, _, _, _, _, rfl, ⟨S52, (i40.tr i53)⟩, h55, els59⟩⟩
 ·
  refine FW.condF rfl c45 ?_
  refine FW.seq (FW.region ?_)
  refine FL.v (E.load rfl (run_loadA Tryz.isAgg94 Tryz.sizeOf94 (at41.now S44.sl) rfl)) ?_
  refine FL.call rfl rfl rfl (E.call Tryz.call128 (A1 rfl)) (w_impl_ResStep_isWeakening S44.sl x27 v29 (h30.mono i40)) ?_
  rintro e w60 ⟨rfl, r61⟩
  refine ⟨_, rfl, ?_⟩
  have S62 := S44.call r61
  refine FL.v (E.assign (v := Value.bool (PF.impl_ResStep_isWeakening x27)) rfl) ?_
  refine FL.nil ?_
  rcases ifB hp with ⟨c63, hp⟩ | ⟨c63, hp⟩
  ·
   refine FW.condT rfl c63 ?_
   refine FW.seq (FW.region ?_)
   refine FL.v (E.move (v := Value.pointer (some (⟨b0, 0, none⟩ : Addr))) rfl) ?_
   refine FL.v (E.move (v := v1) rfl) ?_
   refine FL.v (E.fieldAddr tf94_1 rfl) ?_
   refine FL.v (E.load rfl (run_load1 Tryz.isAgg3 (at41.now S62.sl) rfl)) ?_
   refine FL.v (E.move (v := v3) rfl) ?_
   obtain ⟨r64, hr65, hp⟩ := bnd hp
   have S66 : St H0 w0 H38 w60 (.row 98 4 v0_2 n0_2 k0_2 :: .box b0 116 [Value.int .i64 a0.f.vars, v0_1, v0_2, Value.nilFunc] :: L) := S62.front 1 rfl rfl
   have S67 : St H0 w0 H38 w60 (.box b0 116 [Value.int .i64 a0.f.vars, v0_1, v0_2, Value.nilFunc] :: .row 98 4 v0_2 n0_2 k0_2 :: L) := S66.front 1 rfl rfl
   refine FL.call rfl rfl rfl (E.call Tryz.call75 (A4 rfl rfl rfl rfl)) (hrec_impl_grower_fromProof (L := (L)) S67 (a0 := (grower.mk a0.f a0.nodes (fun _ => none))) (p0_1.mono i40) (p0_2.mono (up_mono i40)) v1 a1 (p1.mono i40) x27.left v3 a3 (p3.mono i40) hr65) ?_
   rintro e w69 ⟨H68, v72, v74, n75, cs76, rfl, ⟨S70, i71⟩, h73, els77⟩
   refine ⟨_, rfl, ?_⟩
   have S70 : St H0 w0 H68 w69 (.box b0 116 [Value.int .i64 r64.2.f.vars, v72, v74, Value.nilFunc] :: .row 98 4 v74 n75 cs76 :: L) := S70
   refine FL.v (E.assign (v := Value.bool r64.1) rfl) ?_
   refine FL.nil ?_
   refine FW.ret ?_
   obtain rfl := Option.some.inj hp
   exact ⟨.inr rfl, res1 rfl rfl ⟨_, _, _, _, _, rfl, ⟨S70, (i40.tr i71)⟩, h73, els77⟩⟩
  ·
   refine FW.condF rfl c63 ?_
   refine FW.seq (FW.region ?_)
   refine FL.v (E.move (v := v3) rfl) ?_
   refine FL.v (E.fieldAddr tf94_3 rfl) ?_
   refine FL.v (E.load rfl (run_load1 Tryz.isAgg3 (at41.now S62.sl) rfl)) ?_
   refine FL.v (E.neg rfl) ?_
   obtain ⟨r78, hr79, hp⟩ := bnd hp
   refine FL.call rfl rfl rfl (E.call Tryz.call129 (A2 rfl rfl)) (w_slices_Contains_int_int S62.sl v3 a3 (p3.mono i40) (wr (-x27.pivot)) hr79) ?_
   rintro e w80 ⟨rfl, r81⟩
   refine ⟨_, rfl, ?_⟩
   have S82 := S62.call r81
   refine FL.v (E.assign (v := Value.bool r78) rfl) ?_
   refine FL.nil ?_
   rcases ifB hp with ⟨c83, hp⟩ | ⟨c83, hp⟩
   ·
    refine FW.condT rfl c83 ?_
    refine FW.seq (FW.region ?_)
    refine FL.v (E.move (v := Value.pointer (some (⟨b0, 0, none⟩ : Addr))) rfl) ?_
    refine FL.v (E.move (v := v1) rfl) ?_
    refine FL.v (E.fieldAddr tf94_1 rfl) ?_
    refine FL.v (E.load rfl (run_load1 Tryz.isAgg3 (at41.now S82.sl) rfl)) ?_
    refine FL.v (E.move (v := v3) rfl) ?_
    obtain ⟨r84, hr85, hp⟩ := bnd hp
    have S86 : St H0 w0 H38 w80 (.row 98 4 v0_2 n0_2 k0_2 :: .box b0 116 [Value.int .i64 a0.f.vars, v0_1, v0_2, Value.nilFunc] :: L) := S82.front 1 rfl rfl
    have S87 : St H0 w0 H38 w80 (.box b0 116 [Value.int .i64 a0.f.vars, v0_1, v0_2, Value.nilFunc] :: .row 98 4 v0_2 n0_2 k0_2 :: L) := S86.front 1 rfl rfl
    refine FL.call rfl rfl rfl (E.call Tryz.call75 (A4 rfl rfl rfl rfl)) (hrec_impl_grower_fromProof (L := (L)) S87 (a0 := (grower.mk a0.f a0.nodes (fun _ => none))) (p0_1.mono i40) (p0_2.mono (up_mono i40)) v1 a1 (p1.mono i40) x27.left v3 a3 (p3.mono i40) hr85) ?_
    rintro e w89 ⟨H88, v92, v94, n95, cs96, rfl, ⟨S90, i91⟩, h93, els97⟩
    refine ⟨_, rfl, ?_⟩
    have S90 : St H0 w0 H88 w89 (.box b0 116 [Value.int .i64 r84.2.f.vars, v92, v94, Value.nilFunc] :: .row 98 4 v94 n95 cs96 :: L) := S90
    refine FL.v (E.assign (v := Value.bool r84.1) rfl) ?_
    refine FL.nil ?_
    refine FW.ret ?_
    obtain rfl := Option.some.inj hp
    exact ⟨.inr rfl, res1 rfl rfl ⟨_, _, _, _, _, rfl, ⟨S90, (i40.tr i91)⟩, h93, els97⟩⟩
   ·
    refine FW.condF rfl c83 ?_
    refine FW.seq (FW.region ?_)
    refine FL.v (E.move (v := v3) rfl) ?_
    refine FL.v (E.fieldAddr tf94_3 rfl) ?_
    refine FL.v (E.load rfl (run_load1 Tryz.isAgg3 (at41.now S82.sl) rfl)) ?_
    obtain ⟨r98, hr99, hp⟩ := bnd hp
    refine FL.call rfl rfl rfl (E.call Tryz.call129 (A2 rfl rfl)) (w_slices_Contains_int_int S82.sl v3 a3 (p3.mono i40) x27.pivot hr99) ?_
    rintro e w100 ⟨rfl, r101⟩
    refine ⟨_, rfl, ?_⟩
    have S102 := S82.call r101
    refine FL.v (E.assign (v := Value.bool r98) rfl) ?_
    refine FL.nil ?_
    rcases ifB hp with ⟨c103, hp⟩ | ⟨c103, hp⟩
    ·
     refine FW.condT rfl c103 ?_
     refine FW.seq (FW.region ?_)
     refine FL.v (E.move (v := Value.pointer (some (⟨b0, 0, none⟩ : Addr))) rfl) ?_
     refine FL.v (E.move (v := v1) rfl) ?_
     refine FL.v (E.fieldAddr tf94_2 rfl) ?_
     refine FL.v (E.load rfl (run_load1 Tryz.isAgg3 (at41.now S102.sl) rfl)) ?_
     refine FL.v (E.move (v := v3) rfl) ?_
     obtain ⟨r104, hr105, hp⟩ := bnd hp
     have S106 : St H0 w0 H38 w100 (.row 98 4 v0_2 n0_2 k0_2 :: .box b0 116 [Value.int .i64 a0.f.vars, v0_1, v0_2, Value.nilFunc] :: L) := S102.front 1 rfl rfl
     have S107 : St H0 w0 H38 w100 (.box b0 116 [Value.int .i64 a0.f.vars, v0_1, v0_2, Value.nilFunc] :: .row 98 4 v0_2 n0_2 k0_2 :: L) := S106.front 1 rfl rfl
     refine FL.call rfl rfl rfl (E.call Tryz.call75 (A4 rfl rfl rfl rfl)) (hrec_impl_grower_fromProof (L := (L)) S107 (a0 := (grower.mk a0.f a0.nodes (fun _ => none))) (p0_1.mono i40) (p0_2.mono (up_mono i40)) v1 a1 (p1.mono i40) x27.right v3 a3 (p3.mono i40) hr105) ?_
     rintro e w109 ⟨H108, v112, v114, n115, cs116, rfl, ⟨S110, i111⟩, h113, els117⟩
     refine ⟨_, rfl, ?_⟩
     have S110 : St H0 w0 H108 w109 (.box b0 116 [Value.int .i64 r104.2.f.vars, v112, v114, Value.nilFunc] :: .row 98 4 v114 n115 cs116 :: L) := S110
     refine FL.v (E.assign (v := Value.bool r104.1) rfl) ?_
     refine FL.nil ?_
     refine FW.ret ?_
     obtain rfl := Option.some.inj hp
     exact ⟨.inr rfl, res1 rfl rfl ⟨_, _, _, _, _, rfl, ⟨S110, (i40.tr i111)⟩, h113, els117⟩⟩
    ·
     refine FW.condF rfl c103 ?_
     refine FW.skip (FW.seq (FW.seq ?_))
     obtain ⟨r121, hr122, hp⟩ := bnd hp
     obtain ⟨r136, hr137, hp⟩ := bnd hp
     refine FW.drawB (Sl H38) (fun f w => ∃ H : GH, ∃ v150 : Value, ∃ n151 : Nat, ∃ cs152 : List Value, ∃ v154 : Value, St H0 w0 H w (.box b0 116 [Value.int .i64 r136.2.f.vars, v154, v150, Value.nilFunc] :: .row 98 4 v150 n151 cs152 :: L) ∧ Inc H38 H ∧ Els (up w0.heap.size H) eTreeNode 4 cs152 r136.2.nodes ∧ RSl H (eL eI 1) 1 v154 r136.2.f.clauses ∧ f 0 = Value.pointer (some (⟨b0, 0, none⟩ : Addr)) ∧ f 1 = v1 ∧ f 3 = v3 ∧ f 9 = Value.pointer (some ⟨b31, 0, none⟩) ∧ f 65 = Value.bool (!r136.1)) (by kernel_rfl) S102.sl ?_ ?_
     ·
      intro w118 r119
      have S120 := S102.call r119
      refine FB.t (i := 0) (bs 11 1) rfl (SP.nil S120.sl) rfl (fun w' hw' => (E.move (v := Value.pointer (some (⟨b0, 0, none⟩ : Addr))) rfl)) ?_
      refine FB.t (i := 1) (bs 11 3) rfl (SP.nil S120.sl) rfl (fun w' hw' => (E.move (v := v1) rfl)) ?_
      refine FB.t (i := 2) (bs 11 7) rfl (SP.nil S120.sl) rfl (fun w' hw' => (E.fieldAddr tf94_1 rfl)) ?_
      refine FB.t (i := 3) (bs 11 15) rfl (SP.nil S120.sl) rfl (fun w' hw' => (E.load rfl (run_load1 Tryz.isAgg3 (at41.now hw') rfl))) ?_
      refine FB.t (i := 4) (bs 11 31) rfl (SP.nil S120.sl) rfl (fun w' hw' => (E.move (v := v3) rfl)) ?_
      refine FB.t (i := 5) (bs 11 63) rfl (SP.nil S120.sl) rfl (fun w' hw' => (E.fieldAddr tf94_3 rfl)) ?_
      refine FB.t (i := 6) (bs 11 127) rfl (SP.nil S120.sl) rfl (fun w' hw' => (E.load rfl (run_load1 Tryz.isAgg3 (at41.now hw') rfl))) ?_
      refine FB.t (i := 7) (bs 11 255) rfl (SP.nil S120.sl) rfl (fun w' hw' => (E.neg rfl)) ?_
      refine FB.all1 (i := 8) (by kernel_rfl) ?_
      ·
       refine FC.call (l' := (bs 11 511)) rfl (by kernel_rfl) rfl rfl rfl (E.call Tryz.call130 (A2 rfl rfl)) (w_impl_set S120.sl v3 a3 (p3.mono i40) (wr (-x27.pivot)) hr122) ?_
       rintro e w124 ⟨H123, v127, n128, cs129, rfl, r126, els130⟩
       refine ⟨_, rfl, ?_⟩
       have els130 := els130.mono (up_le S120.size)
       have S125 := S120.join (l' := (.row 3 1 v127 n128 cs129 :: .box b0 116 [Value.int .i64 a0.f.vars, v0_1, v0_2, Value.nilFunc] :: .row 98 4 v0_2 n0_2 k0_2 :: L)) r126 rfl
       refine ⟨(SP.nil (Sl.of_inc r126.run.inc S125.sl)), ?_⟩
       refine FB.all1 (i := 9) (by kernel_rfl) ?_
       ·
        obtain ⟨H131, S132, i133, h134, nv135⟩ := S125.sealRowU (i := 0) (l' := (.box b0 116 [Value.int .i64 a0.f.vars, v0_1, v0_2, Value.nilFunc] :: .row 98 4 v0_2 n0_2 k0_2 :: L)) rfl els130 (by decide) rfl
        have S138 : St H0 w0 H131 w124 (.row 98 4 v0_2 n0_2 k0_2 :: .box b0 116 [Value.int .i64 a0.f.vars, v0_1, v0_2, Value.nilFunc] :: L) := S132.front 1 rfl rfl
        have S139 : St H0 w0 H131 w124 (.box b0 116 [Value.int .i64 a0.f.vars, v0_1, v0_2, Value.nilFunc] :: .row 98 4 v0_2 n0_2 k0_2 :: L) := S138.front 1 rfl rfl
        refine FC.call (l' := (bs 11 1023)) rfl (by kernel_rfl) rfl rfl rfl (E.call Tryz.call75 (A4 rfl rfl rfl rfl)) (hrec_impl_grower_fromProof (L := (L)) S139 (a0 := (grower.mk a0.f a0.nodes (fun _ => none))) (p0_1.mono ((i40.tr r126.run.inc).tr i133)) (p0_2.mono (up_mono ((i40.tr r126.run.inc).tr i133))) v1 a1 (p1.mono ((i40.tr r126.run.inc).tr i133)) x27.left v127 r121 (h134.mono upI) hr137) ?_
        rintro e w141 ⟨H140, v144, v146, n147, cs148, rfl, ⟨S142, i143⟩, h145, els149⟩
        refine ⟨_, rfl, ?_⟩
        have S142 : St H0 w0 H140 w141 (.box b0 116 [Value.int .i64 r136.2.f.vars, v144, v146, Value.nilFunc] :: .row 98 4 v146 n147 cs148 :: L) := S142
        refine ⟨(SP.nil (Sl.of_inc ((r126.run.inc.tr i133).tr i143) S142.sl)), ?_⟩
        refine FB.t (i := 10) (bs 11 2047) rfl (SP.nil (Sl.of_inc ((r126.run.inc.tr i133).tr i143) S142.sl)) rfl (fun w' hw' => (E.not rfl)) ?_
        exact FB.done (by kernel_rfl) ⟨_, _, _, _, _, S142, ((r126.run.inc.tr i133).tr i143), els149, h145, rfl, rfl, rfl, rfl, rfl⟩
     ·
      rintro f160 w159 ⟨H156, v150, n151, cs152, v154, S157, i158, els153, h155, k161, k162, k163, k164, k165⟩
      rcases ifB hp with ⟨c166, hp⟩ | ⟨c166, hp⟩
      ·
       refine FW.condT k165 c166 ?_
       refine FW.seq (FW.region ?_)
       refine FL.v (E.assign (v := Value.bool false) rfl) ?_
       refine FL.nil ?_
       refine FW.ret ?_
       obtain rfl := Option.some.inj hp
       exact ⟨.inr rfl, res1 rfl rfl ⟨_, _, _, _, _, rfl, ⟨S157, (i40.tr i158)⟩, h155, els153⟩⟩
      ·
       refine FW.condF k165 c166 ?_
       refine FW.skip (FW.seq (FW.region ?_))
       refine FL.v (E.move k161) ?_
       refine FL.v (E.nilCheck rfl) ?_
       refine FL.v (E.fieldAddr tf116_1 rfl) ?_
       refine FL.v (E.load rfl (run_load1 Tryz.isAgg56 (S157.box_now (i := 0) rfl) rfl)) ?_
       refine FL.v (E.lenO te56 rfl S157 (i := 1) rfl els153 (by decide)) ?_
       refine FL.v (E.sub rfl rfl) ?_
       refine FL.v (E.assign (v := Value.int .i64 (wr ((len r136.2.nodes) - 1))) rfl) ?_
       refine FL.nil (FW.seq (FW.seq ?_))
       obtain ⟨r170, hr171, hp⟩ := bnd hp
       obtain ⟨r185, hr186, hp⟩ := bnd hp
       refine FW.drawB (Sl H156) (fun f w => ∃ H : GH, ∃ v199 : Value, ∃ n200 : Nat, ∃ cs201 : List Value, ∃ v203 : Value, St H0 w0 H w (.box b0 116 [Value.int .i64 r185.2.f.vars, v203, v199, Value.nilFunc] :: .row 98 4 v199 n200 cs201 :: L) ∧ Inc H156 H ∧ Els (up w0.heap.size H) eTreeNode 4 cs201 r185.2.nodes ∧ RSl H (eL eI 1) 1 v203 r185.2.f.clauses ∧ f 0 = Value.pointer (some (⟨b0, 0, none⟩ : Addr)) ∧ f 9 = Value.pointer (some ⟨b31, 0, none⟩) ∧ f 10 = Value.int .i64 (wr ((len r136.2.nodes) - 1)) ∧ f 81 = Value.bool (!r185.1)) (by kernel_rfl) S157.sl ?_ ?_
       ·
        intro w167 r168
        have S169 := S157.call r168
        refine FB.t (i := 0) (bs 10 1) rfl (SP.nil S169.sl) rfl (fun w' hw' => (E.move k161)) ?_
        refine FB.t (i := 1) (bs 10 3) rfl (SP.nil S169.sl) rfl (fun w' hw' => (E.move k162)) ?_
        refine FB.t (i := 2) (bs 10 7) rfl (SP.nil S169.sl) rfl (fun w' hw' => (E.fieldAddr tf94_2 k164)) ?_
        refine FB.t (i := 3) (bs 10 15) rfl (SP.nil S169.sl) rfl (fun w' hw' => (E.load rfl (run_load1 Tryz.isAgg3 ((at41.mono i158).now hw') rfl))) ?_
        refine FB.t (i := 4) (bs 10 31) rfl (SP.nil S169.sl) rfl (fun w' hw' => (E.move k163)) ?_
        refine FB.t (i := 5) (bs 10 63) rfl (SP.nil S169.sl) rfl (fun w' hw' => (E.fieldAddr tf94_3 k164)) ?_
        refine FB.t (i := 6) (bs 10 127) rfl (SP.nil S169.sl) rfl (fun w' hw' => (E.load rfl (run_load1 Tryz.isAgg3 ((at41.mono i158).now hw') rfl))) ?_
        refine FB.all1 (i := 7) (by kernel_rfl) ?_
        ·
         refine FC.call (l' := (bs 10 255)) rfl (by kernel_rfl) rfl rfl rfl (E.call Tryz.call130 (A2 rfl rfl)) (w_impl_set S169.sl v3 a3 (p3.mono (i40.tr i158)) x27.pivot hr171) ?_
         rintro e w173 ⟨H172, v176, n177, cs178, rfl, r175, els179⟩
         refine ⟨_, rfl, ?_⟩
         have els179 := els179.mono (up_le S169.size)
         have S174 := S169.join (l' := (.row 3 1 v176 n177 cs178 :: .box b0 116 [Value.int .i64 r136.2.f.vars, v154, v150, Value.nilFunc] :: .row 98 4 v150 n151 cs152 :: L)) r175 rfl
         refine ⟨(SP.nil (Sl.of_inc r175.run.inc S174.sl)), ?_⟩
         refine FB.all1 (i := 8) (by kernel_rfl) ?_
         ·
          obtain ⟨H180, S181, i182, h183, nv184⟩ := S174.sealRowU (i := 0) (l' := (.box b0 116 [Value.int .i64 r136.2.f.vars, v154, v150, Value.nilFunc] :: .row 98 4 v150 n151 cs152 :: L)) rfl els179 (by decide) rfl
          have S187 : St H0 w0 H180 w173 (.row 98 4 v150 n151 cs152 :: .box b0 116 [Value.int .i64 r136.2.f.vars, v154, v150, Value.nilFunc] :: L) := S181.front 1 rfl rfl
          have S188 : St H0 w0 H180 w173 (.box b0 116 [Value.int .i64 r136.2.f.vars, v154, v150, Value.nilFunc] :: .row 98 4 v150 n151 cs152 :: L) := S187.front 1 rfl rfl
          refine FC.call (l' := (bs 10 511)) rfl (by kernel_rfl) rfl rfl rfl (E.call Tryz.call75 (A4 rfl rfl rfl rfl)) (hrec_impl_grower_fromProof (L := (L)) S188 (a0 := (grower.mk r136.2.f r136.2.nodes (fun _ => none))) (h155.mono (r175.run.inc.tr i182)) (els153.mono (up_mono (r175.run.inc.tr i182))) v1 a1 (p1.mono (((i40.tr i158).tr r175.run.inc).tr i182)) x27.right v176 r170 (h183.mono upI) hr186) ?_
          rintro e w190 ⟨H189, v193, v195, n196, cs197, rfl, ⟨S191, i192⟩, h194, els198⟩
          refine ⟨_, rfl, ?_⟩
          have S191 : St H0 w0 H189 w190 (.box b0 116 [Value.int .i64 r185.2.f.vars, v193, v195, Value.nilFunc] :: .row 98 4 v195 n196 cs197 :: L) := S191
          refine ⟨(SP.nil (Sl.of_inc ((r175.run.inc.tr i182).tr i192) S191.sl)), ?_⟩
          refine FB.t (i := 9) (bs 10 1023) rfl (SP.nil (Sl.of_inc ((r175.run.inc.tr i182).tr i192) S191.sl)) rfl (fun w' hw' => (E.not rfl)) ?_
          exact FB.done (by kernel_rfl) ⟨_, _, _, _, _, S191, ((r175.run.inc.tr i182).tr i192), els198, h194, k161, k164, rfl, rfl⟩
       ·
        rintro f209 w208 ⟨H205, v199, n200, cs201, v203, S206, i207, els202, h204, k210, k211, k212, k213⟩
        rcases ifB hp with ⟨c214, hp⟩ | ⟨c214, hp⟩
        ·
         refine FW.condT k213 c214 ?_
         refine FW.seq (FW.region ?_)
         refine FL.v (E.assign (v := Value.bool false) rfl) ?_
         refine FL.nil ?_
         refine FW.ret ?_
         obtain rfl := Option.some.inj hp
         exact ⟨.inr rfl, res1 rfl rfl ⟨_, _, _, _, _, rfl, ⟨S206, ((i40.tr i158).tr i207)⟩, h204, els202⟩⟩
        ·
         refine FW.condF k213 c214 ?_
         refine FW.skip (FW.seq ?_)
         obtain ⟨r218, hr219, hp⟩ := bnd hp
         refine FW.drawB (Sl H205) (fun f w => ∃ H : GH, ∃ v232 : Value, ∃ n233 : Nat, ∃ cs234 : List Value, ∃ v236 : Value, St H0 w0 H w (.box b0 116 [Value.int .i64 r218.2.f.vars, v236, v232, Value.nilFunc] :: .row 98 4 v232 n233 cs234 :: L) ∧ Inc H205 H ∧ Els (up w0.heap.size H) eTreeNode 4 cs234 r218.2.nodes ∧ RSl H (eL eI 1) 1 v236 r218.2.f.clauses ∧ f 8 = Value.bool r218.1) (by kernel_rfl) S206.sl ?_ ?_
         ·
          intro w215 r216
          have S217 := S206.call r216
          refine FB.phase [11] (fun w => WAt w (Addr.add ⟨b0, 0, none⟩ 2) [v199]) ?_
          refine FB.t (i := 0) (bs 13 1) rfl (SP.on ((S217.box_now (i := 0) rfl).sub (j := 2) (n := 1) (c := [v199]) rfl) (SP.nil S217.sl)) rfl (fun w' hw' => (E.move k210)) ?_
          refine FB.t (i := 1) (bs 13 3) rfl (SP.on ((S217.box_now (i := 0) rfl).sub (j := 2) (n := 1) (c := [v199]) rfl) (SP.nil S217.sl)) rfl (fun w' hw' => (E.fieldAddr tf94_3 k211)) ?_
          refine FB.t (i := 2) (bs 13 7) rfl (SP.on ((S217.box_now (i := 0) rfl).sub (j := 2) (n := 1) (c := [v199]) rfl) (SP.nil S217.sl)) rfl (fun w' hw' => (E.load rfl (run_load1 Tryz.isAgg3 ((at41.mono (i158.tr i207)).now hw') rfl))) ?_
          refine FB.t (i := 3) (bs 13 15) rfl (SP.on ((S217.box_now (i := 0) rfl).sub (j := 2) (n := 1) (c := [v199]) rfl) (SP.nil S217.sl)) rfl (fun w' hw' => (E.move k212)) ?_
          refine FB.t (i := 4) (bs 13 31) rfl (SP.on ((S217.box_now (i := 0) rfl).sub (j := 2) (n := 1) (c := [v199]) rfl) (SP.nil S217.sl)) rfl (fun w' hw' => (E.move k210)) ?_
          refine FB.t (i := 5) (bs 13 63) rfl (SP.on ((S217.box_now (i := 0) rfl).sub (j := 2) (n := 1) (c := [v199]) rfl) (SP.nil S217.sl)) rfl (fun w' hw' => (E.nilCheck rfl)) ?_
          refine FB.t (i := 6) (bs 13 127) rfl (SP.on ((S217.box_now (i := 0) rfl).sub (j := 2) (n := 1) (c := [v199]) rfl) (SP.nil S217.sl)) rfl (fun w' hw' => (E.fieldAddr tf116_1 rfl)) ?_
          refine FB.p (i := 7) (bs 13 255) 0 [8, 9, 10, 11, 12] rfl (SP.on ((S217.box_now (i := 0) rfl).sub (j := 2) (n := 1) (c := [v199]) rfl) (SP.nil S217.sl)) rfl rfl (fun w' hw' => (E.load rfl (run_load0 Tryz.isAgg56 hw' rfl))) ?_
          refine FB.t (i := 8) (bs 13 511) rfl (SP.on ((S217.box_now (i := 0) rfl).sub (j := 2) (n := 1) (c := [v199]) rfl) (SP.nil S217.sl)) rfl (fun w' hw' => (E.lenOW te56 rfl S217 (i := 1) rfl els202 (by decide))) ?_
          refine FB.t (i := 9) (bs 13 1023) rfl (SP.on ((S217.box_now (i := 0) rfl).sub (j := 2) (n := 1) (c := [v199]) rfl) (SP.nil S217.sl)) rfl (fun w' hw' => (E.sub rfl rfl)) ?_
          refine FB.t (i := 10) (bs 13 2047) rfl (SP.on ((S217.box_now (i := 0) rfl).sub (j := 2) (n := 1) (c := [v199]) rfl) (SP.nil S217.sl)) rfl (fun w' hw' => (E.build (B3 rfl rfl rfl) (run_build _ 98 #[(0, Value.int .i64 x27.pivot), (1, Value.int .i64 (wr ((len r136.2.nodes) - 1))), (2, Value.int .i64 (wr ((len r185.2.nodes) - 1)))] #[Value.int .i64 x27.pivot, Value.int .i64 (wr ((len r136.2.nodes) - 1)), Value.int .i64 (wr ((len r185.2.nodes) - 1)), Value.int .i64 0] (by rfl)))) ?_
          refine FB.all1 (i := 11) (by kernel_rfl) ?_
          ·
           have S220 : St H0 w0 H205 w215 (.row 98 4 v199 n200 cs201 :: .box b0 116 [Value.int .i64 r185.2.f.vars, v203, v199, Value.nilFunc] :: L) := S217.front 1 rfl rfl
           have S221 : St H0 w0 H205 w215 (.box b0 116 [Value.int .i64 r185.2.f.vars, v203, v199, Value.nilFunc] :: .row 98 4 v199 n200 cs201 :: L) := S220.front 1 rfl rfl
           refine FC.call (l' := (bs 13 4095)) rfl (by kernel_rfl) rfl rfl rfl (E.call Tryz.call127 (A2 rfl rfl)) (w_impl_grower_add (L := (L)) S221 (a0 := (grower.mk r185.2.f r185.2.nodes (fun _ => none))) h204 els202 (TreeNode.mk x27.pivot (wr ((len r136.2.nodes) - 1)) (wr ((len r185.2.nodes) - 1)) 0) hr219) ?_
           rintro e w223 ⟨H222, v226, v228, n229, cs230, rfl, ⟨S224, i225⟩, h227, els231⟩
           refine ⟨_, rfl, ?_⟩
           have S224 : St H0 w0 H222 w223 (.box b0 116 [Value.int .i64 r218.2.f.vars, v226, v228, Value.nilFunc] :: .row 98 4 v228 n229 cs230 :: L) := S224
           refine ⟨(SP.o (SP.nil (Sl.of_inc i225 S224.sl))), ?_⟩
           refine FB.t (i := 12) (bs 13 8191) rfl (SP.o (SP.nil (Sl.of_inc i225 S224.sl))) rfl (fun w' hw' => (E.assign (v := Value.bool r218.1) rfl)) ?_
           exact FB.done (by kernel_rfl) ⟨_, _, _, _, _, S224, i225, els231, h227, rfl⟩
         ·
          rintro f242 w241 ⟨H238, v232, n233, cs234, v236, S239, i240, els235, h237, k243⟩
          refine FW.ret ?_
          obtain rfl := Option.some.inj hp
          exact ⟨.inr rfl, res1 rfl k243 ⟨_, _, _, _, _, rfl, ⟨S239, (((i40.tr i158).tr i207).tr i240)⟩, h237, els235⟩⟩
theorem w_impl_grower_fromProof_F (n : Nat) : ∀ {H0 Ha : GH} {w0 wa : World} {L : List MO} {a0 : grower} {b0 : Nat} {v0_1 : Value} {v0_2 : Value} {n0_2 : Nat} {k0_2 : List Value} (S0 : St H0 w0 Ha wa (.box b0 116 [Value.int .i64 a0.f.vars, v0_1, v0_2, Value.nilFunc] :: .row 98 4 v0_2 n0_2 k0_2 :: L)) (p0_1 : RSl Ha (eL eI 1) 1 v0_1 a0.f.clauses) (p0_2 : Els (up w0.heap.size Ha) eTreeNode 4 k0_2 a0.nodes) (v1 : Value) (a1 : List ResStep) (p1 : RSl Ha eResStep 4 v1 a1) (a2 : Int) (v3 : Value) (a3 : List Int) (p3 : RSl Ha eI 1 v3 a3) {r : (Bool × grower)} (hp : PF.impl_grower_fromProof_F n a0 a1 a2 a3 = some r), Calls Tryz.prog 75 #[Value.pointer (some (⟨b0, 0, none⟩ : Addr)), v1, Value.int .i64 a2, v3] wa (p_impl_grower_fromProof H0 w0 Ha L b0 r) := by
 induction n with
 | zero => intros; rename_i hp; exact nomatch hp
 | succ n ih => exact w_impl_grower_fromProof_B (rec_impl_grower_fromProof := PF.impl_grower_fromProof_F n) ih
theorem w_impl_grower_fromProof {H0 Ha : GH} {w0 wa : World} {L : List MO} {a0 : grower} {b0 : Nat} {v0_1 : Value} {v0_2 : Value} {n0_2 : Nat} {k0_2 : List Value} (S0 : St H0 w0 Ha wa (.box b0 116 [Value.int .i64 a0.f.vars, v0_1, v0_2, Value.nilFunc] :: .row 98 4 v0_2 n0_2 k0_2 :: L)) (p0_1 : RSl Ha (eL eI 1) 1 v0_1 a0.f.clauses) (p0_2 : Els (up w0.heap.size Ha) eTreeNode 4 k0_2 a0.nodes) (v1 : Value) (a1 : List ResStep) (p1 : RSl Ha eResStep 4 v1 a1) (a2 : Int) (v3 : Value) (a3 : List Int) (p3 : RSl Ha eI 1 v3 a3) {r : (Bool × grower)} (hp : PF.impl_grower_fromProof a0 a1 a2 a3 = some r) :
  Calls Tryz.prog 75 #[Value.pointer (some (⟨b0, 0, none⟩ : Addr)), v1, Value.int .i64 a2, v3] wa (p_impl_grower_fromProof H0 w0 Ha L b0 r) := w_impl_grower_fromProof_F deep S0 p0_1 p0_2 v1 a1 p1 a2 v3 a3 p3 hp

@[reducible] def p_impl_ProofToTree (Ha : GH) (wa : World) (r : ((List TreeNode) × Bool)) : Ending → World → Prop :=
 fun e w' => ∃ H' : GH, ∃ v0 : Value, ∃ n0 : Nat, ∃ c0 : List Value, e = .returned (Value.tuple #[v0, Value.bool r.2]) ∧ St Ha wa H' w' [.row 98 4 v0 n0 c0] ∧ Els (up wa.heap.size H') eTreeNode 4 c0 r.1
theorem w_impl_ProofToTree {Ha : GH} {wa : World} (hs : Sl Ha wa) (a0 : Cnf) (v0_1 : Value) (p0_1 : RSl Ha (eL eI 1) 1 v0_1 a0.clauses) (v1 : Value) (a1 : List ResStep) (p1 : RSl Ha eResStep 4 v1 a1) {r : ((List TreeNode) × Bool)} (hp : (PF.impl_ProofToTree a0 a1) = some r) :
  Calls Tryz.prog 36 #[Value.agg #[Value.int .i64 a0.vars, v0_1], v1] wa (p_impl_ProofToTree Ha wa r) := by
 unfold PF.impl_ProofToTree at hp
 have S0 := St.init hs
 refine calls_go (N := 25) (args := [Value.agg #[Value.int .i64 a0.vars, v0_1], v1]) Tryz.func36 rfl rfl rfl ?_
 refine FW.seq (FW.region ?_)
 obtain ⟨b21, w22, run23, S24⟩ := S0.box (P := Tryz.prog) 30 [Value.int .i64 a0.vars, v0_1] (v := Value.agg #[Value.int .i64 a0.vars, v0_1]) rfl (ones_cons rfl (ones_cons p0_1.one ones_nil))
 refine FL.v (E.box rfl run23) ?_
 obtain ⟨H25, S26, i27, at28⟩ := S24.sealBox (i := 0) (l' := []) rfl rfl
 refine FL.v (E.assign (v := Value.slice none 0 0) rfl) ?_
 refine FL.v (E.assign (v := Value.bool false) rfl) ?_
 refine FL.nil (FW.seq (FW.seq (FW.region ?_)))
 refine FL.v (E.load rfl (run_loadA Tryz.isAgg30 Tryz.sizeOf30 (at28.now S26.sl) rfl)) ?_
 refine FL.v (E.move (v := v1) rfl) ?_
 obtain ⟨r29, hr30, hp⟩ := bnd hp
 refine FL.call rfl rfl rfl (E.call Tryz.call74 (A2 rfl rfl)) (w_impl_IsRefutation S26.sl a0 v0_1 (p0_1.mono i27) v1 a1 (p1.mono i27) hr30) ?_
 rintro e w31 ⟨rfl, r32⟩
 refine ⟨_, rfl, ?_⟩
 have S33 := S26.call r32
 refine FL.v (E.not rfl) ?_
 refine FL.nil ?_
 rcases ifB hp with ⟨c34, hp⟩ | ⟨c34, hp⟩
 ·
  refine FW.condT rfl c34 ?_
  refine FW.seq (FW.region ?_)
  refine FL.v (E.assign (v := Value.slice none 0 0) rfl) ?_
  refine FL.v (E.assign (v := Value.bool false) rfl) ?_
  refine FL.nil ?_
  refine FW.ret ?_
  obtain rfl := Option.some.inj hp
  exact ⟨.inr rfl, res2 rfl rfl rfl ⟨_, _, _, _, rfl, (S33.nil 98 4), Els.nil⟩⟩
 ·
  refine FW.condF rfl c34 ?_
  refine FW.skip (FW.seq (FW.region ?_))
  refine FL.v (E.load rfl (run_loadA Tryz.isAgg30 Tryz.sizeOf30 (at28.now S33.sl) rfl)) ?_
  refine FL.v (E.build (B1 rfl) (run_build _ 116 #[(0, Value.agg #[Value.int .i64 a0.vars, v0_1])] #[Value.int .i64 a0.vars, v0_1, Value.slice none 0 0, Value.nilFunc] (by obtain ⟨_, _, rfl⟩ := RSl.ln (p0_1.mono i27); rfl))) ?_
  obtain ⟨b35, w36, run37, S38⟩ := S33.box (P := Tryz.prog) 116 [Value.int .i64 a0.vars, v0_1, Value.slice none 0 0, Value.nilFunc] (v := Value.agg #[Value.int .i64 a0.vars, v0_1, Value.slice none 0 0, Value.nilFunc]) rfl (ones_cons rfl (ones_cons p0_1.one (ones_cons rfl (ones_cons rfl ones_nil))))
  refine FL.v (E.box rfl run37) ?_
  refine FL.v (E.assign (v := Value.pointer (some (⟨b35, 0, none⟩ : Addr))) rfl) ?_
  refine FL.nil (FW.seq (FW.seq (FW.region ?_)))
  refine FL.v (E.move (v := Value.pointer (some (⟨b35, 0, none⟩ : Addr))) rfl) ?_
  refine FL.v (E.move (v := v1) rfl) ?_
  refine FL.v (E.move (v := v1) rfl) ?_
  refine FL.v (E.lenP te46 rfl p1) ?_
  refine FL.v (E.sub rfl rfl) ?_
  have S39 := S38.nil 98 4
  have els40 : Els (up wa.heap.size H25) eTreeNode 4 [] [] := Els.nil
  obtain ⟨r41, hr42, hp⟩ := bnd hp
  have S43 : St Ha wa H25 w36 [.box b35 116 [Value.int .i64 a0.vars, v0_1, (Value.slice none 0 0), Value.nilFunc], .row 98 4 (Value.slice none 0 0) 0 []] := S39.front 1 rfl rfl
  refine FL.call rfl rfl rfl (E.call Tryz.call75 (A4 rfl rfl rfl rfl)) (w_impl_grower_fromProof (L := []) S43 (a0 := (grower.mk a0 [] (fun _ => none))) (p0_1.mono i27) els40 v1 a1 (p1.mono i27) (wr ((len a1) - 1)) _ [] (RSl.nil _ _ _) hr42) ?_
  rintro e w45 ⟨H44, v48, v50, n51, cs52, rfl, ⟨S46, i47⟩, h49, els53⟩
  refine ⟨_, rfl, ?_⟩
  have S46 : St Ha wa H44 w45 [.box b35 116 [Value.int .i64 r41.2.f.vars, v48, v50, Value.nilFunc], .row 98 4 v50 n51 cs52] := S46
  refine FL.v (E.not rfl) ?_
  refine FL.nil ?_
  rcases ifB hp with ⟨c54, hp⟩ | ⟨c54, hp⟩
  ·
   refine FW.condT rfl c54 ?_
   refine FW.seq (FW.region ?_)
   refine FL.v (E.assign (v := Value.slice none 0 0) rfl) ?_
   refine FL.v (E.assign (v := Value.bool false) rfl) ?_
   refine FL.nil ?_
   refine FW.ret ?_
   obtain rfl := Option.some.inj hp
   exact ⟨.inr rfl, res2 rfl rfl rfl ⟨_, _, _, _, rfl, ((S46.nil 98 4).sel [0] (by decide) rfl), Els.nil⟩⟩
  ·
   refine FW.condF rfl c54 ?_
   refine FW.skip (FW.seq (FW.region ?_))
   refine FL.v (E.move (v := Value.pointer (some (⟨b35, 0, none⟩ : Addr))) rfl) ?_
   refine FL.v (E.nilCheck rfl) ?_
   refine FL.v (E.fieldAddr tf116_1 rfl) ?_
   refine FL.v (E.load rfl (run_load1 Tryz.isAgg56 (S46.box_now (i := 0) rfl) rfl)) ?_
   refine FL.v (E.assign (v := v50) rfl) ?_
   refine FL.v (E.assign (v := Value.bool true) rfl) ?_
   refine FL.nil ?_
   refine FW.ret ?_
   obtain rfl := Option.some.inj hp
   exact ⟨.inr rfl, res2 rfl rfl rfl ⟨_, _, _, _, rfl, (S46.sel [1] (by decide) rfl), els53⟩⟩

theorem w_laws_eqTreeNode {Ha : GH} {wa : World} (hs : Sl Ha wa) (a0 : TreeNode) (a1 : TreeNode) :
  Calls Tryz.prog 68 #[Value.agg #[Value.int .i64 a0.var, Value.int .i64 a0.low, Value.int .i64 a0.high, Value.int .i64 a0.clause], Value.agg #[Value.int .i64 a1.var, Value.int .i64 a1.low, Value.int .i64 a1.high, Value.int .i64 a1.clause]] wa (Sc Ha wa (Value.bool (PF.laws_eqTreeNode a0 a1))) := by
 obtain ⟨r, hp⟩ : ∃ r, (PF.laws_eqTreeNode a0 a1) = r := ⟨_, rfl⟩
 rw [hp]
 unfold PF.laws_eqTreeNode at hp
 have S0 := St.init hs
 refine calls_go (N := 25) (args := [Value.agg #[Value.int .i64 a0.var, Value.int .i64 a0.low, Value.int .i64 a0.high, Value.int .i64 a0.clause], Value.agg #[Value.int .i64 a1.var, Value.int .i64 a1.low, Value.int .i64 a1.high, Value.int .i64 a1.clause]]) Tryz.func68 rfl rfl rfl ?_
 refine FW.seq (FW.region ?_)
 obtain ⟨b21, w22, run23, S24⟩ := S0.box (P := Tryz.prog) 98 [Value.int .i64 a0.var, Value.int .i64 a0.low, Value.int .i64 a0.high, Value.int .i64 a0.clause] (v := Value.agg #[Value.int .i64 a0.var, Value.int .i64 a0.low, Value.int .i64 a0.high, Value.int .i64 a0.clause]) rfl (ones_cons rfl (ones_cons rfl (ones_cons rfl (ones_cons rfl ones_nil))))
 refine FL.v (E.box rfl run23) ?_
 obtain ⟨H25, S26, i27, at28⟩ := S24.sealBox (i := 0) (l' := []) rfl rfl
 obtain ⟨b29, w30, run31, S32⟩ := S26.box (P := Tryz.prog) 98 [Value.int .i64 a1.var, Value.int .i64 a1.low, Value.int .i64 a1.high, Value.int .i64 a1.clause] (v := Value.agg #[Value.int .i64 a1.var, Value.int .i64 a1.low, Value.int .i64 a1.high, Value.int .i64 a1.clause]) rfl (ones_cons rfl (ones_cons rfl (ones_cons rfl (ones_cons rfl ones_nil))))
 refine FL.v (E.box rfl run31) ?_
 obtain ⟨H33, S34, i35, at36⟩ := S32.sealBox (i := 0) (l' := []) rfl rfl
 refine FL.v (E.assign (v := Value.bool false) rfl) ?_
 refine FL.nil (FW.seq (FW.seq (FW.region ?_)))
 refine FL.v (E.fieldAddr tf98_0 rfl) ?_
 refine FL.v (E.load rfl (run_load1 Tryz.isAgg3 ((at28.mono i35).now S34.sl) rfl)) ?_
 refine FL.v (E.fieldAddr tf98_0 rfl) ?_
 refine FL.v (E.load rfl (run_load1 Tryz.isAgg3 (at36.now S34.sl) rfl)) ?_
 refine FL.v (E.neq rfl rfl) ?_
 refine FL.nil ?_
 rcases ifT hp with ⟨c37, hp⟩ | ⟨c37, hp⟩
 ·
  refine FW.condT rfl c37 ?_
  refine FW.seq (FW.region ?_)
  refine FL.v (E.assign (v := Value.bool false) rfl) ?_
  refine FL.nil ?_
  refine FW.ret ?_
  obtain rfl := hp
  exact ⟨.inr rfl, res1 rfl rfl ⟨rfl, S34.back⟩⟩
 ·
  refine FW.condF rfl c37 ?_
  refine FW.skip (FW.seq (FW.seq (FW.region ?_)))
  refine FL.v (E.fieldAddr tf98_1 rfl) ?_
  refine FL.v (E.load rfl (run_load1 Tryz.isAgg3 ((at28.mono i35).now S34.sl) rfl)) ?_
  refine FL.v (E.fieldAddr tf98_1 rfl) ?_
  refine FL.v (E.load rfl (run_load1 Tryz.isAgg3 (at36.now S34.sl) rfl)) ?_
  refine FL.v (E.neq rfl rfl) ?_
  refine FL.nil ?_
  rcases ifT hp with ⟨c38, hp⟩ | ⟨c38, hp⟩
  ·
   refine FW.condT rfl c38 ?_
   refine FW.seq (FW.region ?_)
   refine FL.v (E.assign (v := Value.bool false) rfl) ?_
   refine FL.nil ?_
   refine FW.ret ?_
   obtain rfl := hp
   exact ⟨.inr rfl, res1 rfl rfl ⟨rfl, S34.back⟩⟩
  ·
   refine FW.condF rfl c38 ?_
   refine FW.skip (FW.seq (FW.seq (FW.region ?_)))
   refine FL.v (E.fieldAddr tf98_2 rfl) ?_
   refine FL.v (E.load rfl (run_load1 Tryz.isAgg3 ((at28.mono i35).now S34.sl) rfl)) ?_
   refine FL.v (E.fieldAddr tf98_2 rfl) ?_
   refine FL.v (E.load rfl (run_load1 Tryz.isAgg3 (at36.now S34.sl) rfl)) ?_
   refine FL.v (E.neq rfl rfl) ?_
   refine FL.nil ?_
   rcases ifT hp with ⟨c39, hp⟩ | ⟨c39, hp⟩
   ·
    refine FW.condT rfl c39 ?_
    refine FW.seq (FW.region ?_)
    refine FL.v (E.assign (v := Value.bool false) rfl) ?_
    refine FL.nil ?_
    refine FW.ret ?_
    obtain rfl := hp
    exact ⟨.inr rfl, res1 rfl rfl ⟨rfl, S34.back⟩⟩
   ·
    refine FW.condF rfl c39 ?_
    refine FW.skip (FW.seq (FW.seq (FW.region ?_)))
    refine FL.v (E.fieldAddr tf98_3 rfl) ?_
    refine FL.v (E.load rfl (run_load1 Tryz.isAgg3 ((at28.mono i35).now S34.sl) rfl)) ?_
    refine FL.v (E.fieldAddr tf98_3 rfl) ?_
    refine FL.v (E.load rfl (run_load1 Tryz.isAgg3 (at36.now S34.sl) rfl)) ?_
    refine FL.v (E.neq rfl rfl) ?_
    refine FL.nil ?_
    rcases ifT hp with ⟨c40, hp⟩ | ⟨c40, hp⟩
    ·
     refine FW.condT rfl c40 ?_
     refine FW.seq (FW.region ?_)
     refine FL.v (E.assign (v := Value.bool false) rfl) ?_
     refine FL.nil ?_
     refine FW.ret ?_
     obtain rfl := hp
     exact ⟨.inr rfl, res1 rfl rfl ⟨rfl, S34.back⟩⟩
    ·
     refine FW.condF rfl c40 ?_
     refine FW.skip (FW.seq (FW.region ?_))
     refine FL.v (E.assign (v := Value.bool true) rfl) ?_
     refine FL.nil ?_
     refine FW.ret ?_
     obtain rfl := hp
     exact ⟨.inr rfl, res1 rfl rfl ⟨rfl, S34.back⟩⟩

theorem w_laws_eqTreeNodeS {Ha : GH} {wa : World} (hs : Sl Ha wa) (v0 : Value) (a0 : List TreeNode) (p0 : RSl Ha eTreeNode 4 v0 a0) (v1 : Value) (a1 : List TreeNode) (p1 : RSl Ha eTreeNode 4 v1 a1) {r : Bool} (hp : (PF.laws_eqTreeNodeS a0 a1) = some r) :
  Calls Tryz.prog 31 #[v0, v1] wa (Sc Ha wa (Value.bool r)) := by
 unfold PF.laws_eqTreeNodeS at hp
 have S0 := St.init hs
 refine calls_go (N := 27) (args := [v0, v1]) Tryz.func31 rfl rfl rfl ?_
 refine FW.seq (FW.region ?_)
 refine FL.v (E.assign (v := Value.bool false) rfl) ?_
 refine FL.nil (FW.seq (FW.seq (FW.region ?_)))
 refine FL.v (E.move (v := v0) rfl) ?_
 refine FL.v (E.lenP te56 rfl p0) ?_
 refine FL.v (E.move (v := v1) rfl) ?_
 refine FL.v (E.lenP te56 rfl p1) ?_
 refine FL.v (E.neq rfl rfl) ?_
 refine FL.nil ?_
 rcases ifB hp with ⟨c21, hp⟩ | ⟨c21, hp⟩
 ·
  refine FW.condT rfl c21 ?_
  refine FW.seq (FW.region ?_)
  refine FL.v (E.assign (v := Value.bool false) rfl) ?_
  refine FL.nil ?_
  refine FW.ret ?_
  obtain rfl := Option.some.inj hp
  exact ⟨.inr rfl, res1 rfl rfl ⟨rfl, S0.back⟩⟩
 ·
  refine FW.condF rfl c21 ?_
  refine FW.skip (FW.seq (FW.seq (FW.region ?_)))
  refine FL.v (E.assign (v := Value.int .i64 0) rfl) ?_
  refine FL.nil ?_
  obtain ⟨q23, hq, hp⟩ := bndR hp
  refine FW.block ?_
  refine FW.mono (FW.forL (S := Unit) (X := Bool) (fun (i23 : Nat) (s23 : Unit) f w => ∃ H : GH, St Ha wa H w [] ∧ Inc Ha H ∧ f 5 = Value.int .i64 ((i23 : Nat) : Int) ∧ f 0 = v0 ∧ f 1 = v1) (fun q e f w => match q with | .go s23 => e = Exit.exit 0 ∧ (∃ H : GH, St Ha wa H w [] ∧ Inc Ha H) | .rt x => ((e = Exit.ret) ∧ (fun e f w => (e = Exit.normal ∨ e = Exit.ret) ∧ ∀ a, Fr (δ := []) 27 a f → ∃ v, (results Tryz.f31 a.tmps).run Tryz.prog w = .ok v w ∧ (Sc Ha wa (Value.bool x)) (.returned v) w) e f w)) hq ⟨_, S0, (Inc.rfl _), rfl, rfl, rfl⟩ ?_ ?_) ?_
  ·
   clear hp hq
   rintro i23 y22 s23 f55 w54 ⟨H51, S52, i53, k56, k57, k58⟩ hx23 o78 hp
   refine FW.seq (FW.seq (FW.region ?_))
   refine FL.v (E.move k56) ?_
   refine FL.v (E.move k57) ?_
   refine FL.v (E.lenP te56 rfl p0) ?_
   refine FL.v (E.lssT rfl rfl (lss_len hx23)) ?_
   refine FL.nil ?_
   refine FW.condT rfl rfl ?_
   refine FW.skip (FW.seq (FW.block (FW.seq ?_)))
   refine FW.draw (fun w' => Run w54.heap.size H51 w54 H51 w') (by kernel_rfl) (by kernel_rfl) (run_drew S52.sl) ?_
   refine FD.val rfl rfl rfl (fun w' hw' => (E.move k57)) ?_
   refine FD.val rfl rfl rfl (fun w' hw' => (E.move k56)) ?_
   obtain ⟨p60, cs61, pt62, l63, at64, rel65⟩ := p0.at (ix_nat hx23)
   obtain rfl := eTreeNode_open rel65
   refine FD.val rfl rfl rfl (fun w' hw' => (E.indexAddr te56 rfl rfl pt62)) ?_
   refine FD.val rfl rfl rfl (fun w' hw' => (E.load rfl (run_loadA Tryz.isAgg98 Tryz.sizeOf98 ((at64.mono i53).now (S52.call hw').sl) rfl))) ?_
   refine FD.val rfl rfl rfl (fun w' hw' => (E.move k58)) ?_
   refine FD.val rfl rfl rfl (fun w' hw' => (E.move k56)) ?_
   obtain ⟨x72, hx73, hp⟩ := bnd hp
   obtain ⟨p66, cs67, pt68, l69, at70, rel71⟩ := p1.at hx73
   obtain rfl := eTreeNode_open rel71
   refine FD.val rfl rfl rfl (fun w' hw' => (E.indexAddr te56 rfl rfl pt68)) ?_
   refine FD.val rfl rfl rfl (fun w' hw' => (E.load rfl (run_loadA Tryz.isAgg98 Tryz.sizeOf98 ((at70.mono i53).now (S52.call hw').sl) rfl))) ?_
   refine FD.call rfl rfl rfl (fun w' hw' => (E.call Tryz.call68 (A2 rfl rfl))) (fun w' hw' => Calls.cls hw' (w_laws_eqTreeNode (S52.call hw').sl y22 x72)) ?_
   refine FD.val rfl rfl rfl (fun w' hw' => (E.not rfl)) ?_
   refine FD.nil ?_
   intro w74 r76
   have S75 := S52.call r76
   rcases ifB hp with ⟨c77, hp⟩ | ⟨c77, hp⟩
   ·
    refine FW.condT rfl c77 ?_
    refine FW.seq (FW.region ?_)
    refine FL.v (E.assign (v := Value.bool false) rfl) ?_
    refine FL.nil ?_
    refine FW.ret ?_
    obtain rfl := Option.some.inj hp
    exact ⟨nofun, rfl, ⟨.inr rfl, res1 rfl rfl ⟨rfl, S75.back⟩⟩⟩
   ·
    refine FW.condF rfl c77 ?_
    refine FW.skip (FW.region ?_)
    refine FL.v (E.move k56) ?_
    refine FL.v (E.add rfl rfl) ?_
    refine FL.v (E.assign (v := Value.int .i64 (wr (((i23 : Nat) : Int) + 1))) rfl) ?_
    refine FL.nil ?_
    obtain rfl := Option.some.inj hp
    exact ⟨rfl, ⟨_, S75, i53, (nat_succ rfl (lt_of_get hx23) (p0.mono i53).le), k57, k58⟩⟩
  ·
   clear hp hq
   rintro s23 f88 w87 ⟨H84, S85, i86, k89, k90, k91⟩
   refine FW.seq (FW.seq (FW.region ?_))
   refine FL.v (E.move k89) ?_
   refine FL.v (E.move k90) ?_
   refine FL.v (E.lenP te56 rfl p0) ?_
   refine FL.v (E.lss rfl rfl) ?_
   refine FL.nil ?_
   refine FW.condF rfl dlt_len ?_
   refine FW.exit ?_
   exact ⟨nofun, rfl, ⟨_, S85, i86⟩⟩
  ·
   clear hq
   intro e f83 w82 hD
   rcases q23 with s23 | x23
   ·
    obtain ⟨rfl, hD⟩ := hD
    obtain ⟨H79, S80, i81⟩ := hD
    replace hp := el_go hp
    refine FW.seq (FW.region ?_)
    refine FL.v (E.assign (v := Value.bool true) rfl) ?_
    refine FL.nil ?_
    refine FW.ret ?_
    obtain rfl := Option.some.inj hp
    exact ⟨.inr rfl, res1 rfl rfl ⟨rfl, S80.back⟩⟩
   ·
    obtain ⟨he, hL⟩ := hD
    replace hp := el_rt hp
    obtain rfl := Option.some.inj hp
    subst he
    exact hL

theorem w_laws_eqIntS {Ha : GH} {wa : World} (hs : Sl Ha wa) (v0 : Value) (a0 : List Int) (p0 : RSl Ha eI 1 v0 a0) (v1 : Value) (a1 : List Int) (p1 : RSl Ha eI 1 v1 a1) {r : Bool} (hp : (PF.laws_eqIntS a0 a1) = some r) :
  Calls Tryz.prog 54 #[v0, v1] wa (Sc Ha wa (Value.bool r)) := by
 unfold PF.laws_eqIntS at hp
 have S0 := St.init hs
 refine calls_go (N := 26) (args := [v0, v1]) Tryz.func54 rfl rfl rfl ?_
 refine FW.seq (FW.region ?_)
 refine FL.v (E.assign (v := Value.bool false) rfl) ?_
 refine FL.nil (FW.seq (FW.seq (FW.region ?_)))
 refine FL.v (E.move (v := v0) rfl) ?_
 refine FL.v (E.lenP te84 rfl p0) ?_
 refine FL.v (E.move (v := v1) rfl) ?_
 refine FL.v (E.lenP te84 rfl p1) ?_
 refine FL.v (E.neq rfl rfl) ?_
 refine FL.nil ?_
 rcases ifB hp with ⟨c21, hp⟩ | ⟨c21, hp⟩
 ·
  refine FW.condT rfl c21 ?_
  refine FW.seq (FW.region ?_)
  refine FL.v (E.assign (v := Value.bool false) rfl) ?_
  refine FL.nil ?_
  refine FW.ret ?_
  obtain rfl := Option.some.inj hp
  exact ⟨.inr rfl, res1 rfl rfl ⟨rfl, S0.back⟩⟩
 ·
  refine FW.condF rfl c21 ?_
  refine FW.skip (FW.seq (FW.seq (FW.region ?_)))
  refine FL.v (E.assign (v := Value.int .i64 0) rfl) ?_
  refine FL.nil ?_
  obtain ⟨q23, hq, hp⟩ := bndR hp
  refine FW.block ?_
  refine FW.mono (FW.forL (S := Unit) (X := Bool) (fun (i23 : Nat) (s23 : Unit) f w => ∃ H : GH, St Ha wa H w [] ∧ Inc Ha H ∧ f 5 = Value.int .i64 ((i23 : Nat) : Int) ∧ f 0 = v0 ∧ f 1 = v1) (fun q e f w => match q with | .go s23 => e = Exit.exit 0 ∧ (∃ H : GH, St Ha wa H w [] ∧ Inc Ha H) | .rt x => ((e = Exit.ret) ∧ (fun e f w => (e = Exit.normal ∨ e = Exit.ret) ∧ ∀ a, Fr (δ := []) 26 a f → ∃ v, (results Tryz.f54 a.tmps).run Tryz.prog w = .ok v w ∧ (Sc Ha wa (Value.bool x)) (.returned v) w) e f w)) hq ⟨_, S0, (Inc.rfl _), rfl, rfl, rfl⟩ ?_ ?_) ?_
  ·
   clear hp hq
   rintro i23 y22 s23 f55 w54 ⟨H51, S52, i53, k56, k57, k58⟩ hx23 o78 hp
   refine FW.seq (FW.seq (FW.region ?_))
   refine FL.v (E.move k56) ?_
   refine FL.v (E.move k57) ?_
   refine FL.v (E.lenP te84 rfl p0) ?_
   refine FL.v (E.lssT rfl rfl (lss_len hx23)) ?_
   refine FL.nil ?_
   refine FW.condT rfl rfl ?_
   refine FW.skip (FW.seq (FW.block (FW.seq ?_)))
   refine FW.draw (fun w' => Run w54.heap.size H51 w54 H51 w') (by kernel_rfl) (by kernel_rfl) (run_drew S52.sl) ?_
   refine FD.val rfl rfl rfl (fun w' hw' => (E.move k57)) ?_
   refine FD.val rfl rfl rfl (fun w' hw' => (E.move k56)) ?_
   obtain ⟨p60, cs61, pt62, l63, at64, rel65⟩ := p0.at (ix_nat hx23)
   obtain rfl := eI_open rel65
   refine FD.val rfl rfl rfl (fun w' hw' => (E.indexAddr te84 rfl rfl pt62)) ?_
   refine FD.val rfl rfl rfl (fun w' hw' => (E.load rfl (run_load0 Tryz.isAgg3 ((at64.mono i53).now (S52.call hw').sl) rfl))) ?_
   refine FD.val rfl rfl rfl (fun w' hw' => (E.move k58)) ?_
   refine FD.val rfl rfl rfl (fun w' hw' => (E.move k56)) ?_
   obtain ⟨x72, hx73, hp⟩ := bnd hp
   obtain ⟨p66, cs67, pt68, l69, at70, rel71⟩ := p1.at hx73
   obtain rfl := eI_open rel71
   refine FD.val rfl rfl rfl (fun w' hw' => (E.indexAddr te84 rfl rfl pt68)) ?_
   refine FD.val rfl rfl rfl (fun w' hw' => (E.load rfl (run_load0 Tryz.isAgg3 ((at70.mono i53).now (S52.call hw').sl) rfl))) ?_
   refine FD.val rfl rfl rfl (fun w' hw' => (E.neq rfl rfl)) ?_
   refine FD.nil ?_
   intro w74 r76
   have S75 := S52.call r76
   rcases ifB hp with ⟨c77, hp⟩ | ⟨c77, hp⟩
   ·
    refine FW.condT rfl c77 ?_
    refine FW.seq (FW.region ?_)
    refine FL.v (E.assign (v := Value.bool false) rfl) ?_
    refine FL.nil ?_
    refine FW.ret ?_
    obtain rfl := Option.some.inj hp
    exact ⟨nofun, rfl, ⟨.inr rfl, res1 rfl rfl ⟨rfl, S75.back⟩⟩⟩
   ·
    refine FW.condF rfl c77 ?_
    refine FW.skip (FW.region ?_)
    refine FL.v (E.move k56) ?_
    refine FL.v (E.add rfl rfl) ?_
    refine FL.v (E.assign (v := Value.int .i64 (wr (((i23 : Nat) : Int) + 1))) rfl) ?_
    refine FL.nil ?_
    obtain rfl := Option.some.inj hp
    exact ⟨rfl, ⟨_, S75, i53, (nat_succ rfl (lt_of_get hx23) (p0.mono i53).le), k57, k58⟩⟩
  ·
   clear hp hq
   rintro s23 f88 w87 ⟨H84, S85, i86, k89, k90, k91⟩
   refine FW.seq (FW.seq (FW.region ?_))
   refine FL.v (E.move k89) ?_
   refine FL.v (E.move k90) ?_
   refine FL.v (E.lenP te84 rfl p0) ?_
   refine FL.v (E.lss rfl rfl) ?_
   refine FL.nil ?_
   refine FW.condF rfl dlt_len ?_
   refine FW.exit ?_
   exact ⟨nofun, rfl, ⟨_, S85, i86⟩⟩
  ·
   clear hq
   intro e f83 w82 hD
   rcases q23 with s23 | x23
   ·
    obtain ⟨rfl, hD⟩ := hD
    obtain ⟨H79, S80, i81⟩ := hD
    replace hp := el_go hp
    refine FW.seq (FW.region ?_)
    refine FL.v (E.assign (v := Value.bool true) rfl) ?_
    refine FL.nil ?_
    refine FW.ret ?_
    obtain rfl := Option.some.inj hp
    exact ⟨.inr rfl, res1 rfl rfl ⟨rfl, S80.back⟩⟩
   ·
    obtain ⟨he, hL⟩ := hD
    replace hp := el_rt hp
    obtain rfl := Option.some.inj hp
    subst he
    exact hL

theorem w_laws_eqIntSS {Ha : GH} {wa : World} (hs : Sl Ha wa) (v0 : Value) (a0 : List (List Int)) (p0 : RSl Ha (eL eI 1) 1 v0 a0) (v1 : Value) (a1 : List (List Int)) (p1 : RSl Ha (eL eI 1) 1 v1 a1) {r : Bool} (hp : (PF.laws_eqIntSS a0 a1) = some r) :
  Calls Tryz.prog 14 #[v0, v1] wa (Sc Ha wa (Value.bool r)) := by
 unfold PF.laws_eqIntSS at hp
 have S0 := St.init hs
 refine calls_go (N := 27) (args := [v0, v1]) Tryz.func14 rfl rfl rfl ?_
 refine FW.seq (FW.region ?_)
 refine FL.v (E.assign (v := Value.bool false) rfl) ?_
 refine FL.nil (FW.seq (FW.seq (FW.region ?_)))
 refine FL.v (E.move (v := v0) rfl) ?_
 refine FL.v (E.lenP te22 rfl p0) ?_
 refine FL.v (E.move (v := v1) rfl) ?_
 refine FL.v (E.lenP te22 rfl p1) ?_
 refine FL.v (E.neq rfl rfl) ?_
 refine FL.nil ?_
 rcases ifB hp with ⟨c21, hp⟩ | ⟨c21, hp⟩
 ·
  refine FW.condT rfl c21 ?_
  refine FW.seq (FW.region ?_)
  refine FL.v (E.assign (v := Value.bool false) rfl) ?_
  refine FL.nil ?_
  refine FW.ret ?_
  obtain rfl := Option.some.inj hp
  exact ⟨.inr rfl, res1 rfl rfl ⟨rfl, S0.back⟩⟩
 ·
  refine FW.condF rfl c21 ?_
  refine FW.skip (FW.seq (FW.seq (FW.region ?_)))
  refine FL.v (E.assign (v := Value.int .i64 0) rfl) ?_
  refine FL.nil ?_
  obtain ⟨q23, hq, hp⟩ := bndR hp
  refine FW.block ?_
  refine FW.mono (FW.forL (S := Unit) (X := Bool) (fun (i23 : Nat) (s23 : Unit) f w => ∃ H : GH, St Ha wa H w [] ∧ Inc Ha H ∧ f 5 = Value.int .i64 ((i23 : Nat) : Int) ∧ f 0 = v0 ∧ f 1 = v1) (fun q e f w => match q with | .go s23 => e = Exit.exit 0 ∧ (∃ H : GH, St Ha wa H w [] ∧ Inc Ha H) | .rt x => ((e = Exit.ret) ∧ (fun e f w => (e = Exit.normal ∨ e = Exit.ret) ∧ ∀ a, Fr (δ := []) 27 a f → ∃ v, (results Tryz.f14 a.tmps).run Tryz.prog w = .ok v w ∧ (Sc Ha wa (Value.bool x)) (.returned v) w) e f w)) hq ⟨_, S0, (Inc.rfl _), rfl, rfl, rfl⟩ ?_ ?_) ?_
  ·
   clear hp hq
   rintro i23 y22 s23 f61 w60 ⟨H57, S58, i59, k62, k63, k64⟩ hx23 o90 hp
   refine FW.seq (FW.seq (FW.region ?_))
   refine FL.v (E.move k62) ?_
   refine FL.v (E.move k63) ?_
   refine FL.v (E.lenP te22 rfl p0) ?_
   refine FL.v (E.lssT rfl rfl (lss_len hx23)) ?_
   refine FL.nil ?_
   refine FW.condT rfl rfl ?_
   refine FW.skip (FW.seq (FW.block (FW.seq ?_)))
   refine FW.draw (fun w' => Run w60.heap.size H57 w60 H57 w') (by kernel_rfl) (by kernel_rfl) (run_drew S58.sl) ?_
   refine FD.val rfl rfl rfl (fun w' hw' => (E.move k63)) ?_
   refine FD.val rfl rfl rfl (fun w' hw' => (E.move k62)) ?_
   obtain ⟨p66, cs67, pt68, l69, at70, rel71⟩ := p0.at (ix_nat hx23)
   obtain ⟨v72, rfl, h73⟩ := eL_open rel71
   refine FD.val rfl rfl rfl (fun w' hw' => (E.indexAddr te22 rfl rfl pt68)) ?_
   refine FD.val rfl rfl rfl (fun w' hw' => (E.load rfl (run_load0 Tryz.isAgg84 ((at70.mono i59).now (S58.call hw').sl) rfl))) ?_
   refine FD.val rfl rfl rfl (fun w' hw' => (E.move k64)) ?_
   refine FD.val rfl rfl rfl (fun w' hw' => (E.move k62)) ?_
   obtain ⟨x80, hx81, hp⟩ := bnd hp
   obtain ⟨p74, cs75, pt76, l77, at78, rel79⟩ := p1.at hx81
   obtain ⟨v82, rfl, h83⟩ := eL_open rel79
   refine FD.val rfl rfl rfl (fun w' hw' => (E.indexAddr te22 rfl rfl pt76)) ?_
   refine FD.val rfl rfl rfl (fun w' hw' => (E.load rfl (run_load0 Tryz.isAgg84 ((at78.mono i59).now (S58.call hw').sl) rfl))) ?_
   obtain ⟨r84, hr85, hp⟩ := bnd hp
   refine FD.call rfl rfl rfl (fun w' hw' => (E.call Tryz.call54 (A2 rfl rfl))) (fun w' hw' => Calls.cls hw' (w_laws_eqIntS (S58.call hw').sl v72 y22 (h73.mono i59) v82 x80 (h83.mono i59) hr85)) ?_
   refine FD.val rfl rfl rfl (fun w' hw' => (E.not rfl)) ?_
   refine FD.nil ?_
   intro w86 r88
   have S87 := S58.call r88
   rcases ifB hp with ⟨c89, hp⟩ | ⟨c89, hp⟩
   ·
    refine FW.condT rfl c89 ?_
    refine FW.seq (FW.region ?_)
    refine FL.v (E.assign (v := Value.bool false) rfl) ?_
    refine FL.nil ?_
    refine FW.ret ?_
    obtain rfl := Option.some.inj hp
    exact ⟨nofun, rfl, ⟨.inr rfl, res1 rfl rfl ⟨rfl, S87.back⟩⟩⟩
   ·
    refine FW.condF rfl c89 ?_
    refine FW.skip (FW.region ?_)
    refine FL.v (E.move k62) ?_
    refine FL.v (E.add rfl rfl) ?_
    refine FL.v (E.assign (v := Value.int .i64 (wr (((i23 : Nat) : Int) + 1))) rfl) ?_
    refine FL.nil ?_
    obtain rfl := Option.some.inj hp
    exact ⟨rfl, ⟨_, S87, i59, (nat_succ rfl (lt_of_get hx23) (p0.mono i59).le), k63, k64⟩⟩
  ·
   clear hp hq
   rintro s23 f100 w99 ⟨H96, S97, i98, k101, k102, k103⟩
   refine FW.seq (FW.seq (FW.region ?_))
   refine FL.v (E.move k101) ?_
   refine FL.v (E.move k102) ?_
   refine FL.v (E.lenP te22 rfl p0) ?_
   refine FL.v (E.lss rfl rfl) ?_
   refine FL.nil ?_
   refine FW.condF rfl dlt_len ?_
   refine FW.exit ?_
   exact ⟨nofun, rfl, ⟨_, S97, i98⟩⟩
  ·
   clear hq
   intro e f95 w94 hD
   rcases q23 with s23 | x23
   ·
    obtain ⟨rfl, hD⟩ := hD
    obtain ⟨H91, S92, i93⟩ := hD
    replace hp := el_go hp
    refine FW.seq (FW.region ?_)
    refine FL.v (E.assign (v := Value.bool true) rfl) ?_
    refine FL.nil ?_
    refine FW.ret ?_
    obtain rfl := Option.some.inj hp
    exact ⟨.inr rfl, res1 rfl rfl ⟨rfl, S92.back⟩⟩
   ·
    obtain ⟨he, hL⟩ := hD
    replace hp := el_rt hp
    obtain rfl := Option.some.inj hp
    subst he
    exact hL

theorem w_laws_eqCnf {Ha : GH} {wa : World} (hs : Sl Ha wa) (a0 : Cnf) (v0_1 : Value) (p0_1 : RSl Ha (eL eI 1) 1 v0_1 a0.clauses) (a1 : Cnf) (v1_1 : Value) (p1_1 : RSl Ha (eL eI 1) 1 v1_1 a1.clauses) {r : Bool} (hp : (PF.laws_eqCnf a0 a1) = some r) :
  Calls Tryz.prog 15 #[Value.agg #[Value.int .i64 a0.vars, v0_1], Value.agg #[Value.int .i64 a1.vars, v1_1]] wa (Sc Ha wa (Value.bool r)) := by
 unfold PF.laws_eqCnf at hp
 have S0 := St.init hs
 refine calls_go (N := 16) (args := [Value.agg #[Value.int .i64 a0.vars, v0_1], Value.agg #[Value.int .i64 a1.vars, v1_1]]) Tryz.func15 rfl rfl rfl ?_
 refine FW.seq (FW.region ?_)
 obtain ⟨b21, w22, run23, S24⟩ := S0.box (P := Tryz.prog) 30 [Value.int .i64 a0.vars, v0_1] (v := Value.agg #[Value.int .i64 a0.vars, v0_1]) rfl (ones_cons rfl (ones_cons p0_1.one ones_nil))
 refine FL.v (E.box rfl run23) ?_
 obtain ⟨H25, S26, i27, at28⟩ := S24.sealBox (i := 0) (l' := []) rfl rfl
 obtain ⟨b29, w30, run31, S32⟩ := S26.box (P := Tryz.prog) 30 [Value.int .i64 a1.vars, v1_1] (v := Value.agg #[Value.int .i64 a1.vars, v1_1]) rfl (ones_cons rfl (ones_cons p1_1.one ones_nil))
 refine FL.v (E.box rfl run31) ?_
 obtain ⟨H33, S34, i35, at36⟩ := S32.sealBox (i := 0) (l' := []) rfl rfl
 refine FL.v (E.assign (v := Value.bool false) rfl) ?_
 refine FL.nil (FW.seq (FW.seq (FW.region ?_)))
 refine FL.v (E.fieldAddr tf30_0 rfl) ?_
 refine FL.v (E.load rfl (run_load1 Tryz.isAgg3 ((at28.mono i35).now S34.sl) rfl)) ?_
 refine FL.v (E.fieldAddr tf30_0 rfl) ?_
 refine FL.v (E.load rfl (run_load1 Tryz.isAgg3 (at36.now S34.sl) rfl)) ?_
 refine FL.v (E.neq rfl rfl) ?_
 refine FL.nil ?_
 rcases ifB hp with ⟨c37, hp⟩ | ⟨c37, hp⟩
 ·
  refine FW.condT rfl c37 ?_
  refine FW.seq (FW.region ?_)
  refine FL.v (E.assign (v := Value.bool false) rfl) ?_
  refine FL.nil ?_
  refine FW.ret ?_
  obtain rfl := Option.some.inj hp
  exact ⟨.inr rfl, res1 rfl rfl ⟨rfl, S34.back⟩⟩
 ·
  refine FW.condF rfl c37 ?_
  refine FW.skip (FW.seq (FW.seq (FW.region ?_)))
  refine FL.v (E.fieldAddr tf30_1 rfl) ?_
  refine FL.v (E.load rfl (run_load1 Tryz.isAgg22 ((at28.mono i35).now S34.sl) rfl)) ?_
  refine FL.v (E.fieldAddr tf30_1 rfl) ?_
  refine FL.v (E.load rfl (run_load1 Tryz.isAgg22 (at36.now S34.sl) rfl)) ?_
  obtain ⟨r38, hr39, hp⟩ := bnd hp
  refine FL.call rfl rfl rfl (E.call Tryz.call14 (A2 rfl rfl)) (w_laws_eqIntSS S34.sl v0_1 a0.clauses (p0_1.mono (i27.tr i35)) v1_1 a1.clauses (p1_1.mono (i27.tr i35)) hr39) ?_
  rintro e w40 ⟨rfl, r41⟩
  refine ⟨_, rfl, ?_⟩
  have S42 := S34.call r41
  refine FL.v (E.not rfl) ?_
  refine FL.nil ?_
  rcases ifB hp with ⟨c43, hp⟩ | ⟨c43, hp⟩
  ·
   refine FW.condT rfl c43 ?_
   refine FW.seq (FW.region ?_)
   refine FL.v (E.assign (v := Value.bool false) rfl) ?_
   refine FL.nil ?_
   refine FW.ret ?_
   obtain rfl := Option.some.inj hp
   exact ⟨.inr rfl, res1 rfl rfl ⟨rfl, S42.back⟩⟩
  ·
   refine FW.condF rfl c43 ?_
   refine FW.skip (FW.seq (FW.region ?_))
   refine FL.v (E.assign (v := Value.bool true) rfl) ?_
   refine FL.nil ?_
   refine FW.ret ?_
   obtain rfl := Option.some.inj hp
   exact ⟨.inr rfl, res1 rfl rfl ⟨rfl, S42.back⟩⟩

theorem w_laws_eqResStep {Ha : GH} {wa : World} (hs : Sl Ha wa) (a0 : ResStep) (v0_0 : Value) (p0_0 : RSl Ha eI 1 v0_0 a0.clause) (a1 : ResStep) (v1_0 : Value) (p1_0 : RSl Ha eI 1 v1_0 a1.clause) {r : Bool} (hp : (PF.laws_eqResStep a0 a1) = some r) :
  Calls Tryz.prog 76 #[Value.agg #[v0_0, Value.int .i64 a0.left, Value.int .i64 a0.right, Value.int .i64 a0.pivot], Value.agg #[v1_0, Value.int .i64 a1.left, Value.int .i64 a1.right, Value.int .i64 a1.pivot]] wa (Sc Ha wa (Value.bool r)) := by
 unfold PF.laws_eqResStep at hp
 have S0 := St.init hs
 refine calls_go (N := 26) (args := [Value.agg #[v0_0, Value.int .i64 a0.left, Value.int .i64 a0.right, Value.int .i64 a0.pivot], Value.agg #[v1_0, Value.int .i64 a1.left, Value.int .i64 a1.right, Value.int .i64 a1.pivot]]) Tryz.func76 rfl rfl rfl ?_
 refine FW.seq (FW.region ?_)
 obtain ⟨b21, w22, run23, S24⟩ := S0.box (P := Tryz.prog) 94 [v0_0, Value.int .i64 a0.left, Value.int .i64 a0.right, Value.int .i64 a0.pivot] (v := Value.agg #[v0_0, Value.int .i64 a0.left, Value.int .i64 a0.right, Value.int .i64 a0.pivot]) rfl (ones_cons p0_0.one (ones_cons rfl (ones_cons rfl (ones_cons rfl ones_nil))))
 refine FL.v (E.box rfl run23) ?_
 obtain ⟨H25, S26, i27, at28⟩ := S24.sealBox (i := 0) (l' := []) rfl rfl
 obtain ⟨b29, w30, run31, S32⟩ := S26.box (P := Tryz.prog) 94 [v1_0, Value.int .i64 a1.left, Value.int .i64 a1.right, Value.int .i64 a1.pivot] (v := Value.agg #[v1_0, Value.int .i64 a1.left, Value.int .i64 a1.right, Value.int .i64 a1.pivot]) rfl (ones_cons p1_0.one (ones_cons rfl (ones_cons rfl (ones_cons rfl ones_nil))))
 refine FL.v (E.box rfl run31) ?_
 obtain ⟨H33, S34, i35, at36⟩ := S32.sealBox (i := 0) (l' := []) rfl rfl
 refine FL.v (E.assign (v := Value.bool false) rfl) ?_
 refine FL.nil (FW.seq (FW.seq (FW.region ?_)))
 refine FL.v (E.fieldAddr tf94_0 rfl) ?_
 refine FL.v (E.load rfl (run_load1 Tryz.isAgg84 ((at28.mono i35).now S34.sl) rfl)) ?_
 refine FL.v (E.fieldAddr tf94_0 rfl) ?_
 refine FL.v (E.load rfl (run_load1 Tryz.isAgg84 (at36.now S34.sl) rfl)) ?_
 obtain ⟨r37, hr38, hp⟩ := bnd hp
 refine FL.call rfl rfl rfl (E.call Tryz.call54 (A2 rfl rfl)) (w_laws_eqIntS S34.sl v0_0 a0.clause (p0_0.mono (i27.tr i35)) v1_0 a1.clause (p1_0.mono (i27.tr i35)) hr38) ?_
 rintro e w39 ⟨rfl, r40⟩
 refine ⟨_, rfl, ?_⟩
 have S41 := S34.call r40
 refine FL.v (E.not rfl) ?_
 refine FL.nil ?_
 rcases ifB hp with ⟨c42, hp⟩ | ⟨c42, hp⟩
 ·
  refine FW.condT rfl c42 ?_
  refine FW.seq (FW.region ?_)
  refine FL.v (E.assign (v := Value.bool false) rfl) ?_
  refine FL.nil ?_
  refine FW.ret ?_
  obtain rfl := Option.some.inj hp
  exact ⟨.inr rfl, res1 rfl rfl ⟨rfl, S41.back⟩⟩
 ·
  refine FW.condF rfl c42 ?_
  refine FW.skip (FW.seq (FW.seq (FW.region ?_)))
  refine FL.v (E.fieldAddr tf94_1 rfl) ?_
  refine FL.v (E.load rfl (run_load1 Tryz.isAgg3 ((at28.mono i35).now S41.sl) rfl)) ?_
  refine FL.v (E.fieldAddr tf94_1 rfl) ?_
  refine FL.v (E.load rfl (run_load1 Tryz.isAgg3 (at36.now S41.sl) rfl)) ?_
  refine FL.v (E.neq rfl rfl) ?_
  refine FL.nil ?_
  rcases ifB hp with ⟨c43, hp⟩ | ⟨c43, hp⟩
  ·
   refine FW.condT rfl c43 ?_
   refine FW.seq (FW.region ?_)
   refine FL.v (E.assign (v := Value.bool false) rfl) ?_
   refine FL.nil ?_
   refine FW.ret ?_
   obtain rfl := Option.some.inj hp
   exact ⟨.inr rfl, res1 rfl rfl ⟨rfl, S41.back⟩⟩
  ·
   refine FW.condF rfl c43 ?_
   refine FW.skip (FW.seq (FW.seq (FW.region ?_)))
   refine FL.v (E.fieldAddr tf94_2 rfl) ?_
   refine FL.v (E.load rfl (run_load1 Tryz.isAgg3 ((at28.mono i35).now S41.sl) rfl)) ?_
   refine FL.v (E.fieldAddr tf94_2 rfl) ?_
   refine FL.v (E.load rfl (run_load1 Tryz.isAgg3 (at36.now S41.sl) rfl)) ?_
   refine FL.v (E.neq rfl rfl) ?_
   refine FL.nil ?_
   rcases ifB hp with ⟨c44, hp⟩ | ⟨c44, hp⟩
   ·
    refine FW.condT rfl c44 ?_
    refine FW.seq (FW.region ?_)
    refine FL.v (E.assign (v := Value.bool false) rfl) ?_
    refine FL.nil ?_
    refine FW.ret ?_
    obtain rfl := Option.some.inj hp
    exact ⟨.inr rfl, res1 rfl rfl ⟨rfl, S41.back⟩⟩
   ·
    refine FW.condF rfl c44 ?_
    refine FW.skip (FW.seq (FW.seq (FW.region ?_)))
    refine FL.v (E.fieldAddr tf94_3 rfl) ?_
    refine FL.v (E.load rfl (run_load1 Tryz.isAgg3 ((at28.mono i35).now S41.sl) rfl)) ?_
    refine FL.v (E.fieldAddr tf94_3 rfl) ?_
    refine FL.v (E.load rfl (run_load1 Tryz.isAgg3 (at36.now S41.sl) rfl)) ?_
    refine FL.v (E.neq rfl rfl) ?_
    refine FL.nil ?_
    rcases ifB hp with ⟨c45, hp⟩ | ⟨c45, hp⟩
    ·
     refine FW.condT rfl c45 ?_
     refine FW.seq (FW.region ?_)
     refine FL.v (E.assign (v := Value.bool false) rfl) ?_
     refine FL.nil ?_
     refine FW.ret ?_
     obtain rfl := Option.some.inj hp
     exact ⟨.inr rfl, res1 rfl rfl ⟨rfl, S41.back⟩⟩
    ·
     refine FW.condF rfl c45 ?_
     refine FW.skip (FW.seq (FW.region ?_))
     refine FL.v (E.assign (v := Value.bool true) rfl) ?_
     refine FL.nil ?_
     refine FW.ret ?_
     obtain rfl := Option.some.inj hp
     exact ⟨.inr rfl, res1 rfl rfl ⟨rfl, S41.back⟩⟩

theorem w_laws_eqResStepS {Ha : GH} {wa : World} (hs : Sl Ha wa) (v0 : Value) (a0 : List ResStep) (p0 : RSl Ha eResStep 4 v0 a0) (v1 : Value) (a1 : List ResStep) (p1 : RSl Ha eResStep 4 v1 a1) {r : Bool} (hp : (PF.laws_eqResStepS a0 a1) = some r) :
  Calls Tryz.prog 37 #[v0, v1] wa (Sc Ha wa (Value.bool r)) := by
 unfold PF.laws_eqResStepS at hp
 have S0 := St.init hs
 refine calls_go (N := 27) (args := [v0, v1]) Tryz.func37 rfl rfl rfl ?_
 refine FW.seq (FW.region ?_)
 refine FL.v (E.assign (v := Value.bool false) rfl) ?_
 refine FL.nil (FW.seq (FW.seq (FW.region ?_)))
 refine FL.v (E.move (v := v0) rfl) ?_
 refine FL.v (E.lenP te46 rfl p0) ?_
 refine FL.v (E.move (v := v1) rfl) ?_
 refine FL.v (E.lenP te46 rfl p1) ?_
 refine FL.v (E.neq rfl rfl) ?_
 refine FL.nil ?_
 rcases ifB hp with ⟨c21, hp⟩ | ⟨c21, hp⟩
 ·
  refine FW.condT rfl c21 ?_
  refine FW.seq (FW.region ?_)
  refine FL.v (E.assign (v := Value.bool false) rfl) ?_
  refine FL.nil ?_
  refine FW.ret ?_
  obtain rfl := Option.some.inj hp
  exact ⟨.inr rfl, res1 rfl rfl ⟨rfl, S0.back⟩⟩
 ·
  refine FW.condF rfl c21 ?_
  refine FW.skip (FW.seq (FW.seq (FW.region ?_)))
  refine FL.v (E.assign (v := Value.int .i64 0) rfl) ?_
  refine FL.nil ?_
  obtain ⟨q23, hq, hp⟩ := bndR hp
  refine FW.block ?_
  refine FW.mono (FW.forL (S := Unit) (X := Bool) (fun (i23 : Nat) (s23 : Unit) f w => ∃ H : GH, St Ha wa H w [] ∧ Inc Ha H ∧ f 5 = Value.int .i64 ((i23 : Nat) : Int) ∧ f 0 = v0 ∧ f 1 = v1) (fun q e f w => match q with | .go s23 => e = Exit.exit 0 ∧ (∃ H : GH, St Ha wa H w [] ∧ Inc Ha H) | .rt x => ((e = Exit.ret) ∧ (fun e f w => (e = Exit.normal ∨ e = Exit.ret) ∧ ∀ a, Fr (δ := []) 27 a f → ∃ v, (results Tryz.f37 a.tmps).run Tryz.prog w = .ok v w ∧ (Sc Ha wa (Value.bool x)) (.returned v) w) e f w)) hq ⟨_, S0, (Inc.rfl _), rfl, rfl, rfl⟩ ?_ ?_) ?_
  ·
   clear hp hq
   rintro i23 y22 s23 f61 w60 ⟨H57, S58, i59, k62, k63, k64⟩ hx23 o90 hp
   refine FW.seq (FW.seq (FW.region ?_))
   refine FL.v (E.move k62) ?_
   refine FL.v (E.move k63) ?_
   refine FL.v (E.lenP te46 rfl p0) ?_
   refine FL.v (E.lssT rfl rfl (lss_len hx23)) ?_
   refine FL.nil ?_
   refine FW.condT rfl rfl ?_
   refine FW.skip (FW.seq (FW.block (FW.seq ?_)))
   refine FW.draw (fun w' => Run w60.heap.size H57 w60 H57 w') (by kernel_rfl) (by kernel_rfl) (run_drew S58.sl) ?_
   refine FD.val rfl rfl rfl (fun w' hw' => (E.move k63)) ?_
   refine FD.val rfl rfl rfl (fun w' hw' => (E.move k62)) ?_
   obtain ⟨p66, cs67, pt68, l69, at70, rel71⟩ := p0.at (ix_nat hx23)
   obtain ⟨v72, rfl, h73⟩ := eResStep_open rel71
   refine FD.val rfl rfl rfl (fun w' hw' => (E.indexAddr te46 rfl rfl pt68)) ?_
   refine FD.val rfl rfl rfl (fun w' hw' => (E.load rfl (run_loadA Tryz.isAgg94 Tryz.sizeOf94 ((at70.mono i59).now (S58.call hw').sl) rfl))) ?_
   refine FD.val rfl rfl rfl (fun w' hw' => (E.move k64)) ?_
   refine FD.val rfl rfl rfl (fun w' hw' => (E.move k62)) ?_
   obtain ⟨x80, hx81, hp⟩ := bnd hp
   obtain ⟨p74, cs75, pt76, l77, at78, rel79⟩ := p1.at hx81
   obtain ⟨v82, rfl, h83⟩ := eResStep_open rel79
   refine FD.val rfl rfl rfl (fun w' hw' => (E.indexAddr te46 rfl rfl pt76)) ?_
   refine FD.val rfl rfl rfl (fun w' hw' => (E.load rfl (run_loadA Tryz.isAgg94 Tryz.sizeOf94 ((at78.mono i59).now (S58.call hw').sl) rfl))) ?_
   obtain ⟨r84, hr85, hp⟩ := bnd hp
   refine FD.call rfl rfl rfl (fun w' hw' => (E.call Tryz.call76 (A2 rfl rfl))) (fun w' hw' => Calls.cls hw' (w_laws_eqResStep (S58.call hw').sl y22 v72 (h73.mono i59) x80 v82 (h83.mono i59) hr85)) ?_
   refine FD.val rfl rfl rfl (fun w' hw' => (E.not rfl)) ?_
   refine FD.nil ?_
   intro w86 r88
   have S87 := S58.call r88
   rcases ifB hp with ⟨c89, hp⟩ | ⟨c89, hp⟩
   ·
    refine FW.condT rfl c89 ?_
    refine FW.seq (FW.region ?_)
    refine FL.v (E.assign (v := Value.bool false) rfl) ?_
    refine FL.nil ?_
    refine FW.ret ?_
    obtain rfl := Option.some.inj hp
    exact ⟨nofun, rfl, ⟨.inr rfl, res1 rfl rfl ⟨rfl, S87.back⟩⟩⟩
   ·
    refine FW.condF rfl c89 ?_
    refine FW.skip (FW.region ?_)
    refine FL.v (E.move k62) ?_
    refine FL.v (E.add rfl rfl) ?_
    refine FL.v (E.assign (v := Value.int .i64 (wr (((i23 : Nat) : Int) + 1))) rfl) ?_
    refine FL.nil ?_
    obtain rfl := Option.some.inj hp
    exact ⟨rfl, ⟨_, S87, i59, (nat_succ rfl (lt_of_get hx23) (p0.mono i59).le), k63, k64⟩⟩
  ·
   clear hp hq
   rintro s23 f100 w99 ⟨H96, S97, i98, k101, k102, k103⟩
   refine FW.seq (FW.seq (FW.region ?_))
   refine FL.v (E.move k101) ?_
   refine FL.v (E.move k102) ?_
   refine FL.v (E.lenP te46 rfl p0) ?_
   refine FL.v (E.lss rfl rfl) ?_
   refine FL.nil ?_
   refine FW.condF rfl dlt_len ?_
   refine FW.exit ?_
   exact ⟨nofun, rfl, ⟨_, S97, i98⟩⟩
  ·
   clear hq
   intro e f95 w94 hD
   rcases q23 with s23 | x23
   ·
    obtain ⟨rfl, hD⟩ := hD
    obtain ⟨H91, S92, i93⟩ := hD
    replace hp := el_go hp
    refine FW.seq (FW.region ?_)
    refine FL.v (E.assign (v := Value.bool true) rfl) ?_
    refine FL.nil ?_
    refine FW.ret ?_
    obtain rfl := Option.some.inj hp
    exact ⟨.inr rfl, res1 rfl rfl ⟨rfl, S92.back⟩⟩
   ·
    obtain ⟨he, hL⟩ := hD
    replace hp := el_rt hp
    obtain rfl := Option.some.inj hp
    subst he
    exact hL

theorem w_laws_markIntS {H0 Ha : GH} {w0 wa : World} {l : List MO} (S0 : St H0 w0 Ha wa l) (hs0 : Sl H0 w0) (v0 : Value) (a0 : List Int) (p0 : RSl (up w0.heap.size Ha) eI 1 v0 a0) (a1 : Int) :
  Calls Tryz.prog 56 #[v0, Value.int .i64 a1] wa (M1 H0 w0 Ha l eI 1 v0 (PF.laws_markIntS a0 a1)) := by
 obtain ⟨c0, n0, hc0⟩ := p0.nest eI_flat (by decide)
 have hln := p0.ln
 have hle := p0.le
 refine calls_go (N := 19) (args := [v0, Value.int .i64 a1]) Tryz.func56 rfl rfl rfl ?_
 refine FW.seq (FW.region ?_)
 refine FL.v (E.assign (v := Value.int .i64 0) rfl) ?_
 refine FL.nil (FW.seq (FW.seq (FW.region ?_)))
 refine FL.v (E.assign (v := Value.int .i64 0) rfl) ?_
 refine FL.nil (FW.block ?_)
 refine FW.mono (FW.mark (F := fun y m => (m, (wr (m + 1)))) (a0 := a0) (k0 := a1) (fun (i : Nat) (xs : List Int) (k : Int) f w => ∃ (H : GH) (c : List Value), St H0 w0 H w l ∧ Nest (up w0.heap.size H) eI 1 v0 xs c ∧ bl c = bl c0 ∧ (∀ b, b ∉ bl [v0] → b ∉ bl c0 → H b = Ha b) ∧ f 0 = v0 ∧ f 1 = Value.int .i64 k ∧ f 5 = Value.int .i64 ((i : Nat) : Int)) (fun e f w => e = Exit.exit 0 ∧ ∃ (H : GH) (c : List Value), St H0 w0 H w l ∧ Nest (up w0.heap.size H) eI 1 v0 (markFrom (fun y m => (m, (wr (m + 1)))) a0 a1).1 c ∧ bl c = bl c0 ∧ (∀ b, b ∉ bl [v0] → b ∉ bl c0 → H b = Ha b) ∧ f 0 = v0 ∧ f 1 = Value.int .i64 (markFrom (fun y m => (m, (wr (m + 1)))) a0 a1).2) ⟨_, _, S0, n0, rfl, fun _ _ _ => rfl, rfl, rfl, rfl⟩ ?_ ?_) ?_
 ·
  rintro i y xs m f1 w1 ⟨H1, c1, S1, n1, hb, ho, kv, kk, kc⟩ hx hy
  obtain ⟨p, hpt, wr0, hB, hr, nd⟩ := n1.begin hy (by decide)
  have hci := eI_open hr
  have rd := wr0.opens hci
  refine FW.seq (FW.seq (FW.region ?_))
  refine FL.v (E.move kc) ?_
  refine FL.v (E.move kv) ?_
  refine FL.v (E.len te84 rfl hln) ?_
  refine FL.v (E.lssT rfl rfl (lss_len hx)) ?_
  refine FL.nil ?_
  refine FW.condT rfl rfl ?_
  refine FW.skip (FW.seq (FW.block (FW.seq (FW.region ?_))))
  refine FL.v (E.move kv) ?_
  refine FL.v (E.move kc) ?_
  refine FL.v (E.move kk) ?_
  refine FL.v (E.indexAddr te84 rfl rfl hpt) ?_
  obtain ⟨w21, H22, run24, S23, wr25, o26⟩ := rd.poke0 (P := Tryz.prog) (t := 3) (u := Value.int .i64 m) S1 hs0 hB rfl rfl rfl Tryz.sizeOf3 rfl rfl (c2 := [Value.int .i64 m]) rfl
  refine FL.act rfl rfl (E.store rfl rfl run24) ?_
  refine FL.nil (FW.region ?_)
  refine FL.v (E.move kk) ?_
  refine FL.v (E.add rfl rfl) ?_
  refine FL.v (E.assign (v := Value.int .i64 (wr (m + 1))) rfl) ?_
  refine FL.nil (FW.region ?_)
  refine FL.v (E.move kc) ?_
  refine FL.v (E.add rfl rfl) ?_
  refine FL.v (E.assign (v := Value.int .i64 (wr (((i : Nat) : Int) + 1))) rfl) ?_
  refine FL.nil ?_
  obtain ⟨c2, n2, hb2, ho2⟩ := n1.round eI_flat.loc hy (by decide) hpt wr25 (y' := m) rfl
  exact ⟨rfl, _, _, S23, n2, hb2.trans hb, fun b q1 q2 => (ho2 b q1 (by rw [hb]; exact q2)).trans (ho b q1 q2), kv, rfl, nat_succ rfl (lt_of_get hx) hle⟩
 ·
  rintro f1 w1 ⟨H1, c1, S1, n1, hb, ho, kv, kk, kc⟩
  refine FW.seq (FW.seq (FW.region ?_))
  refine FL.v (E.move kc) ?_
  refine FL.v (E.move kv) ?_
  refine FL.v (E.len te84 rfl hln) ?_
  refine FL.v (E.lss rfl rfl) ?_
  refine FL.nil ?_
  refine FW.condF rfl dlt_len ?_
  refine FW.exit ?_
  exact ⟨nofun, rfl, _, _, S1, n1, hb, ho, kv, kk⟩
 ·
  rintro e f2 w2 ⟨rfl, H2, c2, S2, n2, hb, ho, kv, kk⟩
  refine FW.seq (FW.region ?_)
  refine FL.v (E.move kk) ?_
  refine FL.v (E.assign (v := Value.int .i64 ((markFrom (fun y m => (m, (wr (m + 1)))) a0 a1).2)) rfl) ?_
  refine FL.nil ?_
  refine FW.ret ?_
  exact ⟨.inr rfl, res1 rfl rfl ⟨_, rfl, S2, n2.rsl, fun b q => ho b q (by rw [hc0]; simp)⟩⟩

theorem w_laws_markIntSS {H0 Ha : GH} {w0 wa : World} {l : List MO} (S0 : St H0 w0 Ha wa l) (hs0 : Sl H0 w0) (v0 : Value) (a0 : List (List Int)) (c0 : List Value) (n0 : Nest (up w0.heap.size Ha) (eL eI 1) 1 v0 a0 c0) (a1 : Int) :
  Calls Tryz.prog 19 #[v0, Value.int .i64 a1] wa (M2 H0 w0 Ha l (eL eI 1) 1 v0 c0 (PF.laws_markIntSS a0 a1)) := by
 have hln := n0.rsl.ln
 have hle := n0.rsl.le
 refine calls_go (N := 19) (args := [v0, Value.int .i64 a1]) Tryz.func19 rfl rfl rfl ?_
 refine FW.seq (FW.region ?_)
 refine FL.v (E.assign (v := Value.int .i64 0) rfl) ?_
 refine FL.nil (FW.seq (FW.seq (FW.region ?_)))
 refine FL.v (E.assign (v := Value.int .i64 0) rfl) ?_
 refine FL.nil (FW.block ?_)
 refine FW.mono (FW.mark (F := fun y m => ((PF.laws_markIntS y m).1, (PF.laws_markIntS y m).2)) (a0 := a0) (k0 := a1) (fun (i : Nat) (xs : List (List Int)) (k : Int) f w => ∃ (H : GH) (c : List Value), St H0 w0 H w l ∧ Nest (up w0.heap.size H) (eL eI 1) 1 v0 xs c ∧ bl c = bl c0 ∧ (∀ b, b ∉ bl [v0] → b ∉ bl c0 → H b = Ha b) ∧ f 0 = v0 ∧ f 1 = Value.int .i64 k ∧ f 5 = Value.int .i64 ((i : Nat) : Int)) (fun e f w => e = Exit.exit 0 ∧ ∃ (H : GH) (c : List Value), St H0 w0 H w l ∧ Nest (up w0.heap.size H) (eL eI 1) 1 v0 (markFrom (fun y m => ((PF.laws_markIntS y m).1, (PF.laws_markIntS y m).2)) a0 a1).1 c ∧ bl c = bl c0 ∧ (∀ b, b ∉ bl [v0] → b ∉ bl c0 → H b = Ha b) ∧ f 0 = v0 ∧ f 1 = Value.int .i64 (markFrom (fun y m => ((PF.laws_markIntS y m).1, (PF.laws_markIntS y m).2)) a0 a1).2) ⟨_, _, S0, n0, rfl, fun _ _ _ => rfl, rfl, rfl, rfl⟩ ?_ ?_) ?_
 ·
  rintro i y xs m f1 w1 ⟨H1, c1, S1, n1, hb, ho, kv, kk, kc⟩ hx hy
  obtain ⟨p, hpt, wr0, hB, hr, nd⟩ := n1.begin hy (by decide)
  obtain ⟨u0, hci, hu0⟩ := eL_open hr
  have rd := wr0.opens hci
  refine FW.seq (FW.seq (FW.region ?_))
  refine FL.v (E.move kc) ?_
  refine FL.v (E.move kv) ?_
  refine FL.v (E.len te22 rfl hln) ?_
  refine FL.v (E.lssT rfl rfl (lss_len hx)) ?_
  refine FL.nil ?_
  refine FW.condT rfl rfl ?_
  refine FW.skip (FW.seq (FW.block (FW.region ?_)))
  refine FL.v (E.move kv) ?_
  refine FL.v (E.move kc) ?_
  refine FL.v (E.indexAddr te22 rfl rfl hpt) ?_
  refine FL.v (E.load rfl (run_load0 Tryz.isAgg84 (rd.now S1.sl) rfl)) ?_
  refine FL.v (E.move kk) ?_
  refine FL.call rfl rfl rfl (E.call Tryz.call56 (A2 rfl rfl)) (w_laws_markIntS S1 hs0 u0 y hu0 m) ?_
  rintro e w22 ⟨H21, rfl, S23, h24, o25⟩
  refine ⟨_, rfl, ?_⟩
  have wr26 := rd.inner (j := 0) rfl o25
  refine FL.v (E.assign (v := Value.int .i64 ((PF.laws_markIntS y m).2)) rfl) ?_
  refine FL.nil (FW.region ?_)
  refine FL.v (E.move kc) ?_
  refine FL.v (E.add rfl rfl) ?_
  refine FL.v (E.assign (v := Value.int .i64 (wr (((i : Nat) : Int) + 1))) rfl) ?_
  refine FL.nil ?_
  obtain ⟨c2, n2, hb2, ho2⟩ := n1.round (eL_loc eI_flat) hy (by decide) hpt wr26 (y' := (PF.laws_markIntS y m).1) ⟨_, rfl, h24⟩
  exact ⟨rfl, _, _, S23, n2, hb2.trans hb, fun b q1 q2 => (ho2 b q1 (by rw [hb]; exact q2)).trans (ho b q1 q2), kv, rfl, nat_succ rfl (lt_of_get hx) hle⟩
 ·
  rintro f1 w1 ⟨H1, c1, S1, n1, hb, ho, kv, kk, kc⟩
  refine FW.seq (FW.seq (FW.region ?_))
  refine FL.v (E.move kc) ?_
  refine FL.v (E.move kv) ?_
  refine FL.v (E.len te22 rfl hln) ?_
  refine FL.v (E.lss rfl rfl) ?_
  refine FL.nil ?_
  refine FW.condF rfl dlt_len ?_
  refine FW.exit ?_
  exact ⟨nofun, rfl, _, _, S1, n1, hb, ho, kv, kk⟩
 ·
  rintro e f2 w2 ⟨rfl, H2, c2, S2, n2, hb, ho, kv, kk⟩
  refine FW.seq (FW.region ?_)
  refine FL.v (E.move kk) ?_
  refine FL.v (E.assign (v := Value.int .i64 ((markFrom (fun y m => ((PF.laws_markIntS y m).1, (PF.laws_markIntS y m).2)) a0 a1).2)) rfl) ?_
  refine FL.nil ?_
  refine FW.ret ?_
  exact ⟨.inr rfl, res1 rfl rfl ⟨_, _, rfl, S2, n2, hb, fun b q1 q2 => weak (F := fun b => b ∉ bl [v0] ∧ b ∉ bl c0) (fun b q => ho b q.1 q.2) b ⟨q1, q2⟩⟩⟩

@[reducible] def p_laws_markCnf (H0 : GH) (w0 : World) (Ha : GH) (l : List MO) (v0 : Value) (c0 : List Value) (r : Cnf × Int) : Ending → World → Prop := fun e w' =>
 ∃ (H' : GH) (c' : List Value), e = .returned (.int .i64 r.2) ∧ St H0 w0 H' w' l ∧ Nest (up w0.heap.size H') (eL eI 1) 1 v0 r.1.clauses c' ∧ bl c' = bl c0 ∧ ∀ b, b ∉ bl [v0] → b ∉ bl c0 → ∀ o, Ha b = some o → H' b = some o
theorem w_laws_markCnf {H0 Ha : GH} {w0 wa : World} {l : List MO} (S0 : St H0 w0 Ha wa l) (hs0 : Sl H0 w0) (a0 : Cnf) (v0 : Value) (c0 : List Value) (n0 : Nest (up w0.heap.size Ha) (eL eI 1) 1 v0 a0.clauses c0) (a1 : Int) :
  Calls Tryz.prog 17 #[.agg #[Value.int .i64 a0.vars, v0], Value.int .i64 a1] wa (p_laws_markCnf H0 w0 Ha l v0 c0 (PF.laws_markCnf a0 a1)) := by
 refine calls_go (N := 10) (args := [.agg #[Value.int .i64 a0.vars, v0], Value.int .i64 a1]) Tryz.func17 rfl rfl rfl ?_
 refine FW.seq (FW.region ?_)
 obtain ⟨b21, w22, run23, S24⟩ := S0.box (P := Tryz.prog) 30 [Value.int .i64 a0.vars, v0] (v := Value.agg #[Value.int .i64 a0.vars, v0]) rfl (ones_cons rfl (ones_cons n0.rsl.one ones_nil))
 refine FL.v (E.box rfl run23) ?_
 obtain ⟨H25, S26, i27, at28⟩ := S24.sealBox (i := 0) (l' := l) rfl rfl
 refine FL.v (E.assign (v := Value.int .i64 0) rfl) ?_
 refine FL.nil (FW.seq (FW.region ?_))
 refine FL.v (E.fieldAddr tf30_1 rfl) ?_
 refine FL.v (E.load rfl (run_load1 Tryz.isAgg22 (at28.now S26.sl) rfl)) ?_
 refine FL.v (E.move (v := Value.int .i64 a1) rfl) ?_
 refine FL.call rfl rfl rfl (E.call Tryz.call19 (A2 rfl rfl)) (w_laws_markIntSS S26 hs0 v0 a0.clauses c0 (n0.mono (up_mono i27)) a1) ?_
 rintro e w30 ⟨H29, c34, rfl, S31, h32, hb35, o33⟩
 refine ⟨_, rfl, ?_⟩
 refine FL.v (E.assign (v := Value.int .i64 ((PF.laws_markIntSS a0.clauses a1).2)) rfl) ?_
 refine FL.nil (FW.seq (FW.region ?_))
 refine FL.v (E.move (v := Value.int .i64 ((PF.laws_markIntSS a0.clauses a1).2)) rfl) ?_
 refine FL.v (E.assign (v := Value.int .i64 ((PF.laws_markIntSS a0.clauses a1).2)) rfl) ?_
 refine FL.nil ?_
 refine FW.ret ?_
 exact ⟨.inr rfl, res1 rfl rfl ⟨_, _, rfl, S31, h32, hb35, fun b q1 q2 o ho => o33 b q1 q2 o (i27 b o ho)⟩⟩

theorem w_laws_markResStepS {H0 Ha : GH} {w0 wa : World} {l : List MO} (S0 : St H0 w0 Ha wa l) (hs0 : Sl H0 w0) (v0 : Value) (a0 : List ResStep) (c0 : List Value) (n0 : Nest (up w0.heap.size Ha) eResStep 4 v0 a0 c0) (a1 : Int) :
  Calls Tryz.prog 38 #[v0, Value.int .i64 a1] wa (M2 H0 w0 Ha l eResStep 4 v0 c0 (PF.laws_markResStepS a0 a1)) := by
 have hln := n0.rsl.ln
 have hle := n0.rsl.le
 refine calls_go (N := 41) (args := [v0, Value.int .i64 a1]) Tryz.func38 rfl rfl rfl ?_
 refine FW.seq (FW.region ?_)
 refine FL.v (E.assign (v := Value.int .i64 0) rfl) ?_
 refine FL.nil (FW.seq (FW.seq (FW.region ?_)))
 refine FL.v (E.assign (v := Value.int .i64 0) rfl) ?_
 refine FL.nil (FW.block ?_)
 refine FW.mono (FW.mark (F := fun y m => ((ResStep.mk ((PF.laws_markIntS y.clause m).1) ((PF.laws_markIntS y.clause m).2) (wr ((PF.laws_markIntS y.clause m).2 + 1)) (wr ((wr ((PF.laws_markIntS y.clause m).2 + 1)) + 1))), (wr ((wr ((wr ((PF.laws_markIntS y.clause m).2 + 1)) + 1)) + 1)))) (a0 := a0) (k0 := a1) (fun (i : Nat) (xs : List ResStep) (k : Int) f w => ∃ (H : GH) (c : List Value), St H0 w0 H w l ∧ Nest (up w0.heap.size H) eResStep 4 v0 xs c ∧ bl c = bl c0 ∧ (∀ b, b ∉ bl [v0] → b ∉ bl c0 → H b = Ha b) ∧ f 0 = v0 ∧ f 1 = Value.int .i64 k ∧ f 5 = Value.int .i64 ((i : Nat) : Int)) (fun e f w => e = Exit.exit 0 ∧ ∃ (H : GH) (c : List Value), St H0 w0 H w l ∧ Nest (up w0.heap.size H) eResStep 4 v0 (markFrom (fun y m => ((ResStep.mk ((PF.laws_markIntS y.clause m).1) ((PF.laws_markIntS y.clause m).2) (wr ((PF.laws_markIntS y.clause m).2 + 1)) (wr ((wr ((PF.laws_markIntS y.clause m).2 + 1)) + 1))), (wr ((wr ((wr ((PF.laws_markIntS y.clause m).2 + 1)) + 1)) + 1)))) a0 a1).1 c ∧ bl c = bl c0 ∧ (∀ b, b ∉ bl [v0] → b ∉ bl c0 → H b = Ha b) ∧ f 0 = v0 ∧ f 1 = Value.int .i64 (markFrom (fun y m => ((ResStep.mk ((PF.laws_markIntS y.clause m).1) ((PF.laws_markIntS y.clause m).2) (wr ((PF.laws_markIntS y.clause m).2 + 1)) (wr ((wr ((PF.laws_markIntS y.clause m).2 + 1)) + 1))), (wr ((wr ((wr ((PF.laws_markIntS y.clause m).2 + 1)) + 1)) + 1)))) a0 a1).2) ⟨_, _, S0, n0, rfl, fun _ _ _ => rfl, rfl, rfl, rfl⟩ ?_ ?_) ?_
 ·
  rintro i y xs m f1 w1 ⟨H1, c1, S1, n1, hb, ho, kv, kk, kc⟩ hx hy
  obtain ⟨p, hpt, wr0, hB, hr, nd⟩ := n1.begin hy (by decide)
  obtain ⟨u0, hci, hu0⟩ := eResStep_open hr
  have rd := wr0.opens hci
  refine FW.seq (FW.seq (FW.region ?_))
  refine FL.v (E.move kc) ?_
  refine FL.v (E.move kv) ?_
  refine FL.v (E.len te46 rfl hln) ?_
  refine FL.v (E.lssT rfl rfl (lss_len hx)) ?_
  refine FL.nil ?_
  refine FW.condT rfl rfl ?_
  refine FW.skip (FW.seq (FW.block (FW.seq (FW.region ?_))))
  refine FL.v (E.move kv) ?_
  refine FL.v (E.move kc) ?_
  refine FL.v (E.indexAddr te46 rfl rfl hpt) ?_
  refine FL.v (E.fieldAddr tf94_0 rfl) ?_
  refine FL.v (E.load rfl (run_load1 Tryz.isAgg84 (rd.now S1.sl) rfl)) ?_
  refine FL.v (E.move kk) ?_
  refine FL.call rfl rfl rfl (E.call Tryz.call56 (A2 rfl rfl)) (w_laws_markIntS S1 hs0 u0 y.clause hu0 m) ?_
  rintro e w22 ⟨H21, rfl, S23, h24, o25⟩
  refine ⟨_, rfl, ?_⟩
  have wr26 := rd.inner (j := 0) rfl o25
  refine FL.v (E.assign (v := Value.int .i64 ((PF.laws_markIntS y.clause m).2)) rfl) ?_
  refine FL.nil (FW.seq (FW.region ?_))
  refine FL.v (E.move kv) ?_
  refine FL.v (E.move kc) ?_
  refine FL.v (E.move (v := Value.int .i64 ((PF.laws_markIntS y.clause m).2)) rfl) ?_
  refine FL.v (E.indexAddr te46 rfl rfl hpt) ?_
  refine FL.v (E.fieldAddr tf94_1 rfl) ?_
  obtain ⟨w27, H28, run30, S29, wr31, o32⟩ := wr26.poke (P := Tryz.prog) (t := 3) (u := Value.int .i64 ((PF.laws_markIntS y.clause m).2)) S23 hs0 hB (j := 1) rfl rfl rfl Tryz.sizeOf3 rfl rfl (c2 := [u0, Value.int .i64 ((PF.laws_markIntS y.clause m).2), Value.int .i64 y.right, Value.int .i64 y.pivot]) rfl
  have h33 := wr26.kept (j := 0) rfl h24 eI_flat o32
  refine FL.act rfl rfl (E.store rfl rfl run30) ?_
  refine FL.nil (FW.seq (FW.region ?_))
  refine FL.v (E.move (v := Value.int .i64 ((PF.laws_markIntS y.clause m).2)) rfl) ?_
  refine FL.v (E.add rfl rfl) ?_
  refine FL.v (E.assign (v := Value.int .i64 (wr ((PF.laws_markIntS y.clause m).2 + 1))) rfl) ?_
  refine FL.nil (FW.seq (FW.region ?_))
  refine FL.v (E.move kv) ?_
  refine FL.v (E.move kc) ?_
  refine FL.v (E.move (v := Value.int .i64 (wr ((PF.laws_markIntS y.clause m).2 + 1))) rfl) ?_
  refine FL.v (E.indexAddr te46 rfl rfl hpt) ?_
  refine FL.v (E.fieldAddr tf94_2 rfl) ?_
  obtain ⟨w34, H35, run37, S36, wr38, o39⟩ := wr31.poke (P := Tryz.prog) (t := 3) (u := Value.int .i64 (wr ((PF.laws_markIntS y.clause m).2 + 1))) S29 hs0 hB (j := 2) rfl rfl rfl Tryz.sizeOf3 rfl rfl (c2 := [u0, Value.int .i64 ((PF.laws_markIntS y.clause m).2), Value.int .i64 (wr ((PF.laws_markIntS y.clause m).2 + 1)), Value.int .i64 y.pivot]) rfl
  have h40 := wr31.kept (j := 0) rfl h33 eI_flat o39
  refine FL.act rfl rfl (E.store rfl rfl run37) ?_
  refine FL.nil (FW.seq (FW.region ?_))
  refine FL.v (E.move (v := Value.int .i64 (wr ((PF.laws_markIntS y.clause m).2 + 1))) rfl) ?_
  refine FL.v (E.add rfl rfl) ?_
  refine FL.v (E.assign (v := Value.int .i64 (wr ((wr ((PF.laws_markIntS y.clause m).2 + 1)) + 1))) rfl) ?_
  refine FL.nil (FW.seq (FW.region ?_))
  refine FL.v (E.move kv) ?_
  refine FL.v (E.move kc) ?_
  refine FL.v (E.move (v := Value.int .i64 (wr ((wr ((PF.laws_markIntS y.clause m).2 + 1)) + 1))) rfl) ?_
  refine FL.v (E.indexAddr te46 rfl rfl hpt) ?_
  refine FL.v (E.fieldAddr tf94_3 rfl) ?_
  obtain ⟨w41, H42, run44, S43, wr45, o46⟩ := wr38.poke (P := Tryz.prog) (t := 3) (u := Value.int .i64 (wr ((wr ((PF.laws_markIntS y.clause m).2 + 1)) + 1))) S36 hs0 hB (j := 3) rfl rfl rfl Tryz.sizeOf3 rfl rfl (c2 := [u0, Value.int .i64 ((PF.laws_markIntS y.clause m).2), Value.int .i64 (wr ((PF.laws_markIntS y.clause m).2 + 1)), Value.int .i64 (wr ((wr ((PF.laws_markIntS y.clause m).2 + 1)) + 1))]) rfl
  have h47 := wr38.kept (j := 0) rfl h40 eI_flat o46
  refine FL.act rfl rfl (E.store rfl rfl run44) ?_
  refine FL.nil (FW.region ?_)
  refine FL.v (E.move (v := Value.int .i64 (wr ((wr ((PF.laws_markIntS y.clause m).2 + 1)) + 1))) rfl) ?_
  refine FL.v (E.add rfl rfl) ?_
  refine FL.v (E.assign (v := Value.int .i64 (wr ((wr ((wr ((PF.laws_markIntS y.clause m).2 + 1)) + 1)) + 1))) rfl) ?_
  refine FL.nil (FW.region ?_)
  refine FL.v (E.move kc) ?_
  refine FL.v (E.add rfl rfl) ?_
  refine FL.v (E.assign (v := Value.int .i64 (wr (((i : Nat) : Int) + 1))) rfl) ?_
  refine FL.nil ?_
  obtain ⟨c2, n2, hb2, ho2⟩ := n1.round eResStep_loc hy (by decide) hpt wr45 (y' := (ResStep.mk ((PF.laws_markIntS y.clause m).1) ((PF.laws_markIntS y.clause m).2) (wr ((PF.laws_markIntS y.clause m).2 + 1)) (wr ((wr ((PF.laws_markIntS y.clause m).2 + 1)) + 1)))) ⟨_, rfl, h47⟩
  exact ⟨rfl, _, _, S43, n2, hb2.trans hb, fun b q1 q2 => (ho2 b q1 (by rw [hb]; exact q2)).trans (ho b q1 q2), kv, rfl, nat_succ rfl (lt_of_get hx) hle⟩
 ·
  rintro f1 w1 ⟨H1, c1, S1, n1, hb, ho, kv, kk, kc⟩
  refine FW.seq (FW.seq (FW.region ?_))
  refine FL.v (E.move kc) ?_
  refine FL.v (E.move kv) ?_
  refine FL.v (E.len te46 rfl hln) ?_
  refine FL.v (E.lss rfl rfl) ?_
  refine FL.nil ?_
  refine FW.condF rfl dlt_len ?_
  refine FW.exit ?_
  exact ⟨nofun, rfl, _, _, S1, n1, hb, ho, kv, kk⟩
 ·
  rintro e f2 w2 ⟨rfl, H2, c2, S2, n2, hb, ho, kv, kk⟩
  refine FW.seq (FW.region ?_)
  refine FL.v (E.move kk) ?_
  refine FL.v (E.assign (v := Value.int .i64 ((markFrom (fun y m => ((ResStep.mk ((PF.laws_markIntS y.clause m).1) ((PF.laws_markIntS y.clause m).2) (wr ((PF.laws_markIntS y.clause m).2 + 1)) (wr ((wr ((PF.laws_markIntS y.clause m).2 + 1)) + 1))), (wr ((wr ((wr ((PF.laws_markIntS y.clause m).2 + 1)) + 1)) + 1)))) a0 a1).2)) rfl) ?_
  refine FL.nil ?_
  refine FW.ret ?_
  exact ⟨.inr rfl, res1 rfl rfl ⟨_, _, rfl, S2, n2, hb, fun b q1 q2 => weak (F := fun b => b ∉ bl [v0] ∧ b ∉ bl c0) (fun b q => ho b q.1 q.2) b ⟨q1, q2⟩⟩⟩

theorem w_laws_markTreeNodeS {H0 Ha : GH} {w0 wa : World} {l : List MO} (S0 : St H0 w0 Ha wa l) (hs0 : Sl H0 w0) (v0 : Value) (a0 : List TreeNode) (p0 : RSl (up w0.heap.size Ha) eTreeNode 4 v0 a0) (a1 : Int) :
  Calls Tryz.prog 32 #[v0, Value.int .i64 a1] wa (M1 H0 w0 Ha l eTreeNode 4 v0 (PF.laws_markTreeNodeS a0 a1)) := by
 obtain ⟨c0, n0, hc0⟩ := p0.nest eTreeNode_flat (by decide)
 have hln := p0.ln
 have hle := p0.le
 refine calls_go (N := 41) (args := [v0, Value.int .i64 a1]) Tryz.func32 rfl rfl rfl ?_
 refine FW.seq (FW.region ?_)
 refine FL.v (E.assign (v := Value.int .i64 0) rfl) ?_
 refine FL.nil (FW.seq (FW.seq (FW.region ?_)))
 refine FL.v (E.assign (v := Value.int .i64 0) rfl) ?_
 refine FL.nil (FW.block ?_)
 refine FW.mono (FW.mark (F := fun y m => ((TreeNode.mk m (wr (m + 1)) (wr ((wr (m + 1)) + 1)) (wr ((wr ((wr (m + 1)) + 1)) + 1))), (wr ((wr ((wr ((wr (m + 1)) + 1)) + 1)) + 1)))) (a0 := a0) (k0 := a1) (fun (i : Nat) (xs : List TreeNode) (k : Int) f w => ∃ (H : GH) (c : List Value), St H0 w0 H w l ∧ Nest (up w0.heap.size H) eTreeNode 4 v0 xs c ∧ bl c = bl c0 ∧ (∀ b, b ∉ bl [v0] → b ∉ bl c0 → H b = Ha b) ∧ f 0 = v0 ∧ f 1 = Value.int .i64 k ∧ f 5 = Value.int .i64 ((i : Nat) : Int)) (fun e f w => e = Exit.exit 0 ∧ ∃ (H : GH) (c : List Value), St H0 w0 H w l ∧ Nest (up w0.heap.size H) eTreeNode 4 v0 (markFrom (fun y m => ((TreeNode.mk m (wr (m + 1)) (wr ((wr (m + 1)) + 1)) (wr ((wr ((wr (m + 1)) + 1)) + 1))), (wr ((wr ((wr ((wr (m + 1)) + 1)) + 1)) + 1)))) a0 a1).1 c ∧ bl c = bl c0 ∧ (∀ b, b ∉ bl [v0] → b ∉ bl c0 → H b = Ha b) ∧ f 0 = v0 ∧ f 1 = Value.int .i64 (markFrom (fun y m => ((TreeNode.mk m (wr (m + 1)) (wr ((wr (m + 1)) + 1)) (wr ((wr ((wr (m + 1)) + 1)) + 1))), (wr ((wr ((wr ((wr (m + 1)) + 1)) + 1)) + 1)))) a0 a1).2) ⟨_, _, S0, n0, rfl, fun _ _ _ => rfl, rfl, rfl, rfl⟩ ?_ ?_) ?_
 ·
  rintro i y xs m f1 w1 ⟨H1, c1, S1, n1, hb, ho, kv, kk, kc⟩ hx hy
  obtain ⟨p, hpt, wr0, hB, hr, nd⟩ := n1.begin hy (by decide)
  have hci := eTreeNode_open hr
  have rd := wr0.opens hci
  refine FW.seq (FW.seq (FW.region ?_))
  refine FL.v (E.move kc) ?_
  refine FL.v (E.move kv) ?_
  refine FL.v (E.len te56 rfl hln) ?_
  refine FL.v (E.lssT rfl rfl (lss_len hx)) ?_
  refine FL.nil ?_
  refine FW.condT rfl rfl ?_
  refine FW.skip (FW.seq (FW.block (FW.seq (FW.region ?_))))
  refine FL.v (E.move kv) ?_
  refine FL.v (E.move kc) ?_
  refine FL.v (E.move kk) ?_
  refine FL.v (E.indexAddr te56 rfl rfl hpt) ?_
  refine FL.v (E.fieldAddr tf98_0 rfl) ?_
  obtain ⟨w21, H22, run24, S23, wr25, o26⟩ := rd.poke (P := Tryz.prog) (t := 3) (u := Value.int .i64 m) S1 hs0 hB (j := 0) rfl rfl rfl Tryz.sizeOf3 rfl rfl (c2 := [Value.int .i64 m, Value.int .i64 y.low, Value.int .i64 y.high, Value.int .i64 y.clause]) rfl
  refine FL.act rfl rfl (E.store rfl rfl run24) ?_
  refine FL.nil (FW.seq (FW.region ?_))
  refine FL.v (E.move kk) ?_
  refine FL.v (E.add rfl rfl) ?_
  refine FL.v (E.assign (v := Value.int .i64 (wr (m + 1))) rfl) ?_
  refine FL.nil (FW.seq (FW.region ?_))
  refine FL.v (E.move kv) ?_
  refine FL.v (E.move kc) ?_
  refine FL.v (E.move (v := Value.int .i64 (wr (m + 1))) rfl) ?_
  refine FL.v (E.indexAddr te56 rfl rfl hpt) ?_
  refine FL.v (E.fieldAddr tf98_1 rfl) ?_
  obtain ⟨w27, H28, run30, S29, wr31, o32⟩ := wr25.poke (P := Tryz.prog) (t := 3) (u := Value.int .i64 (wr (m + 1))) S23 hs0 hB (j := 1) rfl rfl rfl Tryz.sizeOf3 rfl rfl (c2 := [Value.int .i64 m, Value.int .i64 (wr (m + 1)), Value.int .i64 y.high, Value.int .i64 y.clause]) rfl
  refine FL.act rfl rfl (E.store rfl rfl run30) ?_
  refine FL.nil (FW.seq (FW.region ?_))
  refine FL.v (E.move (v := Value.int .i64 (wr (m + 1))) rfl) ?_
  refine FL.v (E.add rfl rfl) ?_
  refine FL.v (E.assign (v := Value.int .i64 (wr ((wr (m + 1)) + 1))) rfl) ?_
  refine FL.nil (FW.seq (FW.region ?_))
  refine FL.v (E.move kv) ?_
  refine FL.v (E.move kc) ?_
  refine FL.v (E.move (v := Value.int .i64 (wr ((wr (m + 1)) + 1))) rfl) ?_
  refine FL.v (E.indexAddr te56 rfl rfl hpt) ?_
  refine FL.v (E.fieldAddr tf98_2 rfl) ?_
  obtain ⟨w33, H34, run36, S35, wr37, o38⟩ := wr31.poke (P := Tryz.prog) (t := 3) (u := Value.int .i64 (wr ((wr (m + 1)) + 1))) S29 hs0 hB (j := 2) rfl rfl rfl Tryz.sizeOf3 rfl rfl (c2 := [Value.int .i64 m, Value.int .i64 (wr (m + 1)), Value.int .i64 (wr ((wr (m + 1)) + 1)), Value.int .i64 y.clause]) rfl
  refine FL.act rfl rfl (E.store rfl rfl run36) ?_
  refine FL.nil (FW.seq (FW.region ?_))
  refine FL.v (E.move (v := Value.int .i64 (wr ((wr (m + 1)) + 1))) rfl) ?_
  refine FL.v (E.add rfl rfl) ?_
  refine FL.v (E.assign (v := Value.int .i64 (wr ((wr ((wr (m + 1)) + 1)) + 1))) rfl) ?_
  refine FL.nil (FW.seq (FW.region ?_))
  refine FL.v (E.move kv) ?_
  refine FL.v (E.move kc) ?_
  refine FL.v (E.move (v := Value.int .i64 (wr ((wr ((wr (m + 1)) + 1)) + 1))) rfl) ?_
  refine FL.v (E.indexAddr te56 rfl rfl hpt) ?_
  refine FL.v (E.fieldAddr tf98_3 rfl) ?_
  obtain ⟨w39, H40, run42, S41, wr43, o44⟩ := wr37.poke (P := Tryz.prog) (t := 3) (u := Value.int .i64 (wr ((wr ((wr (m + 1)) + 1)) + 1))) S35 hs0 hB (j := 3) rfl rfl rfl Tryz.sizeOf3 rfl rfl (c2 := [Value.int .i64 m, Value.int .i64 (wr (m + 1)), Value.int .i64 (wr ((wr (m + 1)) + 1)), Value.int .i64 (wr ((wr ((wr (m + 1)) + 1)) + 1))]) rfl
  refine FL.act rfl rfl (E.store rfl rfl run42) ?_
  refine FL.nil (FW.region ?_)
  refine FL.v (E.move (v := Value.int .i64 (wr ((wr ((wr (m + 1)) + 1)) + 1))) rfl) ?_
  refine FL.v (E.add rfl rfl) ?_
  refine FL.v (E.assign (v := Value.int .i64 (wr ((wr ((wr ((wr (m + 1)) + 1)) + 1)) + 1))) rfl) ?_
  refine FL.nil (FW.region ?_)
  refine FL.v (E.move kc) ?_
  refine FL.v (E.add rfl rfl) ?_
  refine FL.v (E.assign (v := Value.int .i64 (wr (((i : Nat) : Int) + 1))) rfl) ?_
  refine FL.nil ?_
  obtain ⟨c2, n2, hb2, ho2⟩ := n1.round eTreeNode_flat.loc hy (by decide) hpt wr43 (y' := (TreeNode.mk m (wr (m + 1)) (wr ((wr (m + 1)) + 1)) (wr ((wr ((wr (m + 1)) + 1)) + 1)))) rfl
  exact ⟨rfl, _, _, S41, n2, hb2.trans hb, fun b q1 q2 => (ho2 b q1 (by rw [hb]; exact q2)).trans (ho b q1 q2), kv, rfl, nat_succ rfl (lt_of_get hx) hle⟩
 ·
  rintro f1 w1 ⟨H1, c1, S1, n1, hb, ho, kv, kk, kc⟩
  refine FW.seq (FW.seq (FW.region ?_))
  refine FL.v (E.move kc) ?_
  refine FL.v (E.move kv) ?_
  refine FL.v (E.len te56 rfl hln) ?_
  refine FL.v (E.lss rfl rfl) ?_
  refine FL.nil ?_
  refine FW.condF rfl dlt_len ?_
  refine FW.exit ?_
  exact ⟨nofun, rfl, _, _, S1, n1, hb, ho, kv, kk⟩
 ·
  rintro e f2 w2 ⟨rfl, H2, c2, S2, n2, hb, ho, kv, kk⟩
  refine FW.seq (FW.region ?_)
  refine FL.v (E.move kk) ?_
  refine FL.v (E.assign (v := Value.int .i64 ((markFrom (fun y m => ((TreeNode.mk m (wr (m + 1)) (wr ((wr (m + 1)) + 1)) (wr ((wr ((wr (m + 1)) + 1)) + 1))), (wr ((wr ((wr ((wr (m + 1)) + 1)) + 1)) + 1)))) a0 a1).2)) rfl) ?_
  refine FL.nil ?_
  refine FW.ret ?_
  exact ⟨.inr rfl, res1 rfl rfl ⟨_, rfl, S2, n2.rsl, fun b q => ho b q (by rw [hc0]; simp)⟩⟩

theorem w_laws_heldTreeNodeS {Ha : GH} {wa : World} (hs : Sl Ha wa) (v0 : Value) (a0 : List TreeNode) (p0 : RSl Ha eTreeNode 4 v0 a0) (a1 : Int) {r : Int} (hp : (PF.laws_heldTreeNodeS a0 a1) = some r) :
  Calls Tryz.prog 39 #[v0, Value.int .i64 a1] wa (Sc Ha wa (Value.int .i64 r)) := by
 unfold PF.laws_heldTreeNodeS at hp
 have S0 := St.init hs
 refine calls_go (N := 49) (args := [v0, Value.int .i64 a1]) Tryz.func39 rfl rfl rfl ?_
 refine FW.seq (FW.region ?_)
 refine FL.v (E.assign (v := Value.int .i64 0) rfl) ?_
 refine FL.nil (FW.seq (FW.seq (FW.region ?_)))
 refine FL.v (E.assign (v := Value.int .i64 0) rfl) ?_
 refine FL.nil ?_
 obtain ⟨q22, hq, hp⟩ := bndR hp
 refine FW.block ?_
 refine FW.mono (FW.forL (S := Int) (X := Int) (fun (i22 : Nat) (s22 : Int) f w => ∃ H : GH, St Ha wa H w [] ∧ Inc Ha H ∧ f 5 = Value.int .i64 ((i22 : Nat) : Int) ∧ f 0 = v0 ∧ f 1 = Value.int .i64 s22) (fun q e f w => match q with | .go s22 => e = Exit.exit 0 ∧ (∃ H : GH, St Ha wa H w [] ∧ Inc Ha H ∧ f 1 = Value.int .i64 s22) | .rt x => ((e = Exit.ret) ∧ (fun e f w => (e = Exit.normal ∨ e = Exit.ret) ∧ ∀ a, Fr (δ := []) 49 a f → ∃ v, (results Tryz.f39 a.tmps).run Tryz.prog w = .ok v w ∧ (Sc Ha wa (Value.int .i64 x)) (.returned v) w) e f w)) hq ⟨_, S0, (Inc.rfl _), rfl, rfl, rfl⟩ ?_ ?_) ?_
 ·
  clear hp hq
  rintro i22 y21 s22 f63 w62 ⟨H59, S60, i61, k64, k65, k66⟩ hx22 o95 hp
  refine FW.seq (FW.seq (FW.region ?_))
  refine FL.v (E.move k64) ?_
  refine FL.v (E.move k65) ?_
  refine FL.v (E.lenP te56 rfl p0) ?_
  refine FL.v (E.lssT rfl rfl (lss_len hx22)) ?_
  refine FL.nil ?_
  refine FW.condT rfl rfl ?_
  refine FW.skip (FW.seq (FW.block (FW.seq (FW.seq (FW.region ?_)))))
  refine FL.v (E.move k65) ?_
  refine FL.v (E.move k64) ?_
  obtain ⟨p67, cs68, pt69, l70, at71, rel72⟩ := p0.at (ix_nat hx22)
  obtain rfl := eTreeNode_open rel72
  refine FL.v (E.indexAddr te56 rfl rfl pt69) ?_
  refine FL.v (E.fieldAddr tf98_0 rfl) ?_
  refine FL.v (E.load rfl (run_load1 Tryz.isAgg3 ((at71.mono i61).now S60.sl) rfl)) ?_
  refine FL.v (E.move k66) ?_
  refine FL.v (E.neq rfl rfl) ?_
  refine FL.nil ?_
  rcases ifB hp with ⟨c73, hp⟩ | ⟨c73, hp⟩
  ·
   refine FW.condT rfl c73 ?_
   refine FW.seq (FW.region ?_)
   refine FL.v (E.assign (v := Value.int .i64 (-1)) rfl) ?_
   refine FL.nil ?_
   refine FW.ret ?_
   obtain rfl := Option.some.inj hp
   exact ⟨nofun, rfl, ⟨.inr rfl, res1 rfl rfl ⟨rfl, S60.back⟩⟩⟩
  ·
   refine FW.condF rfl c73 ?_
   refine FW.skip (FW.seq (FW.region ?_))
   refine FL.v (E.move k66) ?_
   refine FL.v (E.add rfl rfl) ?_
   refine FL.v (E.assign (v := Value.int .i64 (wr (s22 + 1))) rfl) ?_
   refine FL.nil (FW.seq (FW.seq (FW.region ?_)))
   refine FL.v (E.move k65) ?_
   refine FL.v (E.move k64) ?_
   obtain ⟨p74, cs75, pt76, l77, at78, rel79⟩ := p0.at (ix_nat hx22)
   obtain rfl := eTreeNode_open rel79
   refine FL.v (E.indexAddr te56 rfl rfl pt76) ?_
   refine FL.v (E.fieldAddr tf98_1 rfl) ?_
   refine FL.v (E.load rfl (run_load1 Tryz.isAgg3 ((at78.mono i61).now S60.sl) rfl)) ?_
   refine FL.v (E.move (v := Value.int .i64 (wr (s22 + 1))) rfl) ?_
   refine FL.v (E.neq rfl rfl) ?_
   refine FL.nil ?_
   rcases ifB hp with ⟨c80, hp⟩ | ⟨c80, hp⟩
   ·
    refine FW.condT rfl c80 ?_
    refine FW.seq (FW.region ?_)
    refine FL.v (E.assign (v := Value.int .i64 (-1)) rfl) ?_
    refine FL.nil ?_
    refine FW.ret ?_
    obtain rfl := Option.some.inj hp
    exact ⟨nofun, rfl, ⟨.inr rfl, res1 rfl rfl ⟨rfl, S60.back⟩⟩⟩
   ·
    refine FW.condF rfl c80 ?_
    refine FW.skip (FW.seq (FW.region ?_))
    refine FL.v (E.move (v := Value.int .i64 (wr (s22 + 1))) rfl) ?_
    refine FL.v (E.add rfl rfl) ?_
    refine FL.v (E.assign (v := Value.int .i64 (wr ((wr (s22 + 1)) + 1))) rfl) ?_
    refine FL.nil (FW.seq (FW.seq (FW.region ?_)))
    refine FL.v (E.move k65) ?_
    refine FL.v (E.move k64) ?_
    obtain ⟨p81, cs82, pt83, l84, at85, rel86⟩ := p0.at (ix_nat hx22)
    obtain rfl := eTreeNode_open rel86
    refine FL.v (E.indexAddr te56 rfl rfl pt83) ?_
    refine FL.v (E.fieldAddr tf98_2 rfl) ?_
    refine FL.v (E.load rfl (run_load1 Tryz.isAgg3 ((at85.mono i61).now S60.sl) rfl)) ?_
    refine FL.v (E.move (v := Value.int .i64 (wr ((wr (s22 + 1)) + 1))) rfl) ?_
    refine FL.v (E.neq rfl rfl) ?_
    refine FL.nil ?_
    rcases ifB hp with ⟨c87, hp⟩ | ⟨c87, hp⟩
    ·
     refine FW.condT rfl c87 ?_
     refine FW.seq (FW.region ?_)
     refine FL.v (E.assign (v := Value.int .i64 (-1)) rfl) ?_
     refine FL.nil ?_
     refine FW.ret ?_
     obtain rfl := Option.some.inj hp
     exact ⟨nofun, rfl, ⟨.inr rfl, res1 rfl rfl ⟨rfl, S60.back⟩⟩⟩
    ·
     refine FW.condF rfl c87 ?_
     refine FW.skip (FW.seq (FW.region ?_))
     refine FL.v (E.move (v := Value.int .i64 (wr ((wr (s22 + 1)) + 1))) rfl) ?_
     refine FL.v (E.add rfl rfl) ?_
     refine FL.v (E.assign (v := Value.int .i64 (wr ((wr ((wr (s22 + 1)) + 1)) + 1))) rfl) ?_
     refine FL.nil (FW.seq (FW.seq (FW.region ?_)))
     refine FL.v (E.move k65) ?_
     refine FL.v (E.move k64) ?_
     obtain ⟨p88, cs89, pt90, l91, at92, rel93⟩ := p0.at (ix_nat hx22)
     obtain rfl := eTreeNode_open rel93
     refine FL.v (E.indexAddr te56 rfl rfl pt90) ?_
     refine FL.v (E.fieldAddr tf98_3 rfl) ?_
     refine FL.v (E.load rfl (run_load1 Tryz.isAgg3 ((at92.mono i61).now S60.sl) rfl)) ?_
     refine FL.v (E.move (v := Value.int .i64 (wr ((wr ((wr (s22 + 1)) + 1)) + 1))) rfl) ?_
     refine FL.v (E.neq rfl rfl) ?_
     refine FL.nil ?_
     rcases ifB hp with ⟨c94, hp⟩ | ⟨c94, hp⟩
     ·
      refine FW.condT rfl c94 ?_
      refine FW.seq (FW.region ?_)
      refine FL.v (E.assign (v := Value.int .i64 (-1)) rfl) ?_
      refine FL.nil ?_
      refine FW.ret ?_
      obtain rfl := Option.some.inj hp
      exact ⟨nofun, rfl, ⟨.inr rfl, res1 rfl rfl ⟨rfl, S60.back⟩⟩⟩
     ·
      refine FW.condF rfl c94 ?_
      refine FW.skip (FW.region ?_)
      refine FL.v (E.move (v := Value.int .i64 (wr ((wr ((wr (s22 + 1)) + 1)) + 1))) rfl) ?_
      refine FL.v (E.add rfl rfl) ?_
      refine FL.v (E.assign (v := Value.int .i64 (wr ((wr ((wr ((wr (s22 + 1)) + 1)) + 1)) + 1))) rfl) ?_
      refine FL.nil (FW.region ?_)
      refine FL.v (E.move k64) ?_
      refine FL.v (E.add rfl rfl) ?_
      refine FL.v (E.assign (v := Value.int .i64 (wr (((i22 : Nat) : Int) + 1))) rfl) ?_
      refine FL.nil ?_
      obtain rfl := Option.some.inj hp
      exact ⟨rfl, ⟨_, S60, i61, (nat_succ rfl (lt_of_get hx22) (p0.mono i61).le), k65, rfl⟩⟩
 ·
  clear hp hq
  rintro s22 f106 w105 ⟨H102, S103, i104, k107, k108, k109⟩
  refine FW.seq (FW.seq (FW.region ?_))
  refine FL.v (E.move k107) ?_
  refine FL.v (E.move k108) ?_
  refine FL.v (E.lenP te56 rfl p0) ?_
  refine FL.v (E.lss rfl rfl) ?_
  refine FL.nil ?_
  refine FW.condF rfl dlt_len ?_
  refine FW.exit ?_
  exact ⟨nofun, rfl, ⟨_, S103, i104, k109⟩⟩
 ·
  clear hq
  intro e f100 w99 hD
  rcases q22 with s22 | x22
  ·
   obtain ⟨rfl, hD⟩ := hD
   obtain ⟨H96, S97, i98, k101⟩ := hD
   replace hp := el_go hp
   refine FW.seq (FW.region ?_)
   refine FL.v (E.move k101) ?_
   refine FL.v (E.assign (v := Value.int .i64 s22) rfl) ?_
   refine FL.nil ?_
   refine FW.ret ?_
   obtain rfl := Option.some.inj hp
   exact ⟨.inr rfl, res1 rfl rfl ⟨rfl, S97.back⟩⟩
  ·
   obtain ⟨he, hL⟩ := hD
   replace hp := el_rt hp
   obtain rfl := Option.some.inj hp
   subst he
   exact hL

set_option maxHeartbeats 4000000 in
theorem w_laws_FnExactProofToTree {Ha : GH} {wa : World} (hs : Sl Ha wa) (a0 : Cnf) (v0_1 : Value) (p0_1 : RSl Ha (eL eI 1) 1 v0_1 a0.clauses) (v1 : Value) (a1 : List ResStep) (p1 : RSl Ha eResStep 4 v1 a1) {r : Bool} (hp : (PF.laws_FnExactProofToTree a0 a1) = some r) :
  Calls Tryz.prog 6 #[Value.agg #[Value.int .i64 a0.vars, v0_1], v1] wa (Sc Ha wa (Value.bool r)) := by
 unfold PF.laws_FnExactProofToTree at hp
 have S0 := St.init hs
 refine calls_go (N := 119) (args := [Value.agg #[Value.int .i64 a0.vars, v0_1], v1]) Tryz.func6 rfl rfl rfl ?_
 refine FW.seq (FW.region ?_)
 obtain ⟨w21, run22, S23, z24⟩ := S0.boxB (P := Tryz.prog) 24 [Value.int .i64 a0.vars, v0_1] (v := Value.agg #[Value.int .i64 a0.vars, v0_1]) rfl (ones_cons rfl (ones_cons p0_1.one ones_nil))
 refine FL.v (E.box rfl run22) ?_
 obtain ⟨H25, S26, i27, at28⟩ := S23.sealBoxB (i := 0) (l' := []) rfl rfl
 refine FL.v (E.assign (v := Value.bool false) rfl) ?_
 refine FL.nil (FW.seq (FW.region ?_))
 refine FL.v (E.assign (v := Value.int .i64 1048576) rfl) ?_
 refine FL.nil (FW.seq (FW.region ?_))
 refine FL.v (E.load rfl (run_loadA Tryz.isAgg24 Tryz.sizeOf24 ((at28.mono sgI).now S26.sl) rfl)) ?_
 refine FL.v (E.move (v := Value.int .i64 1048576) rfl) ?_
 obtain ⟨r29, hr30, hp⟩ := bnd hp
 refine FL.call rfl rfl rfl (E.call Tryz.call8 (A2 rfl rfl)) (w_laws_szCnf S26.sl a0 v0_1 (p0_1.mono i27) 1048576 hr30) ?_
 rintro e w31 ⟨rfl, r32⟩
 refine ⟨_, rfl, ?_⟩
 have S33 := S26.call r32
 have z34 := r32.bel.size
 refine FL.v (E.assign (v := Value.int .i64 r29) rfl) ?_
 refine FL.nil (FW.seq (FW.seq (FW.region ?_)))
 refine FL.v (E.move (v := Value.int .i64 r29) rfl) ?_
 refine FL.v (E.lss rfl rfl) ?_
 refine FL.nil ?_
 rcases ifB hp with ⟨c35, hp⟩ | ⟨c35, hp⟩
 ·
  refine FW.condT rfl c35 ?_
  refine FW.seq (FW.region ?_)
  refine FL.v (E.assign (v := Value.bool true) rfl) ?_
  refine FL.nil ?_
  refine FW.ret ?_
  obtain rfl := Option.some.inj hp
  exact ⟨.inr rfl, res1 rfl rfl ⟨rfl, S33.back⟩⟩
 ·
  refine FW.condF rfl c35 ?_
  refine FW.skip (FW.seq (FW.region ?_))
  refine FL.v (E.move (v := v1) rfl) ?_
  refine FL.v (E.move (v := Value.int .i64 r29) rfl) ?_
  obtain ⟨r36, hr37, hp⟩ := bnd hp
  refine FL.call rfl rfl rfl (E.call Tryz.call33 (A2 rfl rfl)) (w_laws_szResStepS S33.sl v1 a1 (p1.mono i27) r29 hr37) ?_
  rintro e w38 ⟨rfl, r39⟩
  refine ⟨_, rfl, ?_⟩
  have S40 := S33.call r39
  have z41 := r39.bel.size
  refine FL.v (E.assign (v := Value.int .i64 r36) rfl) ?_
  refine FL.nil (FW.seq (FW.seq (FW.region ?_)))
  refine FL.v (E.move (v := Value.int .i64 r36) rfl) ?_
  refine FL.v (E.lss rfl rfl) ?_
  refine FL.nil ?_
  rcases ifB hp with ⟨c42, hp⟩ | ⟨c42, hp⟩
  ·
   refine FW.condT rfl c42 ?_
   refine FW.seq (FW.region ?_)
   refine FL.v (E.assign (v := Value.bool true) rfl) ?_
   refine FL.nil ?_
   refine FW.ret ?_
   obtain rfl := Option.some.inj hp
   exact ⟨.inr rfl, res1 rfl rfl ⟨rfl, S40.back⟩⟩
  ·
   refine FW.condF rfl c42 ?_
   refine FW.skip (FW.seq (FW.region ?_))
   refine FL.v (E.load rfl (run_loadA Tryz.isAgg24 Tryz.sizeOf24 ((at28.mono sgI).now S40.sl) rfl)) ?_
   obtain ⟨r43, hr44, hp⟩ := bnd hp
   refine FL.call rfl rfl rfl (E.call Tryz.call11 (A1 rfl)) (w_laws_toCnf S40.sl a0 v0_1 (p0_1.mono i27) hr44) ?_
   rintro e w46 ⟨H45, v49, rfl, r48, ⟨c52, ns51⟩⟩
   refine ⟨_, rfl, ?_⟩
   have h50 := ns51.rsl
   have nv53 : New H25 [v49] := New.of_up S40.sl h50.dom
   have S47 := S40.call r48
   have z54 := r48.bel.size
   have h50 := h50.mono (sg_of S47.sl)
   have ns51 := ns51.mono (sg_of S47.sl)
   refine FL.v (E.move (v := v1) rfl) ?_
   obtain ⟨r55, hr56, hp⟩ := bnd hp
   refine FL.call rfl rfl rfl (E.call Tryz.call35 (A1 rfl)) (w_laws_toResStepS S47.sl v1 a1 (p1.mono (i27.tr r48.inc)) hr56) ?_
   rintro e w58 ⟨H57, v61, n62, cs63, rfl, r60, els64, nd65⟩
   refine ⟨_, rfl, ?_⟩
   have nv66 : New H45 cs63 := New.of_up S47.sl els64.dom
   obtain ⟨H67, r68, i69, ns72, nv71⟩ := r60.sealRowN (i := 0) (l' := []) rfl els64 nd65 (by decide) rfl
   have h70 := ns72.rsl
   have S59 := S47.call r68.run
   have z73 := r68.run.bel.size
   have h70 := h70.mono (sg_of S59.sl)
   have ns72 := ns72.mono (sg_of S59.sl)
   obtain ⟨r74, hr75, hp⟩ := bnd hp
   refine FL.call rfl rfl rfl (E.call Tryz.call34 (A2 rfl rfl)) (w_spec_ProofToTree S59.sl r43 v49 (h50.mono (sgI.tr r68.run.inc)) v61 r55 (h70.mono sgI) hr75) ?_
   rintro e w77 ⟨H76, v80, n81, cs82, rfl, r79, els83⟩
   refine ⟨_, rfl, ?_⟩
   obtain ⟨H84, r85, i86, h87, nv88⟩ := r79.sealRowU (i := 0) (l' := []) rfl els83 (by decide) rfl
   have S78 := S59.call r85.run
   have z89 := r85.run.bel.size
   have h87 := h87.mono (sg_of S78.sl)
   refine FL.v (E.move (v := Value.tuple #[v80, Value.bool r74.2]) rfl) ?_
   refine FL.v (E.extract (i := 0) rfl rfl) ?_
   refine FL.v (E.extract (i := 1) rfl rfl) ?_
   refine FL.v (E.assign (v := v80) rfl) ?_
   refine FL.v (E.assign (v := Value.bool r74.2) rfl) ?_
   refine FL.nil (FW.seq (FW.region ?_))
   refine FL.v (E.load rfl (run_loadA Tryz.isAgg24 Tryz.sizeOf24 ((at28.mono (sgI.tr ((r48.inc.tr r68.run.inc).tr r85.run.inc))).now S78.sl) rfl)) ?_
   obtain ⟨r90, hr91, hp⟩ := bnd hp
   refine FL.call rfl rfl rfl (E.call Tryz.call11 (A1 rfl)) (w_laws_toCnf S78.sl a0 v0_1 (p0_1.mono (((i27.tr r48.inc).tr r68.run.inc).tr r85.run.inc)) hr91) ?_
   rintro e w93 ⟨H92, v96, rfl, r95, ⟨c99, ns98⟩⟩
   refine ⟨_, rfl, ?_⟩
   have h97 := ns98.rsl
   have nv100 : New H84 [v96] := New.of_up S78.sl h97.dom
   have S94 := S78.call r95
   have z101 := r95.bel.size
   have h97 := h97.mono (sg_of S94.sl)
   have ns98 := ns98.mono (sg_of S94.sl)
   obtain ⟨w102, run103, S104, z105⟩ := S94.allocB (P := Tryz.prog) 30 [Value.int .i64 0, Value.slice none 0 0] Tryz.zeroValue30 rfl (ones_cons rfl (ones_cons rfl ones_nil))
   refine FL.v (E.alloc run103) ?_
   obtain ⟨w106, run107, S108, z109⟩ := S104.store0B (P := Tryz.prog) (t := 30) (i := 0) (cs' := [Value.int .i64 r90.vars, v96]) (l' := [.box w93.heap.size 30 [Value.int .i64 r90.vars, v96]]) (v := Value.agg #[Value.int .i64 r90.vars, v96]) (c := [Value.int .i64 r90.vars, v96]) rfl Tryz.sizeOf30 rfl rfl (ones_cons rfl (ones_cons h97.one ones_nil)) (Nat.le_of_ble_eq_true rfl) rfl rfl
   refine FL.act rfl rfl (E.store rfl rfl run107) ?_
   obtain ⟨H110, S111, i112, at113⟩ := S108.sealBoxB (i := 0) (l' := []) rfl rfl
   refine FL.nil (FW.seq (FW.region ?_))
   refine FL.v (E.move (v := v1) rfl) ?_
   obtain ⟨r114, hr115, hp⟩ := bnd hp
   refine FL.call rfl rfl rfl (E.call Tryz.call35 (A1 rfl)) (w_laws_toResStepS S111.sl v1 a1 (p1.mono (((((i27.tr r48.inc).tr r68.run.inc).tr r85.run.inc).tr r95.inc).tr i112)) hr115) ?_
   rintro e w117 ⟨H116, v120, n121, cs122, rfl, r119, els123, nd124⟩
   refine ⟨_, rfl, ?_⟩
   have nv125 : New H110 cs122 := New.of_up S111.sl els123.dom
   obtain ⟨H126, r127, i128, ns131, nv130⟩ := r119.sealRowN (i := 0) (l' := []) rfl els123 nd124 (by decide) rfl
   have h129 := ns131.rsl
   have S118 := S111.call r127.run
   have z132 := r127.run.bel.size
   have h129 := h129.mono (sg_of S118.sl)
   have ns131 := ns131.mono (sg_of S118.sl)
   refine FL.v (E.assign (v := v120) rfl) ?_
   refine FL.nil (FW.seq (FW.region ?_))
   refine FL.v (E.load rfl (run_loadA Tryz.isAgg30 Tryz.sizeOf30 ((at113.mono (sgI.tr r127.run.inc)).now S118.sl) rfl)) ?_
   refine FL.v (E.move (v := v120) rfl) ?_
   obtain ⟨r133, hr134, hp⟩ := bnd hp
   refine FL.call rfl rfl rfl (E.call Tryz.call36 (A2 rfl rfl)) (w_impl_ProofToTree S118.sl r90 v96 (h97.mono (sgI.tr (i112.tr r127.run.inc))) v120 r114 (h129.mono sgI) hr134) ?_
   rintro e w136 ⟨H135, v139, n140, cs141, rfl, r138, els142⟩
   refine ⟨_, rfl, ?_⟩
   obtain ⟨H143, r144, i145, h146, nv147⟩ := r138.sealRowU (i := 0) (l' := []) rfl els142 (by decide) rfl
   have S137 := S118.call r144.run
   have z148 := r144.run.bel.size
   have h146 := h146.mono (sg_of S137.sl)
   refine FL.v (E.move (v := Value.tuple #[v139, Value.bool r133.2]) rfl) ?_
   refine FL.v (E.extract (i := 0) rfl rfl) ?_
   refine FL.v (E.extract (i := 1) rfl rfl) ?_
   refine FL.v (E.assign (v := v139) rfl) ?_
   refine FL.v (E.assign (v := Value.bool r133.2) rfl) ?_
   refine FL.nil (FW.seq (FW.seq (FW.region ?_)))
   refine FL.v (E.move (v := v139) rfl) ?_
   refine FL.v (E.move (v := v80) rfl) ?_
   obtain ⟨r149, hr150, hp⟩ := bnd hp
   refine FL.call rfl rfl rfl (E.call Tryz.call31 (A2 rfl rfl)) (w_laws_eqTreeNodeS S137.sl v139 r133.1 (h146.mono sgI) v80 r74.1 (h87.mono (sgI.tr (((r95.inc.tr i112).tr r127.run.inc).tr r144.run.inc))) hr150) ?_
   rintro e w151 ⟨rfl, r152⟩
   refine ⟨_, rfl, ?_⟩
   have S153 := S137.call r152
   have z154 := r152.bel.size
   refine FL.v (E.not rfl) ?_
   refine FL.v (E.move (v := Value.bool (!r149)) rfl) ?_
   refine FL.cut 4 (fun f w => ∃ H : GH, St Ha wa H w [] ∧ Inc H143 H ∧ f 1 = v1 ∧ f 2 = Value.pointer (some ⟨wa.heap.size, 0, none⟩) ∧ f 6 = v80 ∧ f 7 = Value.bool r74.2 ∧ f 8 = Value.pointer (some ⟨w93.heap.size, 0, none⟩) ∧ f 9 = v120 ∧ f 10 = v139 ∧ f 11 = Value.bool r133.2 ∧ f 53 = Value.bool (bif (!r149) then true else (!(r133.2 == r74.2)))) ?_ ?_
   ·
    rcases bcase (!r149) with c161 | c161
    ·
     refine FL.skip (wF_no rfl rfl rfl c161) rfl ?_
     refine FL.skip (wF_no rfl rfl rfl c161) rfl ?_
     refine FL.skip (wF_no rfl rfl rfl c161) rfl ?_
     refine FL.v (E.pickT rfl c161 rfl) ?_
     exact FL.nil ⟨rfl, _, S153, (Inc.rfl _), rfl, rfl, rfl, rfl, rfl, rfl, rfl, rfl, (congrArg Value.bool (bifT c161).symm)⟩
    ·
     refine FL.val (wF_yes rfl rfl rfl c161) rfl rfl (E.move (v := Value.bool r133.2) rfl) ?_
     refine FL.val (wF_yes rfl rfl rfl c161) rfl rfl (E.move (v := Value.bool r74.2) rfl) ?_
     refine FL.val (wF_yes rfl rfl rfl c161) rfl rfl (E.neqB Tryz.runUnderlying4 rfl rfl) ?_
     refine FL.v (E.pickF rfl c161 rfl) ?_
     exact FL.nil ⟨rfl, _, S153, (Inc.rfl _), rfl, rfl, rfl, rfl, rfl, rfl, rfl, rfl, (congrArg Value.bool (bifF c161).symm)⟩
   rintro f160 w159 ⟨H156, S157, i158, k162, k163, k164, k165, k166, k167, k168, k169, k170⟩
   refine FL.nil ?_
   rcases ifB hp with ⟨c171, hp⟩ | ⟨c171, hp⟩
   ·
    refine FW.condT k170 c171 ?_
    refine FW.seq (FW.region ?_)
    refine FL.v (E.assign (v := Value.bool false) rfl) ?_
    refine FL.nil ?_
    refine FW.ret ?_
    obtain rfl := Option.some.inj hp
    exact ⟨.inr rfl, res1 rfl rfl ⟨rfl, S157.back⟩⟩
   ·
    refine FW.condF k170 c171 ?_
    refine FW.skip (FW.seq (FW.seq ?_))
    obtain ⟨r155, hr175, hp⟩ := bnd hp
    obtain ⟨r186, hr187, hp⟩ := bnd hp
    refine FW.drawB (Sl H156) (fun f w => ∃ H : GH, St Ha wa H w [] ∧ Inc H156 H ∧ f 1 = v1 ∧ f 2 = Value.pointer (some ⟨wa.heap.size, 0, none⟩) ∧ f 6 = v80 ∧ f 7 = Value.bool r74.2 ∧ f 8 = Value.pointer (some ⟨w93.heap.size, 0, none⟩) ∧ f 9 = v120 ∧ f 10 = v139 ∧ f 11 = Value.bool r133.2 ∧ f 58 = Value.bool (!r186)) (by kernel_rfl) S157.sl ?_ ?_
    ·
     intro w172 r173
     have S174 := S157.call r173
     refine FB.t (i := 0) (bs 5 1) rfl (SP.nil S174.sl) rfl (fun w' hw' => (E.load k166 (run_loadA Tryz.isAgg30 Tryz.sizeOf30 ((at113.mono (sgI.tr ((r127.run.inc.tr r144.run.inc).tr i158))).now hw') rfl))) ?_
     refine FB.t (i := 1) (bs 5 3) rfl (SP.nil S174.sl) rfl (fun w' hw' => (E.load k163 (run_loadA Tryz.isAgg24 Tryz.sizeOf24 ((at28.mono (sgI.tr (((((((r48.inc.tr r68.run.inc).tr r85.run.inc).tr r95.inc).tr i112).tr r127.run.inc).tr r144.run.inc).tr i158))).now hw') rfl))) ?_
     refine FB.all1 (i := 2) (by kernel_rfl) ?_
     ·
      refine FC.call (l' := (bs 5 7)) rfl (by kernel_rfl) rfl rfl rfl (E.call Tryz.call11 (A1 rfl)) (w_laws_toCnf S174.sl a0 v0_1 (p0_1.mono ((((((((i27.tr r48.inc).tr r68.run.inc).tr r85.run.inc).tr r95.inc).tr i112).tr r127.run.inc).tr r144.run.inc).tr i158)) hr175) ?_
      rintro e w177 ⟨H176, v180, rfl, r179, ⟨c183, ns182⟩⟩
      refine ⟨_, rfl, ?_⟩
      have h181 := ns182.rsl
      have nv184 : New H156 [v180] := New.of_up S174.sl h181.dom
      have S178 := S174.call r179
      have z185 := r179.bel.size
      have h181 := h181.mono (sg_of S178.sl)
      have ns182 := ns182.mono (sg_of S178.sl)
      refine ⟨(SP.nil (Sl.of_inc r179.inc S178.sl)), ?_⟩
      refine FB.all1 (i := 3) (by kernel_rfl) ?_
      ·
       refine FC.call (l' := (bs 5 15)) rfl (by kernel_rfl) rfl rfl rfl (E.call Tryz.call15 (A2 rfl rfl)) (w_laws_eqCnf S178.sl r90 v96 (h97.mono (sgI.tr ((((i112.tr r127.run.inc).tr r144.run.inc).tr i158).tr r179.inc))) r155 v180 (h181.mono sgI) hr187) ?_
       rintro e w188 ⟨rfl, r189⟩
       refine ⟨_, rfl, ?_⟩
       have S190 := S178.call r189
       have z191 := r189.bel.size
       refine ⟨(SP.nil (Sl.of_inc r179.inc S190.sl)), ?_⟩
       refine FB.t (i := 4) (bs 5 31) rfl (SP.nil (Sl.of_inc r179.inc S190.sl)) rfl (fun w' hw' => (E.not rfl)) ?_
       exact FB.done (by kernel_rfl) ⟨_, S190, r179.inc, k162, k163, k164, k165, k166, k167, k168, k169, rfl⟩
    ·
     rintro f196 w195 ⟨H192, S193, i194, k197, k198, k199, k200, k201, k202, k203, k204, k205⟩
     rcases ifB hp with ⟨c206, hp⟩ | ⟨c206, hp⟩
     ·
      refine FW.condT k205 c206 ?_
      refine FW.seq (FW.region ?_)
      refine FL.v (E.assign (v := Value.bool false) rfl) ?_
      refine FL.nil ?_
      refine FW.ret ?_
      obtain rfl := Option.some.inj hp
      exact ⟨.inr rfl, res1 rfl rfl ⟨rfl, S193.back⟩⟩
     ·
      refine FW.condF k205 c206 ?_
      refine FW.skip (FW.seq (FW.seq (FW.region ?_)))
      refine FL.v (E.move k202) ?_
      refine FL.v (E.move k197) ?_
      obtain ⟨r207, hr208, hp⟩ := bnd hp
      refine FL.call rfl rfl rfl (E.call Tryz.call35 (A1 rfl)) (w_laws_toResStepS S193.sl v1 a1 (p1.mono (((((((((i27.tr r48.inc).tr r68.run.inc).tr r85.run.inc).tr r95.inc).tr i112).tr r127.run.inc).tr r144.run.inc).tr i158).tr i194)) hr208) ?_
      rintro e w210 ⟨H209, v213, n214, cs215, rfl, r212, els216, nd217⟩
      refine ⟨_, rfl, ?_⟩
      have nv218 : New H192 cs215 := New.of_up S193.sl els216.dom
      obtain ⟨H219, r220, i221, ns224, nv223⟩ := r212.sealRowN (i := 0) (l' := []) rfl els216 nd217 (by decide) rfl
      have h222 := ns224.rsl
      have S211 := S193.call r220.run
      have z225 := r220.run.bel.size
      have h222 := h222.mono (sg_of S211.sl)
      have ns224 := ns224.mono (sg_of S211.sl)
      obtain ⟨r226, hr227, hp⟩ := bnd hp
      refine FL.call rfl rfl rfl (E.call Tryz.call37 (A2 rfl rfl)) (w_laws_eqResStepS S211.sl v120 r114 (h129.mono (sgI.tr (((r144.run.inc.tr i158).tr i194).tr r220.run.inc))) v213 r207 (h222.mono sgI) hr227) ?_
      rintro e w228 ⟨rfl, r229⟩
      refine ⟨_, rfl, ?_⟩
      have S230 := S211.call r229
      have z231 := r229.bel.size
      refine FL.v (E.not rfl) ?_
      refine FL.nil ?_
      rcases ifB hp with ⟨c232, hp⟩ | ⟨c232, hp⟩
      ·
       refine FW.condT rfl c232 ?_
       refine FW.seq (FW.region ?_)
       refine FL.v (E.assign (v := Value.bool false) rfl) ?_
       refine FL.nil ?_
       refine FW.ret ?_
       obtain rfl := Option.some.inj hp
       exact ⟨.inr rfl, res1 rfl rfl ⟨rfl, S230.back⟩⟩
      ·
       refine FW.condF rfl c232 ?_
       refine FW.skip (FW.seq (FW.region ?_))
       refine FL.v (E.assign (v := Value.int .i64 1) rfl) ?_
       refine FL.nil (FW.seq (FW.region ?_))
       refine FL.v (E.load k201 (run_loadA Tryz.isAgg30 Tryz.sizeOf30 ((at113.mono (sgI.tr ((((r127.run.inc.tr r144.run.inc).tr i158).tr i194).tr r220.run.inc))).now S230.sl) rfl)) ?_
       refine FL.v (E.move (v := Value.int .i64 1) rfl) ?_
       refine FL.call rfl rfl rfl (E.call Tryz.call17 (A2 rfl rfl)) (w_laws_markCnf S230 hs r90 v96 c99 (ns98.mono (sg_up (by omega) (((((i112.tr r127.run.inc).tr r144.run.inc).tr i158).tr i194).tr r220.run.inc))) 1) ?_
       rintro e w234 ⟨H233, c239, rfl, S235, ns241, hb240, o237⟩
       refine ⟨_, rfl, ?_⟩
       have o238 := (ns98.mono (sg_mono (hi := w93.heap.size) (((((i112.tr r127.run.inc).tr r144.run.inc).tr i158).tr i194).tr r220.run.inc))).outside o237
       have ns241 := ns98.span (eL_loc eI_flat) (by omega) ns241 hb240
       have h236 := ns241.rsl
       have f242 := at28.mono ((sg_mono (lo := wa.heap.size) (hi := wa.heap.size + 1) (((((((((r48.inc.tr r68.run.inc).tr r85.run.inc).tr r95.inc).tr i112).tr r127.run.inc).tr r144.run.inc).tr i158).tr i194).tr r220.run.inc)).tr (sg_keep o238 (by omega)))
       have f243 := h87.mono ((sg_mono (lo := w58.heap.size) (hi := w77.heap.size) ((((((r95.inc.tr i112).tr r127.run.inc).tr r144.run.inc).tr i158).tr i194).tr r220.run.inc)).tr (sg_keep o238 (by omega)))
       have f244 := at113.mono ((sg_mono (lo := w93.heap.size) (hi := w93.heap.size + 1) ((((r127.run.inc.tr r144.run.inc).tr i158).tr i194).tr r220.run.inc)).tr (sg_keep o238 (by omega)))
       have f245 := h129.mono ((sg_mono (lo := w106.heap.size) (hi := w117.heap.size) (((r144.run.inc.tr i158).tr i194).tr r220.run.inc)).tr (sg_keep o238 (by omega)))
       have f246 := ns131.mono ((sg_mono (lo := w106.heap.size) (hi := w117.heap.size) (((r144.run.inc.tr i158).tr i194).tr r220.run.inc)).tr (sg_keep o238 (by omega)))
       have f247 := h146.mono ((sg_mono (lo := w117.heap.size) (hi := w136.heap.size) ((i158.tr i194).tr r220.run.inc)).tr (sg_keep o238 (by omega)))
       refine FL.v (E.assign (v := Value.int .i64 ((PF.laws_markCnf r90 1).2)) rfl) ?_
       refine FL.nil (FW.seq (FW.region ?_))
       refine FL.v (E.move k202) ?_
       refine FL.v (E.move (v := Value.int .i64 ((PF.laws_markCnf r90 1).2)) rfl) ?_
       refine FL.call rfl rfl rfl (E.call Tryz.call38 (A2 rfl rfl)) (w_laws_markResStepS S235 hs v120 r114 cs122 (f246.mono (sg_up (by omega) (Inc.rfl _))) ((PF.laws_markCnf r90 1).2)) ?_
       rintro e w249 ⟨H248, c254, rfl, S250, ns256, hb255, o252⟩
       refine ⟨_, rfl, ?_⟩
       have o253 := (f246.mono (sg_mono (hi := w117.heap.size) (Inc.rfl _))).outside o252
       have ns256 := f246.span eResStep_loc (by omega) ns256 hb255
       have h251 := ns256.rsl
       have f257 := f242.mono ((sg_mono (lo := wa.heap.size) (hi := wa.heap.size + 1) (Inc.rfl _)).tr (sg_keep o253 (by omega)))
       have f258 := f243.mono ((sg_mono (lo := w58.heap.size) (hi := w77.heap.size) (Inc.rfl _)).tr (sg_keep o253 (by omega)))
       have f259 := f244.mono ((sg_mono (lo := w93.heap.size) (hi := w93.heap.size + 1) (Inc.rfl _)).tr (sg_keep o253 (by omega)))
       have f260 := h236.mono ((sg_mono (lo := w77.heap.size) (hi := w93.heap.size) (Inc.rfl _)).tr (sg_keep o253 (by omega)))
       have f261 := ns241.mono ((sg_mono (lo := w77.heap.size) (hi := w93.heap.size) (Inc.rfl _)).tr (sg_keep o253 (by omega)))
       have f262 := f247.mono ((sg_mono (lo := w117.heap.size) (hi := w136.heap.size) (Inc.rfl _)).tr (sg_keep o253 (by omega)))
       refine FL.v (E.assign (v := Value.int .i64 ((PF.laws_markResStepS r114 ((PF.laws_markCnf r90 1).2)).2)) rfl) ?_
       refine FL.nil (FW.seq (FW.seq (FW.region ?_)))
       refine FL.v (E.move (v := Value.int .i64 ((PF.laws_markResStepS r114 ((PF.laws_markCnf r90 1).2)).2)) rfl) ?_
       refine FL.v (E.lss rfl rfl) ?_
       refine FL.v (E.move (v := Value.bool (decide ((PF.laws_markResStepS r114 ((PF.laws_markCnf r90 1).2)).2 < 0))) rfl) ?_
       obtain ⟨t263, hqt263, hp⟩ := bnd hp
       refine FL.cut 5 (fun f w => ∃ H : GH, St Ha wa H w [] ∧ Inc H248 H ∧ f 1 = v1 ∧ f 2 = Value.pointer (some ⟨wa.heap.size, 0, none⟩) ∧ f 6 = v80 ∧ f 7 = Value.bool r74.2 ∧ f 10 = v139 ∧ f 11 = Value.bool r133.2 ∧ f 77 = Value.bool t263) ?_ ?_
       ·
        clear hp; have hp := hqt263; clear hqt263
        rcases ifB hp with ⟨c269, hp⟩ | ⟨c269, hp⟩
        ·
         refine FL.skip (wF_no rfl rfl rfl c269) rfl ?_
         refine FL.skip (wF_no rfl rfl rfl c269) rfl ?_
         refine FL.skip (wF_no rfl rfl rfl c269) rfl ?_
         refine FL.skip (wF_no rfl rfl rfl c269) rfl ?_
         obtain rfl := Option.some.inj hp
         refine FL.v (E.pickT rfl c269 rfl) ?_
         exact FL.nil ⟨rfl, _, S250, (Inc.rfl _), k197, k198, k199, k200, k203, k204, rfl⟩
        ·
         refine FL.val (wF_yes rfl rfl rfl c269) rfl rfl (E.move k203) ?_
         refine FL.val (wF_yes rfl rfl rfl c269) rfl rfl (E.move k199) ?_
         obtain ⟨r270, hr271, hp⟩ := bnd hp
         refine FL.call (wF_yes rfl rfl rfl c269) rfl rfl (E.call Tryz.call31 (A2 rfl rfl)) (w_laws_eqTreeNodeS S250.sl v139 r133.1 (f262.mono sgI) v80 r74.1 (f258.mono sgI) hr271) ?_
         rintro e w272 ⟨rfl, r273⟩
         refine ⟨_, rfl, ?_⟩
         have S274 := S250.call r273
         have z275 := r273.bel.size
         refine FL.val (wF_yes rfl rfl rfl c269) rfl rfl (E.not rfl) ?_
         obtain rfl := Option.some.inj hp
         refine FL.v (E.pickF rfl c269 rfl) ?_
         exact FL.nil ⟨rfl, _, S274, (Inc.rfl _), k197, k198, k199, k200, k203, k204, rfl⟩
       rintro f268 w267 ⟨H264, S265, i266, k276, k277, k278, k279, k280, k281, k282⟩
       refine FL.v (E.move k282) ?_
       refine FL.cut 4 (fun f w => ∃ H : GH, St Ha wa H w [] ∧ Inc H264 H ∧ f 1 = v1 ∧ f 2 = Value.pointer (some ⟨wa.heap.size, 0, none⟩) ∧ f 6 = v80 ∧ f 7 = Value.bool r74.2 ∧ f 10 = v139 ∧ f 82 = Value.bool (bif t263 then true else (!(r133.2 == r74.2)))) ?_ ?_
       ·
        rcases bcase t263 with c288 | c288
        ·
         refine FL.skip (wF_no rfl rfl rfl c288) rfl ?_
         refine FL.skip (wF_no rfl rfl rfl c288) rfl ?_
         refine FL.skip (wF_no rfl rfl rfl c288) rfl ?_
         refine FL.v (E.pickT rfl c288 rfl) ?_
         exact FL.nil ⟨rfl, _, S265, (Inc.rfl _), k276, k277, k278, k279, k280, (congrArg Value.bool (bifT c288).symm)⟩
        ·
         refine FL.val (wF_yes rfl rfl rfl c288) rfl rfl (E.move k281) ?_
         refine FL.val (wF_yes rfl rfl rfl c288) rfl rfl (E.move k279) ?_
         refine FL.val (wF_yes rfl rfl rfl c288) rfl rfl (E.neqB Tryz.runUnderlying4 rfl rfl) ?_
         refine FL.v (E.pickF rfl c288 rfl) ?_
         exact FL.nil ⟨rfl, _, S265, (Inc.rfl _), k276, k277, k278, k279, k280, (congrArg Value.bool (bifF c288).symm)⟩
       rintro f287 w286 ⟨H283, S284, i285, k289, k290, k291, k292, k293, k294⟩
       refine FL.nil ?_
       rcases ifB hp with ⟨c295, hp⟩ | ⟨c295, hp⟩
       ·
        refine FW.condT k294 c295 ?_
        refine FW.seq (FW.region ?_)
        refine FL.v (E.assign (v := Value.bool false) rfl) ?_
        refine FL.nil ?_
        refine FW.ret ?_
        obtain rfl := Option.some.inj hp
        exact ⟨.inr rfl, res1 rfl rfl ⟨rfl, S284.back⟩⟩
       ·
        refine FW.condF k294 c295 ?_
        refine FW.skip (FW.seq (FW.region ?_))
        refine FL.v (E.assign (v := Value.int .i64 1) rfl) ?_
        refine FL.nil (FW.seq (FW.region ?_))
        refine FL.v (E.move k293) ?_
        refine FL.v (E.move (v := Value.int .i64 1) rfl) ?_
        refine FL.call rfl rfl rfl (E.call Tryz.call32 (A2 rfl rfl)) (w_laws_markTreeNodeS S284 hs v139 r133.1 (f262.mono (sg_up (by omega) (i266.tr i285))) 1) ?_
        rintro e w297 ⟨H296, rfl, S298, h299, o300⟩
        refine ⟨_, rfl, ?_⟩
        have o301 := (f262.mono (sg_mono (hi := w136.heap.size) (i266.tr i285))).outside o300
        have h299 := f262.span eTreeNode_flat (by omega) h299
        have f302 := f257.mono ((sg_mono (lo := wa.heap.size) (hi := wa.heap.size + 1) (i266.tr i285)).tr (sg_keep o301 (by omega)))
        have f303 := f258.mono ((sg_mono (lo := w58.heap.size) (hi := w77.heap.size) (i266.tr i285)).tr (sg_keep o301 (by omega)))
        refine FL.v (E.assign (v := Value.int .i64 ((PF.laws_markTreeNodeS r133.1 1).2)) rfl) ?_
        refine FL.nil (FW.seq (FW.region ?_))
        refine FL.v (E.assign (v := Value.int .i64 1) rfl) ?_
        refine FL.nil (FW.seq (FW.region ?_))
        refine FL.v (E.move k293) ?_
        refine FL.v (E.move (v := Value.int .i64 1) rfl) ?_
        obtain ⟨r304, hr305, hp⟩ := bnd hp
        refine FL.call rfl rfl rfl (E.call Tryz.call39 (A2 rfl rfl)) (w_laws_heldTreeNodeS S298.sl v139 ((PF.laws_markTreeNodeS r133.1 1).1) (h299.mono sgI) 1 hr305) ?_
        rintro e w306 ⟨rfl, r307⟩
        refine ⟨_, rfl, ?_⟩
        have S308 := S298.call r307
        have z309 := r307.bel.size
        refine FL.v (E.assign (v := Value.int .i64 r304) rfl) ?_
        refine FL.nil (FW.seq (FW.seq (FW.region ?_)))
        refine FL.v (E.move (v := Value.int .i64 r304) rfl) ?_
        refine FL.v (E.lss rfl rfl) ?_
        refine FL.nil ?_
        rcases ifB hp with ⟨c310, hp⟩ | ⟨c310, hp⟩
        ·
         refine FW.condT rfl c310 ?_
         refine FW.seq (FW.region ?_)
         refine FL.v (E.assign (v := Value.bool false) rfl) ?_
         refine FL.nil ?_
         refine FW.ret ?_
         obtain rfl := Option.some.inj hp
         exact ⟨.inr rfl, res1 rfl rfl ⟨rfl, S308.back⟩⟩
        ·
         refine FW.condF rfl c310 ?_
         refine FW.skip (FW.seq (FW.seq (FW.region ?_)))
         refine FL.v (E.move (v := Value.int .i64 r304) rfl) ?_
         refine FL.v (E.move (v := Value.int .i64 ((PF.laws_markTreeNodeS r133.1 1).2)) rfl) ?_
         refine FL.v (E.neq rfl rfl) ?_
         refine FL.nil ?_
         rcases ifB hp with ⟨c311, hp⟩ | ⟨c311, hp⟩
         ·
          refine FW.condT rfl c311 ?_
          refine FW.seq (FW.region ?_)
          refine FL.v (E.assign (v := Value.bool false) rfl) ?_
          refine FL.nil ?_
          refine FW.ret ?_
          obtain rfl := Option.some.inj hp
          exact ⟨.inr rfl, res1 rfl rfl ⟨rfl, S308.back⟩⟩
         ·
          refine FW.condF rfl c311 ?_
          refine FW.skip (FW.seq (FW.region ?_))
          refine FL.v (E.load k290 (run_loadA Tryz.isAgg24 Tryz.sizeOf24 ((f302.mono sgI).now S308.sl) rfl)) ?_
          obtain ⟨r312, hr313, hp⟩ := bnd hp
          refine FL.call rfl rfl rfl (E.call Tryz.call11 (A1 rfl)) (w_laws_toCnf S308.sl a0 v0_1 (p0_1.mono S298.inc) hr313) ?_
          rintro e w315 ⟨H314, v318, rfl, r317, ⟨c321, ns320⟩⟩
          refine ⟨_, rfl, ?_⟩
          have h319 := ns320.rsl
          have nv322 : New H296 [v318] := New.of_up S308.sl h319.dom
          have S316 := S308.call r317
          have z323 := r317.bel.size
          have h319 := h319.mono (sg_of S316.sl)
          have ns320 := ns320.mono (sg_of S316.sl)
          refine FL.v (E.move k289) ?_
          obtain ⟨r324, hr325, hp⟩ := bnd hp
          refine FL.call rfl rfl rfl (E.call Tryz.call35 (A1 rfl)) (w_laws_toResStepS S316.sl v1 a1 (p1.mono (S298.inc.tr r317.inc)) hr325) ?_
          rintro e w327 ⟨H326, v330, n331, cs332, rfl, r329, els333, nd334⟩
          refine ⟨_, rfl, ?_⟩
          have nv335 : New H314 cs332 := New.of_up S316.sl els333.dom
          obtain ⟨H336, r337, i338, ns341, nv340⟩ := r329.sealRowN (i := 0) (l' := []) rfl els333 nd334 (by decide) rfl
          have h339 := ns341.rsl
          have S328 := S316.call r337.run
          have z342 := r337.run.bel.size
          have h339 := h339.mono (sg_of S328.sl)
          have ns341 := ns341.mono (sg_of S328.sl)
          obtain ⟨r343, hr344, hp⟩ := bnd hp
          refine FL.call rfl rfl rfl (E.call Tryz.call36 (A2 rfl rfl)) (w_impl_ProofToTree S328.sl r312 v318 (h319.mono (sgI.tr r337.run.inc)) v330 r324 (h339.mono sgI) hr344) ?_
          rintro e w346 ⟨H345, v349, n350, cs351, rfl, r348, els352⟩
          refine ⟨_, rfl, ?_⟩
          obtain ⟨H353, r354, i355, h356, nv357⟩ := r348.sealRowU (i := 0) (l' := []) rfl els352 (by decide) rfl
          have S347 := S328.call r354.run
          have z358 := r354.run.bel.size
          have h356 := h356.mono (sg_of S347.sl)
          refine FL.v (E.move (v := Value.tuple #[v349, Value.bool r343.2]) rfl) ?_
          refine FL.v (E.extract (i := 0) rfl rfl) ?_
          refine FL.v (E.extract (i := 1) rfl rfl) ?_
          refine FL.v (E.assign (v := v349) rfl) ?_
          refine FL.v (E.assign (v := Value.bool r343.2) rfl) ?_
          refine FL.nil (FW.seq (FW.seq (FW.region ?_)))
          refine FL.v (E.move (v := v349) rfl) ?_
          refine FL.v (E.move k291) ?_
          obtain ⟨r359, hr360, hp⟩ := bnd hp
          refine FL.call rfl rfl rfl (E.call Tryz.call31 (A2 rfl rfl)) (w_laws_eqTreeNodeS S347.sl v349 r343.1 (h356.mono sgI) v80 r74.1 (f303.mono (sgI.tr ((r317.inc.tr r337.run.inc).tr r354.run.inc))) hr360) ?_
          rintro e w361 ⟨rfl, r362⟩
          refine ⟨_, rfl, ?_⟩
          have S363 := S347.call r362
          have z364 := r362.bel.size
          refine FL.v (E.not rfl) ?_
          refine FL.v (E.move (v := Value.bool (!r359)) rfl) ?_
          refine FL.cut 4 (fun f w => ∃ H : GH, St Ha wa H w [] ∧ Inc H353 H ∧ f 10 = v139 ∧ f 13 = Value.int .i64 ((PF.laws_markTreeNodeS r133.1 1).2) ∧ f 110 = Value.bool (bif (!r359) then true else (!(r343.2 == r74.2)))) ?_ ?_
          ·
           rcases bcase (!r359) with c370 | c370
           ·
            refine FL.skip (wF_no rfl rfl rfl c370) rfl ?_
            refine FL.skip (wF_no rfl rfl rfl c370) rfl ?_
            refine FL.skip (wF_no rfl rfl rfl c370) rfl ?_
            refine FL.v (E.pickT rfl c370 rfl) ?_
            exact FL.nil ⟨rfl, _, S363, (Inc.rfl _), k293, rfl, (congrArg Value.bool (bifT c370).symm)⟩
           ·
            refine FL.val (wF_yes rfl rfl rfl c370) rfl rfl (E.move (v := Value.bool r343.2) rfl) ?_
            refine FL.val (wF_yes rfl rfl rfl c370) rfl rfl (E.move k292) ?_
            refine FL.val (wF_yes rfl rfl rfl c370) rfl rfl (E.neqB Tryz.runUnderlying4 rfl rfl) ?_
            refine FL.v (E.pickF rfl c370 rfl) ?_
            exact FL.nil ⟨rfl, _, S363, (Inc.rfl _), k293, rfl, (congrArg Value.bool (bifF c370).symm)⟩
          rintro f369 w368 ⟨H365, S366, i367, k371, k372, k373⟩
          refine FL.nil ?_
          rcases ifB hp with ⟨c374, hp⟩ | ⟨c374, hp⟩
          ·
           refine FW.condT k373 c374 ?_
           refine FW.seq (FW.region ?_)
           refine FL.v (E.assign (v := Value.bool false) rfl) ?_
           refine FL.nil ?_
           refine FW.ret ?_
           obtain rfl := Option.some.inj hp
           exact ⟨.inr rfl, res1 rfl rfl ⟨rfl, S366.back⟩⟩
          ·
           refine FW.condF k373 c374 ?_
           refine FW.skip (FW.seq (FW.region ?_))
           refine FL.v (E.assign (v := Value.int .i64 1) rfl) ?_
           refine FL.nil (FW.seq (FW.region ?_))
           refine FL.v (E.move k371) ?_
           refine FL.v (E.move (v := Value.int .i64 1) rfl) ?_
           obtain ⟨r375, hr376, hp⟩ := bnd hp
           refine FL.call rfl rfl rfl (E.call Tryz.call39 (A2 rfl rfl)) (w_laws_heldTreeNodeS S366.sl v139 ((PF.laws_markTreeNodeS r133.1 1).1) (h299.mono (sgI.tr (((r317.inc.tr r337.run.inc).tr r354.run.inc).tr i367))) 1 hr376) ?_
           rintro e w377 ⟨rfl, r378⟩
           refine ⟨_, rfl, ?_⟩
           have S379 := S366.call r378
           have z380 := r378.bel.size
           refine FL.v (E.assign (v := Value.int .i64 r375) rfl) ?_
           refine FL.nil (FW.seq (FW.seq (FW.region ?_)))
           refine FL.v (E.move (v := Value.int .i64 r375) rfl) ?_
           refine FL.v (E.lss rfl rfl) ?_
           refine FL.nil ?_
           rcases ifB hp with ⟨c381, hp⟩ | ⟨c381, hp⟩
           ·
            refine FW.condT rfl c381 ?_
            refine FW.seq (FW.region ?_)
            refine FL.v (E.assign (v := Value.bool false) rfl) ?_
            refine FL.nil ?_
            refine FW.ret ?_
            obtain rfl := Option.some.inj hp
            exact ⟨.inr rfl, res1 rfl rfl ⟨rfl, S379.back⟩⟩
           ·
            refine FW.condF rfl c381 ?_
            refine FW.skip (FW.seq (FW.seq (FW.region ?_)))
            refine FL.v (E.move (v := Value.int .i64 r375) rfl) ?_
            refine FL.v (E.move k372) ?_
            refine FL.v (E.neq rfl rfl) ?_
            refine FL.nil ?_
            rcases ifB hp with ⟨c382, hp⟩ | ⟨c382, hp⟩
            ·
             refine FW.condT rfl c382 ?_
             refine FW.seq (FW.region ?_)
             refine FL.v (E.assign (v := Value.bool false) rfl) ?_
             refine FL.nil ?_
             refine FW.ret ?_
             obtain rfl := Option.some.inj hp
             exact ⟨.inr rfl, res1 rfl rfl ⟨rfl, S379.back⟩⟩
            ·
             refine FW.condF rfl c382 ?_
             refine FW.skip (FW.seq (FW.region ?_))
             refine FL.v (E.assign (v := Value.bool true) rfl) ?_
             refine FL.nil ?_
             refine FW.ret ?_
             obtain rfl := Option.some.inj hp
             exact ⟨.inr rfl, res1 rfl rfl ⟨rfl, S379.back⟩⟩

end Go.Proofs
