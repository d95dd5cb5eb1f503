/- Part of the walks and plain laws behind the claim: it proves helpers, under no condition beyond their own. -/
import Derived.Test.YtdkkikkmnfjgiaaGreatEmWk2
set_option linter.unusedVariables false
set_option maxRecDepth 100000
namespace Go.Proofs
open Go.Mr Go.Pu Go.PF Go.RowKit

theorem w_spec_l2Place {Ha : GH} {wa : World} (hs : Sl Ha wa) (v0 : Value) (a0 : List (List Int)) (p0 : RSl Ha (eL eI 1) 1 v0 a0) (v1 : Value) (a1 : List Int) (p1 : RSl Ha eI 1 v1 a1) {r : Int} (hp : (PF.spec_l2Place a0 a1) = some r) :
    Calls Tryz.prog 182 #[v0, v1] wa (Sc Ha wa (Value.int .i64 r)) := by
  unfold PF.spec_l2Place at hp
  have S0 := St.init hs
  refine calls_go (N := 27) (args := [v0, v1]) Tryz.func182 rfl rfl rfl ?_
  refine FW.seq (FW.region ?_)
  refine FL.v (E.assign (v := Value.int .i64 0) rfl) ?_
  refine FL.nil (FW.seq (FW.region ?_))
  refine FL.v (E.move (v := v0) rfl) ?_
  refine FL.v (E.lenP te24 rfl p0) ?_
  refine FL.v (E.assign (v := Value.int .i64 0) rfl) ?_
  refine FL.v (E.assign (v := Value.int .i64 (len a0)) rfl) ?_
  refine FL.nil (FW.seq ?_)
  obtain ⟨q21, hq, hp⟩ := bndR hp
  refine FW.block ?_
  refine FW.mono (FW.iter (S := (Int × Int)) (X := Empty) (fun (s21 : (Int × Int)) f w => ∃ H : GH, St Ha wa H w [] ∧ Inc Ha H ∧ f 0 = v0 ∧ f 1 = v1 ∧ f 5 = Value.int .i64 s21.1 ∧ f 6 = Value.int .i64 s21.2) (fun (q : Rs (Int × Int) Empty) e f w => match q with | .go s21 => e = Exit.exit 0 ∧ (∃ H : GH, St Ha wa H w [] ∧ Inc Ha H ∧ f 5 = Value.int .i64 s21.1) | .rt x => x.elim) hq ⟨_, S0, (Inc.rfl _), rfl, rfl, rfl, rfl⟩ ?_) ?_
  ·
    clear hp hq
    rintro s21 f52 w51 ⟨H48, S49, i50, k53, k54, k55, k56⟩ o74 hp
    refine FW.seq (FW.seq (FW.region ?_))
    refine FL.v (E.move k55) ?_
    refine FL.v (E.move k56) ?_
    refine FL.v (E.lss rfl rfl) ?_
    refine FL.nil ?_
    rcases ifB hp with ⟨c57, hp⟩ | ⟨c57, hp⟩
    ·
      refine FW.condT rfl c57 ?_
      refine FW.skip (FW.block (FW.seq (FW.region ?_)))
      refine FL.v (E.move k55) ?_
      refine FL.v (E.move k56) ?_
      refine FL.v (E.add rfl rfl) ?_
      refine FL.v (E.quo rfl rfl (by decide)) ?_
      refine FL.v (E.assign (v := Value.int .i64 (wr ((wr (s21.1 + s21.2)).tdiv 2))) rfl) ?_
      refine FL.nil (FW.seq (FW.region ?_))
      refine FL.v (E.move k53) ?_
      refine FL.v (E.move (v := Value.int .i64 (wr ((wr (s21.1 + s21.2)).tdiv 2))) rfl) ?_
      obtain ⟨x64, hx65, hp⟩ := bnd hp
      obtain ⟨p58, cs59, pt60, l61, at62, rel63⟩ := p0.at hx65
      obtain ⟨v66, rfl, h67⟩ := eL_open rel63
      refine FL.v (E.indexAddr te24 rfl rfl pt60) ?_
      refine FL.v (E.load rfl (run_load0 Tryz.isAgg34 ((at62.mono i50).now S49.sl) rfl)) ?_
      refine FL.v (E.move k54) ?_
      obtain ⟨r68, hr69, hp⟩ := bnd hp
      refine FL.call rfl rfl rfl (E.call Tryz.call273 (A2 rfl rfl)) (w_spec_l2Before S49.sl v66 x64 (h67.mono i50) v1 a1 (p1.mono i50) hr69) ?_
      rintro e w70 ⟨rfl, r71⟩
      refine ⟨_, rfl, ?_⟩
      have S72 := S49.call r71
      refine FL.nil ?_
      rcases ifB hp with ⟨c73, hp⟩ | ⟨c73, hp⟩
      ·
        refine FW.condT rfl c73 ?_
        refine FW.region ?_
        refine FL.v (E.move (v := Value.int .i64 (wr ((wr (s21.1 + s21.2)).tdiv 2))) rfl) ?_
        refine FL.v (E.add rfl rfl) ?_
        refine FL.v (E.assign (v := Value.int .i64 (wr ((wr ((wr (s21.1 + s21.2)).tdiv 2)) + 1))) rfl) ?_
        refine FL.nil ?_
        obtain rfl := Option.some.inj hp
        exact ⟨rfl, ⟨_, S72, i50, k53, k54, rfl, k56⟩⟩
      ·
        refine FW.condF rfl c73 ?_
        refine FW.region ?_
        refine FL.v (E.move (v := Value.int .i64 (wr ((wr (s21.1 + s21.2)).tdiv 2))) rfl) ?_
        refine FL.v (E.assign (v := Value.int .i64 (wr ((wr (s21.1 + s21.2)).tdiv 2))) rfl) ?_
        refine FL.nil ?_
        obtain rfl := Option.some.inj hp
        exact ⟨rfl, ⟨_, S72, i50, k53, k54, k55, rfl⟩⟩
    ·
      refine FW.condF rfl c57 ?_
      refine FW.exit ?_
      obtain rfl := Option.some.inj hp
      exact ⟨nofun, rfl, ⟨_, S49, i50, k55⟩⟩
  ·
    clear hq
    intro e f79 w78 hD
    rcases q21 with s21 | x21
    ·
      obtain ⟨rfl, hD⟩ := hD
      obtain ⟨H75, S76, i77, k80⟩ := hD
      replace hp := el_go hp
      refine FW.seq (FW.region ?_)
      refine FL.v (E.move k80) ?_
      refine FL.v (E.assign (v := Value.int .i64 s21.1) rfl) ?_
      refine FL.nil ?_
      refine FW.ret ?_
      obtain rfl := Option.some.inj hp
      exact ⟨.inr rfl, res1 rfl rfl ⟨rfl, S76.back⟩⟩
    · exact x21.elim

theorem w_spec_l1Same {Ha : GH} {wa : World} (hs : Sl Ha wa) (v0 : Value) (a0 : List Int) (p0 : RSl Ha eI 1 v0 a0) (v1 : Value) (a1 : List Int) (p1 : RSl Ha eI 1 v1 a1) {r : Bool} (hp : (PF.spec_l1Same a0 a1) = some r) :
  Calls Tryz.prog 183 #[v0, v1] wa (Sc Ha wa (Value.bool r)) := by
 unfold PF.spec_l1Same at hp
 have S0 := St.init hs
 refine calls_go (N := 26) (args := [v0, v1]) Tryz.func183 rfl rfl rfl ?_
 refine FW.seq (FW.region ?_)
 refine FL.v (E.assign (v := Value.bool false) rfl) ?_
 refine FL.nil (FW.seq (FW.seq (FW.region ?_)))
 refine FL.v (E.move (v := v0) rfl) ?_
 refine FL.v (E.lenP te34 rfl p0) ?_
 refine FL.v (E.move (v := v1) rfl) ?_
 refine FL.v (E.lenP te34 rfl p1) ?_
 refine FL.v (E.neq rfl rfl) ?_
 refine FL.nil ?_
 rcases ifB hp with ⟨c21, hp⟩ | ⟨c21, hp⟩
 ·
  refine FW.condT rfl c21 ?_
  refine FW.seq (FW.region ?_)
  refine FL.v (E.assign (v := Value.bool false) rfl) ?_
  refine FL.nil ?_
  refine FW.ret ?_
  obtain rfl := Option.some.inj hp
  exact ⟨.inr rfl, res1 rfl rfl ⟨rfl, S0.back⟩⟩
 ·
  refine FW.condF rfl c21 ?_
  refine FW.skip (FW.seq (FW.seq (FW.region ?_)))
  refine FL.v (E.assign (v := Value.int .i64 0) rfl) ?_
  refine FL.nil ?_
  obtain ⟨q23, hq, hp⟩ := bndR hp
  refine FW.block ?_
  refine FW.mono (FW.forL (S := Unit) (X := Bool) (fun (i23 : Nat) (s23 : Unit) f w => ∃ H : GH, St Ha wa H w [] ∧ Inc Ha H ∧ f 5 = Value.int .i64 ((i23 : Nat) : Int) ∧ f 0 = v0 ∧ f 1 = v1) (fun q e f w => match q with | .go s23 => e = Exit.exit 0 ∧ (∃ H : GH, St Ha wa H w [] ∧ Inc Ha H) | .rt x => ((e = Exit.ret) ∧ (fun e f w => (e = Exit.normal ∨ e = Exit.ret) ∧ ∀ a, Fr (δ := []) 26 a f → ∃ v, (results Tryz.f183 a.tmps).run Tryz.prog w = .ok v w ∧ (Sc Ha wa (Value.bool x)) (.returned v) w) e f w)) hq ⟨_, S0, (Inc.rfl _), rfl, rfl, rfl⟩ ?_ ?_) ?_
  ·
   clear hp hq
   rintro i23 y22 s23 f55 w54 ⟨H51, S52, i53, k56, k57, k58⟩ hx23 o78 hp
   refine FW.seq (FW.seq (FW.region ?_))
   refine FL.v (E.move k56) ?_
   refine FL.v (E.move k57) ?_
   refine FL.v (E.lenP te34 rfl p0) ?_
   refine FL.v (E.lssT rfl rfl (lss_len hx23)) ?_
   refine FL.nil ?_
   refine FW.condT rfl rfl ?_
   refine FW.skip (FW.seq (FW.block (FW.seq ?_)))
   refine FW.draw (fun w' => Run w54.heap.size H51 w54 H51 w') (by kernel_rfl) (by kernel_rfl) (run_drew S52.sl) ?_
   refine FD.val rfl rfl rfl (fun w' hw' => (E.move k57)) ?_
   refine FD.val rfl rfl rfl (fun w' hw' => (E.move k56)) ?_
   obtain ⟨p60, cs61, pt62, l63, at64, rel65⟩ := p0.at (ix_nat hx23)
   obtain rfl := eI_open rel65
   refine FD.val rfl rfl rfl (fun w' hw' => (E.indexAddr te34 rfl rfl pt62)) ?_
   refine FD.val rfl rfl rfl (fun w' hw' => (E.load rfl (run_load0 Tryz.isAgg3 ((at64.mono i53).now (S52.call hw').sl) rfl))) ?_
   refine FD.val rfl rfl rfl (fun w' hw' => (E.move k58)) ?_
   refine FD.val rfl rfl rfl (fun w' hw' => (E.move k56)) ?_
   obtain ⟨x72, hx73, hp⟩ := bnd hp
   obtain ⟨p66, cs67, pt68, l69, at70, rel71⟩ := p1.at hx73
   obtain rfl := eI_open rel71
   refine FD.val rfl rfl rfl (fun w' hw' => (E.indexAddr te34 rfl rfl pt68)) ?_
   refine FD.val rfl rfl rfl (fun w' hw' => (E.load rfl (run_load0 Tryz.isAgg3 ((at70.mono i53).now (S52.call hw').sl) rfl))) ?_
   refine FD.val rfl rfl rfl (fun w' hw' => (E.neq rfl rfl)) ?_
   refine FD.nil ?_
   intro w74 r76
   have S75 := S52.call r76
   rcases ifB hp with ⟨c77, hp⟩ | ⟨c77, hp⟩
   ·
    refine FW.condT rfl c77 ?_
    refine FW.seq (FW.region ?_)
    refine FL.v (E.assign (v := Value.bool false) rfl) ?_
    refine FL.nil ?_
    refine FW.ret ?_
    obtain rfl := Option.some.inj hp
    exact ⟨nofun, rfl, ⟨.inr rfl, res1 rfl rfl ⟨rfl, S75.back⟩⟩⟩
   ·
    refine FW.condF rfl c77 ?_
    refine FW.skip (FW.region ?_)
    refine FL.v (E.move k56) ?_
    refine FL.v (E.add rfl rfl) ?_
    refine FL.v (E.assign (v := Value.int .i64 (wr (((i23 : Nat) : Int) + 1))) rfl) ?_
    refine FL.nil ?_
    obtain rfl := Option.some.inj hp
    exact ⟨rfl, ⟨_, S75, i53, (nat_succ rfl (lt_of_get hx23) (p0.mono i53).le), k57, k58⟩⟩
  ·
   clear hp hq
   rintro s23 f88 w87 ⟨H84, S85, i86, k89, k90, k91⟩
   refine FW.seq (FW.seq (FW.region ?_))
   refine FL.v (E.move k89) ?_
   refine FL.v (E.move k90) ?_
   refine FL.v (E.lenP te34 rfl p0) ?_
   refine FL.v (E.lss rfl rfl) ?_
   refine FL.nil ?_
   refine FW.condF rfl dlt_len ?_
   refine FW.exit ?_
   exact ⟨nofun, rfl, ⟨_, S85, i86⟩⟩
  ·
   clear hq
   intro e f83 w82 hD
   rcases q23 with s23 | x23
   ·
    obtain ⟨rfl, hD⟩ := hD
    obtain ⟨H79, S80, i81⟩ := hD
    replace hp := el_go hp
    refine FW.seq (FW.region ?_)
    refine FL.v (E.assign (v := Value.bool true) rfl) ?_
    refine FL.nil ?_
    refine FW.ret ?_
    obtain rfl := Option.some.inj hp
    exact ⟨.inr rfl, res1 rfl rfl ⟨rfl, S80.back⟩⟩
   ·
    obtain ⟨he, hL⟩ := hD
    replace hp := el_rt hp
    obtain rfl := Option.some.inj hp
    subst he
    exact hL

@[reducible] def p_spec_l2Insert (Ha : GH) (wa : World) (r : (List (List Int))) : Ending → World → Prop :=
 fun e w' => ∃ H' : GH, ∃ v0 : Value, e = .returned (v0) ∧ Run wa.heap.size Ha wa H' w' ∧ RSl H' (eL eI 1) 1 v0 r
theorem w_spec_l2Insert {Ha : GH} {wa : World} (hs : Sl Ha wa) (v0 : Value) (a0 : List (List Int)) (p0 : RSl Ha (eL eI 1) 1 v0 a0) (v1 : Value) (a1 : List Int) (p1 : RSl Ha eI 1 v1 a1) {r : (List (List Int))} (hp : (PF.spec_l2Insert a0 a1) = some r) :
  Calls Tryz.prog 84 #[v0, v1] wa (p_spec_l2Insert Ha wa r) := by
 unfold PF.spec_l2Insert at hp
 have S0 := St.init hs
 refine calls_go (N := 34) (args := [v0, v1]) Tryz.func84 rfl rfl rfl ?_
 refine FW.seq (FW.region ?_)
 refine FL.v (E.assign (v := Value.slice none 0 0) rfl) ?_
 refine FL.nil (FW.seq (FW.region ?_))
 refine FL.v (E.move (v := v0) rfl) ?_
 refine FL.v (E.move (v := v1) rfl) ?_
 obtain ⟨r21, hr22, hp⟩ := bnd hp
 refine FL.call rfl rfl rfl (E.call Tryz.call182 (A2 rfl rfl)) (w_spec_l2Place S0.sl v0 a0 p0 v1 a1 p1 hr22) ?_
 rintro e w23 ⟨rfl, r24⟩
 refine ⟨_, rfl, ?_⟩
 have S25 := S0.call r24
 refine FL.v (E.assign (v := Value.int .i64 r21) rfl) ?_
 refine FL.nil (FW.seq (FW.seq (FW.region ?_)))
 refine FL.v (E.move (v := Value.int .i64 r21) rfl) ?_
 refine FL.v (E.move (v := v0) rfl) ?_
 refine FL.v (E.lenP te24 rfl p0) ?_
 refine FL.v (E.lss rfl rfl) ?_
 refine FL.v (E.move (v := Value.bool (decide (r21 < (len a0)))) rfl) ?_
 obtain ⟨t41, hqt41, hp⟩ := bnd hp
 refine FL.cut 7 (fun f w => ∃ H : GH, St Ha wa H w [] ∧ Inc Ha H ∧ f 0 = v0 ∧ f 1 = v1 ∧ f 5 = Value.int .i64 r21 ∧ f 20 = Value.bool t41) ?_ ?_
 ·
  clear hp; have hp := hqt41; clear hqt41
  rcases ifB hp with ⟨c47, hp⟩ | ⟨c47, hp⟩
  ·
   refine FL.val (wF_yes rfl rfl rfl c47) rfl rfl (E.move (v := v0) rfl) ?_
   refine FL.val (wF_yes rfl rfl rfl c47) rfl rfl (E.move (v := Value.int .i64 r21) rfl) ?_
   obtain ⟨x54, hx55, hp⟩ := bnd hp
   obtain ⟨p48, cs49, pt50, l51, at52, rel53⟩ := p0.at hx55
   obtain ⟨v56, rfl, h57⟩ := eL_open rel53
   refine FL.val (wF_yes rfl rfl rfl c47) rfl rfl (E.indexAddr te24 rfl rfl pt50) ?_
   refine FL.val (wF_yes rfl rfl rfl c47) rfl rfl (E.load rfl (run_load0 Tryz.isAgg34 (at52.now S25.sl) rfl)) ?_
   refine FL.val (wF_yes rfl rfl rfl c47) rfl rfl (E.move (v := v1) rfl) ?_
   obtain ⟨r58, hr59, hp⟩ := bnd hp
   refine FL.call (wF_yes rfl rfl rfl c47) rfl rfl (E.call Tryz.call183 (A2 rfl rfl)) (w_spec_l1Same S25.sl v56 x54 h57 v1 a1 p1 hr59) ?_
   rintro e w60 ⟨rfl, r61⟩
   refine ⟨_, rfl, ?_⟩
   have S62 := S25.call r61
   obtain rfl := Option.some.inj hp
   refine FL.v (E.pickT rfl c47 rfl) ?_
   exact FL.nil ⟨rfl, _, S62, (Inc.rfl _), rfl, rfl, rfl, rfl⟩
  ·
   refine FL.skip (wF_no rfl rfl rfl c47) rfl ?_
   refine FL.skip (wF_no rfl rfl rfl c47) rfl ?_
   refine FL.skip (wF_no rfl rfl rfl c47) rfl ?_
   refine FL.skip (wF_no rfl rfl rfl c47) rfl ?_
   refine FL.skip (wF_no rfl rfl rfl c47) rfl ?_
   refine FL.skip (wF_no rfl rfl rfl c47) rfl ?_
   obtain rfl := Option.some.inj hp
   refine FL.v (E.pickF rfl c47 rfl) ?_
   exact FL.nil ⟨rfl, _, S25, (Inc.rfl _), rfl, rfl, rfl, rfl⟩
 rintro f46 w45 ⟨H42, S43, i44, k63, k64, k65, k66⟩
 refine FL.nil ?_
 rcases ifB hp with ⟨c67, hp⟩ | ⟨c67, hp⟩
 ·
  refine FW.condT k66 c67 ?_
  refine FW.seq (FW.region ?_)
  refine FL.v (E.move k63) ?_
  refine FL.v (E.assign (v := v0) rfl) ?_
  refine FL.nil ?_
  refine FW.ret ?_
  obtain rfl := Option.some.inj hp
  exact ⟨.inr rfl, res1 rfl rfl ⟨_, _, rfl, S43.run, (p0.mono i44)⟩⟩
 ·
  refine FW.condF k66 c67 ?_
  refine FW.skip (FW.seq ?_)
  obtain ⟨xs31, hc32, hp⟩ := bnd hp
  obtain ⟨xs36, hz37, hp⟩ := bnd hp
  obtain ⟨xs80, hz81, hp⟩ := bnd hp
  obtain ⟨xs91, hc92, hp⟩ := bnd hp
  obtain ⟨xs96, hz97, hp⟩ := bnd hp
  refine FW.drawB (Sl H42) (fun f w => ∃ H : GH, ∃ v105 : Value, ∃ n106 : Nat, ∃ cs107 : List Value, St Ha wa H w [.row 34 1 v105 n106 cs107] ∧ Inc H42 H ∧ Els H (eL eI 1) 1 cs107 xs96 ∧ f 4 = v105) (by kernel_rfl) S43.sl ?_ ?_
  ·
   intro w68 r69
   have S70 := S43.call r69
   refine FB.t (i := 1) (bs 13 2) rfl (SP.nil S70.sl) rfl (fun w' hw' => (E.move k63)) ?_
   refine FB.t (i := 2) (bs 13 6) rfl (SP.nil S70.sl) rfl (fun w' hw' => (E.move k65)) ?_
   obtain ⟨v33, run34, h35⟩ := p0.cut te24 hc32 (lo := none) (hi := some (Value.int .i64 r21)) (.inl ⟨rfl, rfl⟩) (.inr ⟨_, rfl⟩)
   refine FB.t (i := 3) (bs 13 14) rfl (SP.nil S70.sl) rfl (fun w' hw' => (E.slice te24 rfl rfl (congrArg some rfl) rfl (run34 _))) ?_
   refine FB.t (i := 5) (bs 13 46) rfl (SP.nil S70.sl) rfl (fun w' hw' => (E.move k64)) ?_
   refine FB.t (i := 8) (bs 13 302) rfl (SP.nil S70.sl) rfl (fun w' hw' => (E.move k63)) ?_
   refine FB.t (i := 9) (bs 13 814) rfl (SP.nil S70.sl) rfl (fun w' hw' => (E.move k65)) ?_
   obtain ⟨v93, run94, h95⟩ := p0.cut te24 hc92 (lo := some (Value.int .i64 r21)) (hi := none) (.inr ⟨_, rfl⟩) (.inl ⟨rfl, rfl⟩)
   refine FB.t (i := 10) (bs 13 1838) rfl (SP.nil S70.sl) rfl (fun w' hw' => (E.slice te24 rfl (congrArg some rfl) rfl rfl (run94 _))) ?_
   refine FB.all2 (i := 0) (j := 6) (by kernel_rfl) ?_ ?_
   ·
    obtain ⟨v26, w27, run28, S29⟩ := S70.buildSlice (P := Tryz.prog) te24 [] (parts := #[]) (cells := []) rfl szs_nil fc_nil ones_nil (Nat.le_of_ble_eq_true rfl)
    have els30 : Els (up wa.heap.size H42) (eL eI 1) 1 [] [] := Els.nil
    refine FC.val (l' := (bs 13 1839)) rfl (by kernel_rfl) rfl rfl rfl (E.buildSlice (B0) run28) ?_
    refine ⟨(SP.nil S29.sl), ?_⟩
    refine FB.all2 (i := 4) (j := 6) (by kernel_rfl) ?_ ?_
    ·
     obtain ⟨v38, w71, n39, cs40, run72, S73, els74⟩ := S29.appendP (P := Tryz.prog) (Inc.rfl _) te24 (i := 0) rfl (els30.mono upI) (h35.mono i44) hz37
     have S73 : St Ha wa H42 w71 [.row 34 1 v38 n39 cs40] := S73
     refine FC.val (l' := (bs 13 1855)) rfl (by kernel_rfl) rfl rfl rfl (E.append rfl rfl run72) ?_
     refine ⟨(SP.nil S73.sl), ?_⟩
     refine FB.all1 (i := 6) (by kernel_rfl) ?_
     ·
      obtain ⟨v75, w76, run77, S78⟩ := S73.buildSlice (P := Tryz.prog) te24 [v1] (parts := #[(0, v1)]) (cells := [v1]) rfl (szs_cons (cells_size p1.cells) szs_nil) (fc_cons p1.cells fc_nil) (ones_cons p1.one ones_nil) (Nat.le_of_ble_eq_true rfl)
      have els79 : Els H42 (eL eI 1) 1 [v1] [a1] := (Els.snoc (H := H42) (E := (eL eI 1)) (k := 1) (c := [v1]) (x := a1) Els.nil rfl ⟨_, rfl, (p1.mono i44)⟩)
      refine FC.val (l' := (bs 13 1919)) rfl (by kernel_rfl) rfl rfl rfl (E.buildSlice (B1 rfl) run77) ?_
      refine ⟨(SP.nil S78.sl), ?_⟩
      refine FB.all1 (i := 7) (by kernel_rfl) ?_
      ·
       obtain ⟨v82, w85, n83, cs84, run86, S87, els88, ce89⟩ := S78.appendO (P := Tryz.prog) te24 (i := 1) (j := 0) rfl els74 rfl els79 hz81
       have S87 : St Ha wa H42 w85 [.row 34 1 v75 1 [v1], .row 34 1 v82 n83 cs84] := S87
       have S90 : St Ha wa H42 w85 [.row 34 1 v82 n83 cs84] := S87.drop 0
       refine FC.val (l' := (bs 13 2047)) rfl (by kernel_rfl) rfl rfl rfl (E.append rfl rfl run86) ?_
       refine ⟨(SP.nil S90.sl), ?_⟩
       refine FB.all1 (i := 11) (by kernel_rfl) ?_
       ·
        obtain ⟨v98, w101, n99, cs100, run102, S103, els104⟩ := S90.appendP (P := Tryz.prog) (Inc.rfl _) te24 (i := 0) rfl els88 (h95.mono i44) hz97
        have S103 : St Ha wa H42 w101 [.row 34 1 v98 n99 cs100] := S103
        refine FC.val (l' := (bs 13 4095)) rfl (by kernel_rfl) rfl rfl rfl (E.append rfl rfl run102) ?_
        refine ⟨(SP.nil S103.sl), ?_⟩
        refine FB.t (i := 12) (bs 13 8191) rfl (SP.nil S103.sl) rfl (fun w' hw' => (E.assign (v := v98) rfl)) ?_
        exact FB.done (by kernel_rfl) ⟨_, _, _, _, S103, (Inc.rfl _), els104, rfl⟩
    ·
     obtain ⟨v75, w76, run77, S78⟩ := S29.buildSlice (P := Tryz.prog) te24 [v1] (parts := #[(0, v1)]) (cells := [v1]) rfl (szs_cons (cells_size p1.cells) szs_nil) (fc_cons p1.cells fc_nil) (ones_cons p1.one ones_nil) (Nat.le_of_ble_eq_true rfl)
     have els79 : Els H42 (eL eI 1) 1 [v1] [a1] := (Els.snoc (H := H42) (E := (eL eI 1)) (k := 1) (c := [v1]) (x := a1) Els.nil rfl ⟨_, rfl, (p1.mono i44)⟩)
     refine FC.val (l' := (bs 13 1903)) rfl (by kernel_rfl) rfl rfl rfl (E.buildSlice (B1 rfl) run77) ?_
     refine ⟨(SP.nil S78.sl), ?_⟩
     refine FB.all1 (i := 4) (by kernel_rfl) ?_
     ·
      obtain ⟨v38, w71, n39, cs40, run72, S73, els74⟩ := S78.appendP (P := Tryz.prog) (Inc.rfl _) te24 (i := 1) rfl (els30.mono upI) (h35.mono i44) hz37
      have S73 : St Ha wa H42 w71 [.row 34 1 v75 1 [v1], .row 34 1 v38 n39 cs40] := S73
      refine FC.val (l' := (bs 13 1919)) rfl (by kernel_rfl) rfl rfl rfl (E.append rfl rfl run72) ?_
      refine ⟨(SP.nil S73.sl), ?_⟩
      refine FB.all1 (i := 7) (by kernel_rfl) ?_
      ·
       obtain ⟨v82, w85, n83, cs84, run86, S87, els88, ce89⟩ := S73.appendO (P := Tryz.prog) te24 (i := 1) (j := 0) rfl els74 rfl els79 hz81
       have S87 : St Ha wa H42 w85 [.row 34 1 v75 1 [v1], .row 34 1 v82 n83 cs84] := S87
       have S90 : St Ha wa H42 w85 [.row 34 1 v82 n83 cs84] := S87.drop 0
       refine FC.val (l' := (bs 13 2047)) rfl (by kernel_rfl) rfl rfl rfl (E.append rfl rfl run86) ?_
       refine ⟨(SP.nil S90.sl), ?_⟩
       refine FB.all1 (i := 11) (by kernel_rfl) ?_
       ·
        obtain ⟨v98, w101, n99, cs100, run102, S103, els104⟩ := S90.appendP (P := Tryz.prog) (Inc.rfl _) te24 (i := 0) rfl els88 (h95.mono i44) hz97
        have S103 : St Ha wa H42 w101 [.row 34 1 v98 n99 cs100] := S103
        refine FC.val (l' := (bs 13 4095)) rfl (by kernel_rfl) rfl rfl rfl (E.append rfl rfl run102) ?_
        refine ⟨(SP.nil S103.sl), ?_⟩
        refine FB.t (i := 12) (bs 13 8191) rfl (SP.nil S103.sl) rfl (fun w' hw' => (E.assign (v := v98) rfl)) ?_
        exact FB.done (by kernel_rfl) ⟨_, _, _, _, S103, (Inc.rfl _), els104, rfl⟩
   ·
    obtain ⟨v75, w76, run77, S78⟩ := S70.buildSlice (P := Tryz.prog) te24 [v1] (parts := #[(0, v1)]) (cells := [v1]) rfl (szs_cons (cells_size p1.cells) szs_nil) (fc_cons p1.cells fc_nil) (ones_cons p1.one ones_nil) (Nat.le_of_ble_eq_true rfl)
    have els79 : Els H42 (eL eI 1) 1 [v1] [a1] := (Els.snoc (H := H42) (E := (eL eI 1)) (k := 1) (c := [v1]) (x := a1) Els.nil rfl ⟨_, rfl, (p1.mono i44)⟩)
    refine FC.val (l' := (bs 13 1902)) rfl (by kernel_rfl) rfl rfl rfl (E.buildSlice (B1 rfl) run77) ?_
    refine ⟨(SP.nil S78.sl), ?_⟩
    refine FB.all1 (i := 0) (by kernel_rfl) ?_
    ·
     obtain ⟨v26, w27, run28, S29⟩ := S78.buildSlice (P := Tryz.prog) te24 [] (parts := #[]) (cells := []) rfl szs_nil fc_nil ones_nil (Nat.le_of_ble_eq_true rfl)
     have els30 : Els (up wa.heap.size H42) (eL eI 1) 1 [] [] := Els.nil
     refine FC.val (l' := (bs 13 1903)) rfl (by kernel_rfl) rfl rfl rfl (E.buildSlice (B0) run28) ?_
     refine ⟨(SP.nil S29.sl), ?_⟩
     refine FB.all1 (i := 4) (by kernel_rfl) ?_
     ·
      obtain ⟨v38, w71, n39, cs40, run72, S73, els74⟩ := S29.appendP (P := Tryz.prog) (Inc.rfl _) te24 (i := 0) rfl (els30.mono upI) (h35.mono i44) hz37
      have S73 : St Ha wa H42 w71 [.row 34 1 v38 n39 cs40, .row 34 1 v75 1 [v1]] := S73
      refine FC.val (l' := (bs 13 1919)) rfl (by kernel_rfl) rfl rfl rfl (E.append rfl rfl run72) ?_
      refine ⟨(SP.nil S73.sl), ?_⟩
      refine FB.all1 (i := 7) (by kernel_rfl) ?_
      ·
       obtain ⟨v82, w85, n83, cs84, run86, S87, els88, ce89⟩ := S73.appendO (P := Tryz.prog) te24 (i := 0) (j := 1) rfl els74 rfl els79 hz81
       have S87 : St Ha wa H42 w85 [.row 34 1 v82 n83 cs84, .row 34 1 v75 1 [v1]] := S87
       have S90 : St Ha wa H42 w85 [.row 34 1 v82 n83 cs84] := S87.drop 1
       refine FC.val (l' := (bs 13 2047)) rfl (by kernel_rfl) rfl rfl rfl (E.append rfl rfl run86) ?_
       refine ⟨(SP.nil S90.sl), ?_⟩
       refine FB.all1 (i := 11) (by kernel_rfl) ?_
       ·
        obtain ⟨v98, w101, n99, cs100, run102, S103, els104⟩ := S90.appendP (P := Tryz.prog) (Inc.rfl _) te24 (i := 0) rfl els88 (h95.mono i44) hz97
        have S103 : St Ha wa H42 w101 [.row 34 1 v98 n99 cs100] := S103
        refine FC.val (l' := (bs 13 4095)) rfl (by kernel_rfl) rfl rfl rfl (E.append rfl rfl run102) ?_
        refine ⟨(SP.nil S103.sl), ?_⟩
        refine FB.t (i := 12) (bs 13 8191) rfl (SP.nil S103.sl) rfl (fun w' hw' => (E.assign (v := v98) rfl)) ?_
        exact FB.done (by kernel_rfl) ⟨_, _, _, _, S103, (Inc.rfl _), els104, rfl⟩
  ·
   rintro f113 w112 ⟨H109, v105, n106, cs107, S110, i111, els108, k114⟩
   refine FW.ret ?_
   obtain ⟨H115, S116, i117, h118⟩ := S110.sealRow (i := 0) (l' := []) rfl els108 (by decide) rfl
   obtain rfl := Option.some.inj hp
   exact ⟨.inr rfl, res1 rfl k114 ⟨_, _, rfl, S116.run, h118⟩⟩

@[reducible] def p_spec_l2Join (Ha : GH) (wa : World) (r : ((List Int) × Bool)) : Ending → World → Prop :=
 fun e w' => ∃ H' : GH, ∃ v0 : Value, ∃ n0 : Nat, ∃ c0 : List Value, e = .returned (Value.tuple #[v0, Value.bool r.2]) ∧ St Ha wa H' w' [.row 3 1 v0 n0 c0] ∧ Els (up wa.heap.size H') eI 1 c0 r.1
theorem w_spec_l2Join {Ha : GH} {wa : World} (hs : Sl Ha wa) (v0 : Value) (a0 : List Int) (p0 : RSl Ha eI 1 v0 a0) (v1 : Value) (a1 : List Int) (p1 : RSl Ha eI 1 v1 a1) {r : ((List Int) × Bool)} (hp : (PF.spec_l2Join a0 a1) = some r) :
  Calls Tryz.prog 184 #[v0, v1] wa (p_spec_l2Join Ha wa r) := by
 unfold PF.spec_l2Join at hp
 have S0 := St.init hs
 refine calls_go (N := 38) (args := [v0, v1]) Tryz.func184 rfl rfl rfl ?_
 refine FW.seq (FW.region ?_)
 refine FL.v (E.assign (v := Value.slice none 0 0) rfl) ?_
 refine FL.v (E.assign (v := Value.bool false) rfl) ?_
 refine FL.nil (FW.seq (FW.region ?_))
 refine FL.v (E.move (v := v0) rfl) ?_
 obtain ⟨r21, hr22, hp⟩ := bnd hp
 refine FL.call rfl rfl rfl (E.call Tryz.call196 (A1 rfl)) (w_spec_l1Own S0.sl v0 a0 p0 hr22) ?_
 rintro e w24 ⟨H23, v27, n28, cs29, rfl, r26, els30⟩
 refine ⟨_, rfl, ?_⟩
 have els30 := els30.mono (up_le S0.size)
 have S25 := S0.join (l' := [.row 3 1 v27 n28 cs29]) r26 rfl
 refine FL.v (E.assign (v := v27) rfl) ?_
 refine FL.nil (FW.seq (FW.seq (FW.region ?_)))
 refine FL.v (E.assign (v := Value.int .i64 0) rfl) ?_
 refine FL.nil ?_
 obtain ⟨q32, hq, hp⟩ := bndR hp
 refine FW.block ?_
 refine FW.mono (FW.forL (S := (List Int)) (X := ((List Int) × Bool)) (fun (i32 : Nat) (s32 : (List Int)) f w => ∃ H : GH, ∃ v107 : Value, ∃ n108 : Nat, ∃ cs109 : List Value, St Ha wa H w [.row 3 1 v107 n108 cs109] ∧ Inc H23 H ∧ Els (up wa.heap.size H) eI 1 cs109 s32 ∧ f 7 = Value.int .i64 ((i32 : Nat) : Int) ∧ f 1 = v1 ∧ f 6 = v107) (fun q e f w => match q with | .go s32 => e = Exit.exit 0 ∧ (∃ H : GH, ∃ v107 : Value, ∃ n108 : Nat, ∃ cs109 : List Value, St Ha wa H w [.row 3 1 v107 n108 cs109] ∧ Inc H23 H ∧ Els (up wa.heap.size H) eI 1 cs109 s32 ∧ f 6 = v107) | .rt x => ((e = Exit.ret) ∧ (fun e f w => (e = Exit.normal ∨ e = Exit.ret) ∧ ∀ a, Fr (δ := []) 38 a f → ∃ v, (results Tryz.f184 a.tmps).run Tryz.prog w = .ok v w ∧ (p_spec_l2Join Ha wa x) (.returned v) w) e f w)) hq ⟨_, _, _, _, S25, (Inc.rfl _), els30, rfl, rfl, rfl⟩ ?_ ?_) ?_
 ·
  clear hp hq
  rintro i32 y31 s32 f185 w184 ⟨H181, v107, n108, cs109, S182, i183, els110, k186, k187, k188⟩ hx32 o251 hp
  refine FW.seq (FW.seq (FW.region ?_))
  refine FL.v (E.move k186) ?_
  refine FL.v (E.move k187) ?_
  refine FL.v (E.lenP te34 rfl p1) ?_
  refine FL.v (E.lssT rfl rfl (lss_len hx32)) ?_
  refine FL.nil ?_
  refine FW.condT rfl rfl ?_
  refine FW.skip (FW.seq (FW.block (FW.seq (FW.seq (FW.region ?_)))))
  refine FL.v (E.move k188) ?_
  refine FL.v (E.move k187) ?_
  refine FL.v (E.move k186) ?_
  obtain ⟨p189, cs190, pt191, l192, at193, rel194⟩ := p1.at (ix_nat hx32)
  obtain rfl := eI_open rel194
  refine FL.v (E.indexAddr te34 rfl rfl pt191) ?_
  refine FL.v (E.load rfl (run_load0 Tryz.isAgg3 ((at193.mono (r26.run.inc.tr i183)).now S182.sl) rfl)) ?_
  refine FL.v (E.neg rfl) ?_
  obtain ⟨H195, S196, i197, h198, nv199⟩ := S182.sealRowU (i := 0) (l' := []) rfl els110 (by decide) rfl
  obtain ⟨r200, hr201, hp⟩ := bnd hp
  refine FL.call rfl rfl rfl (E.call Tryz.call83 (A2 rfl rfl)) (w_spec_l2Has S196.sl v107 s32 (h198.mono upI) (wr (-y31)) hr201) ?_
  rintro e w202 ⟨rfl, r203⟩
  refine ⟨_, rfl, ?_⟩
  have r203 := Run.lend i197 S182.sl r203
  have S204 := S182.call r203
  refine FL.nil ?_
  rcases ifB hp with ⟨c205, hp⟩ | ⟨c205, hp⟩
  ·
   refine FW.condT rfl c205 ?_
   refine FW.seq (FW.region ?_)
   obtain ⟨v206, w207, run208, S209⟩ := S204.buildSlice (P := Tryz.prog) te34 [] (parts := #[]) (cells := []) rfl szs_nil fc_nil ones_nil (Nat.le_of_ble_eq_true rfl)
   have els210 : Els (up wa.heap.size H181) eI 1 [] [] := Els.nil
   refine FL.v (E.buildSlice (B0) run208) ?_
   refine FL.v (E.assign (v := v206) rfl) ?_
   refine FL.v (E.assign (v := Value.bool false) rfl) ?_
   refine FL.nil ?_
   refine FW.ret ?_
   obtain rfl := Option.some.inj hp
   exact ⟨nofun, rfl, ⟨.inr rfl, res2 rfl rfl rfl ⟨_, _, _, _, rfl, (S209.sel [0] (by decide) rfl), els210⟩⟩⟩
  ·
   refine FW.condF rfl c205 ?_
   refine FW.skip (FW.seq (FW.region ?_))
   refine FL.v (E.move k188) ?_
   refine FL.v (E.move k187) ?_
   refine FL.v (E.move k186) ?_
   obtain ⟨p211, cs212, pt213, l214, at215, rel216⟩ := p1.at (ix_nat hx32)
   obtain rfl := eI_open rel216
   refine FL.v (E.indexAddr te34 rfl rfl pt213) ?_
   refine FL.v (E.load rfl (run_load0 Tryz.isAgg3 ((at215.mono (r26.run.inc.tr i183)).now S204.sl) rfl)) ?_
   obtain ⟨H217, S218, i219, h220, nv221⟩ := S204.sealRowU (i := 0) (l' := []) rfl els110 (by decide) rfl
   obtain ⟨r222, hr223, hp⟩ := bnd hp
   refine FL.call rfl rfl rfl (E.call Tryz.call83 (A2 rfl rfl)) (w_spec_l2Has S218.sl v107 s32 (h220.mono upI) y31 hr223) ?_
   rintro e w224 ⟨rfl, r225⟩
   refine ⟨_, rfl, ?_⟩
   have r225 := Run.lend i219 S204.sl r225
   have S226 := S204.call r225
   refine FL.v (E.not rfl) ?_
   refine FL.nil ?_
   rcases ifB hp with ⟨c227, hp⟩ | ⟨c227, hp⟩
   ·
    refine FW.condT rfl c227 ?_
    refine FW.region ?_
    refine FL.v (E.move k188) ?_
    refine FL.v (E.move k187) ?_
    refine FL.v (E.move k186) ?_
    obtain ⟨p228, cs229, pt230, l231, at232, rel233⟩ := p1.at (ix_nat hx32)
    obtain rfl := eI_open rel233
    refine FL.v (E.indexAddr te34 rfl rfl pt230) ?_
    refine FL.v (E.load rfl (run_load0 Tryz.isAgg3 ((at232.mono (r26.run.inc.tr i183)).now S226.sl) rfl)) ?_
    obtain ⟨H234, S235, i236, h237, nv238⟩ := S226.sealRowU (i := 0) (l' := []) rfl els110 (by decide) rfl
    obtain ⟨r239, hr240, hp⟩ := bnd hp
    refine FL.call rfl rfl rfl (E.call Tryz.call255 (A2 rfl rfl)) (w_spec_l2Put S235.sl v107 s32 (h237.mono upI) y31 hr240) ?_
    rintro e w242 ⟨H241, v247, n248, cs249, rfl, r244, els250⟩
    refine ⟨_, rfl, ?_⟩
    obtain ⟨H245, r244, hU246⟩ := St.lendX i236 S226.sl r244
    have els250 := els250.mono (hU246.tr (up_le S226.size))
    have S243 := S226.join (l' := [.row 3 1 v247 n248 cs249, .row 3 1 v107 n108 cs109]) r244 rfl
    refine FL.v (E.assign (v := v247) rfl) ?_
    refine FL.nil (FW.region ?_)
    refine FL.v (E.move k186) ?_
    refine FL.v (E.add rfl rfl) ?_
    refine FL.v (E.assign (v := Value.int .i64 (wr (((i32 : Nat) : Int) + 1))) rfl) ?_
    refine FL.nil ?_
    obtain rfl := Option.some.inj hp
    exact ⟨rfl, ⟨_, _, _, _, (S243.sel [0] (by decide) rfl), (i183.tr r244.run.inc), els250, (nat_succ rfl (lt_of_get hx32) (p1.mono ((r26.run.inc.tr i183).tr r244.run.inc)).le), k187, rfl⟩⟩
   ·
    refine FW.condF rfl c227 ?_
    refine FW.skip (FW.region ?_)
    refine FL.v (E.move k186) ?_
    refine FL.v (E.add rfl rfl) ?_
    refine FL.v (E.assign (v := Value.int .i64 (wr (((i32 : Nat) : Int) + 1))) rfl) ?_
    refine FL.nil ?_
    obtain rfl := Option.some.inj hp
    exact ⟨rfl, ⟨_, _, _, _, S226, i183, els110, (nat_succ rfl (lt_of_get hx32) (p1.mono (r26.run.inc.tr i183)).le), k187, k188⟩⟩
 ·
  clear hp hq
  rintro s32 f262 w261 ⟨H258, v107, n108, cs109, S259, i260, els110, k263, k264, k265⟩
  refine FW.seq (FW.seq (FW.region ?_))
  refine FL.v (E.move k263) ?_
  refine FL.v (E.move k264) ?_
  refine FL.v (E.lenP te34 rfl p1) ?_
  refine FL.v (E.lss rfl rfl) ?_
  refine FL.nil ?_
  refine FW.condF rfl dlt_len ?_
  refine FW.exit ?_
  exact ⟨nofun, rfl, ⟨_, _, _, _, S259, i260, els110, k265⟩⟩
 ·
  clear hq
  intro e f256 w255 hD
  rcases q32 with s32 | x32
  ·
   obtain ⟨rfl, hD⟩ := hD
   obtain ⟨H252, v107, n108, cs109, S253, i254, els110, k257⟩ := hD
   replace hp := el_go hp
   refine FW.seq (FW.region ?_)
   refine FL.v (E.move k257) ?_
   refine FL.v (E.assign (v := v107) rfl) ?_
   refine FL.v (E.assign (v := Value.bool true) rfl) ?_
   refine FL.nil ?_
   refine FW.ret ?_
   obtain rfl := Option.some.inj hp
   exact ⟨.inr rfl, res2 rfl rfl rfl ⟨_, _, _, _, rfl, S253, els110⟩⟩
  ·
   obtain ⟨he, hL⟩ := hD
   replace hp := el_rt hp
   obtain rfl := Option.some.inj hp
   subst he
   exact hL

@[reducible] def p_spec_l2Resolve (Ha : GH) (wa : World) (r : ((List Int) × Bool)) : Ending → World → Prop :=
 fun e w' => ∃ H' : GH, ∃ v0 : Value, ∃ n0 : Nat, ∃ c0 : List Value, e = .returned (Value.tuple #[v0, Value.bool r.2]) ∧ St Ha wa H' w' [.row 3 1 v0 n0 c0] ∧ Els (up wa.heap.size H') eI 1 c0 r.1
theorem w_spec_l2Resolve {Ha : GH} {wa : World} (hs : Sl Ha wa) (v0 : Value) (a0 : List Int) (p0 : RSl Ha eI 1 v0 a0) (v1 : Value) (a1 : List Int) (p1 : RSl Ha eI 1 v1 a1) (a2 : Int) {r : ((List Int) × Bool)} (hp : (PF.spec_l2Resolve a0 a1 a2) = some r) :
  Calls Tryz.prog 85 #[v0, v1, Value.int .i64 a2] wa (p_spec_l2Resolve Ha wa r) := by
 unfold PF.spec_l2Resolve at hp
 have S0 := St.init hs
 refine calls_go (N := 29) (args := [v0, v1, Value.int .i64 a2]) Tryz.func85 rfl rfl rfl ?_
 refine FW.seq (FW.region ?_)
 refine FL.v (E.assign (v := Value.slice none 0 0) rfl) ?_
 refine FL.v (E.assign (v := Value.bool false) rfl) ?_
 refine FL.nil (FW.seq (FW.seq (FW.region ?_)))
 refine FL.v (E.move (v := v0) rfl) ?_
 refine FL.v (E.move (v := Value.int .i64 a2) rfl) ?_
 obtain ⟨r21, hr22, hp⟩ := bnd hp
 refine FL.call rfl rfl rfl (E.call Tryz.call83 (A2 rfl rfl)) (w_spec_l2Has S0.sl v0 a0 p0 a2 hr22) ?_
 rintro e w23 ⟨rfl, r24⟩
 refine ⟨_, rfl, ?_⟩
 have S25 := S0.call r24
 refine FL.v (E.not rfl) ?_
 refine FL.v (E.move (v := Value.bool (!r21)) rfl) ?_
 obtain ⟨t31, hqt31, hp⟩ := bnd hp
 refine FL.cut 6 (fun f w => ∃ H : GH, St Ha wa H w [] ∧ Inc Ha H ∧ f 0 = v0 ∧ f 1 = v1 ∧ f 2 = Value.int .i64 a2 ∧ f 18 = Value.bool t31) ?_ ?_
 ·
  clear hp; have hp := hqt31; clear hqt31
  rcases ifB hp with ⟨c37, hp⟩ | ⟨c37, hp⟩
  ·
   refine FL.skip (wF_no rfl rfl rfl c37) rfl ?_
   refine FL.skip (wF_no rfl rfl rfl c37) rfl ?_
   refine FL.skip (wF_no rfl rfl rfl c37) rfl ?_
   refine FL.skip (wF_no rfl rfl rfl c37) rfl ?_
   refine FL.skip (wF_no rfl rfl rfl c37) rfl ?_
   obtain rfl := Option.some.inj hp
   refine FL.v (E.pickT rfl c37 rfl) ?_
   exact FL.nil ⟨rfl, _, S25, (Inc.rfl _), rfl, rfl, rfl, rfl⟩
  ·
   refine FL.val (wF_yes rfl rfl rfl c37) rfl rfl (E.move (v := v1) rfl) ?_
   refine FL.val (wF_yes rfl rfl rfl c37) rfl rfl (E.move (v := Value.int .i64 a2) rfl) ?_
   refine FL.val (wF_yes rfl rfl rfl c37) rfl rfl (E.neg rfl) ?_
   obtain ⟨r38, hr39, hp⟩ := bnd hp
   refine FL.call (wF_yes rfl rfl rfl c37) rfl rfl (E.call Tryz.call83 (A2 rfl rfl)) (w_spec_l2Has S25.sl v1 a1 p1 (wr (-a2)) hr39) ?_
   rintro e w40 ⟨rfl, r41⟩
   refine ⟨_, rfl, ?_⟩
   have S42 := S25.call r41
   refine FL.val (wF_yes rfl rfl rfl c37) rfl rfl (E.not rfl) ?_
   obtain rfl := Option.some.inj hp
   refine FL.v (E.pickF rfl c37 rfl) ?_
   exact FL.nil ⟨rfl, _, S42, (Inc.rfl _), rfl, rfl, rfl, rfl⟩
 rintro f36 w35 ⟨H32, S33, i34, k43, k44, k45, k46⟩
 refine FL.nil ?_
 rcases ifB hp with ⟨c47, hp⟩ | ⟨c47, hp⟩
 ·
  refine FW.condT k46 c47 ?_
  refine FW.seq (FW.region ?_)
  obtain ⟨v48, w49, run50, S51⟩ := S33.buildSlice (P := Tryz.prog) te34 [] (parts := #[]) (cells := []) rfl szs_nil fc_nil ones_nil (Nat.le_of_ble_eq_true rfl)
  have els52 : Els (up wa.heap.size H32) eI 1 [] [] := Els.nil
  refine FL.v (E.buildSlice (B0) run50) ?_
  refine FL.v (E.assign (v := v48) rfl) ?_
  refine FL.v (E.assign (v := Value.bool false) rfl) ?_
  refine FL.nil ?_
  refine FW.ret ?_
  obtain rfl := Option.some.inj hp
  exact ⟨.inr rfl, res2 rfl rfl rfl ⟨_, _, _, _, rfl, S51, els52⟩⟩
 ·
  refine FW.condF k46 c47 ?_
  refine FW.skip (FW.seq (FW.region ?_))
  refine FL.v (E.move k43) ?_
  refine FL.v (E.move k45) ?_
  obtain ⟨r53, hr54, hp⟩ := bnd hp
  refine FL.call rfl rfl rfl (E.call Tryz.call185 (A2 rfl rfl)) (w_spec_l2Without S33.sl v0 a0 (p0.mono i34) a2 hr54) ?_
  rintro e w56 ⟨H55, v59, n60, cs61, rfl, r58, els62⟩
  refine ⟨_, rfl, ?_⟩
  have els62 := els62.mono (up_le S33.size)
  have S57 := S33.join (l' := [.row 3 1 v59 n60 cs61]) r58 rfl
  refine FL.v (E.move k44) ?_
  refine FL.v (E.move k45) ?_
  obtain ⟨r63, hr64, hp⟩ := bnd hp
  refine FL.call rfl rfl rfl (E.call Tryz.call185 (A2 rfl rfl)) (w_spec_l2Without S57.sl v1 a1 (p1.mono (i34.tr r58.run.inc)) a2 hr64) ?_
  rintro e w66 ⟨H65, v69, n70, cs71, rfl, r68, els72⟩
  refine ⟨_, rfl, ?_⟩
  have els72 := els72.mono (up_le S57.size)
  have S67 := S57.join (l' := [.row 3 1 v69 n70 cs71, .row 3 1 v59 n60 cs61]) r68 rfl
  obtain ⟨H73, S74, i75, h76, nv77⟩ := S67.sealRowU (i := 1) (l' := [.row 3 1 v69 n70 cs71]) rfl (els62.mono (up_mono r68.run.inc)) (by decide) rfl
  obtain ⟨H78, S79, i80, h81, nv82⟩ := S74.sealRowU (i := 0) (l' := []) rfl (els72.mono (up_mono i75)) (by decide) rfl
  obtain ⟨r83, hr84, hp⟩ := bnd hp
  refine FL.call rfl rfl rfl (E.call Tryz.call184 (A2 rfl rfl)) (w_spec_l2Join S79.sl v59 r53 (h76.mono (upI.tr i80)) v69 r63 (h81.mono upI) hr84) ?_
  rintro e w86 ⟨H85, v91, n92, cs93, rfl, r88, els94⟩
  refine ⟨_, rfl, ?_⟩
  obtain ⟨H89, r88, hU90⟩ := St.lendX (i75.tr i80) S67.sl r88
  have els94 := els94.mono (hU90.tr (up_le S67.size))
  have S87 := S67.join (l' := [.row 3 1 v91 n92 cs93, .row 3 1 v69 n70 cs71, .row 3 1 v59 n60 cs61]) r88 rfl
  refine FL.v (E.extract (i := 0) rfl rfl) ?_
  refine FL.v (E.extract (i := 1) rfl rfl) ?_
  refine FL.v (E.assign (v := v91) rfl) ?_
  refine FL.v (E.assign (v := Value.bool r83.2) rfl) ?_
  refine FL.nil ?_
  refine FW.ret ?_
  obtain rfl := Option.some.inj hp
  exact ⟨.inr rfl, res2 rfl rfl rfl ⟨_, _, _, _, rfl, (S87.sel [0] (by decide) rfl), els94⟩⟩

@[reducible] def p_spec_EliminateVar (Ha : GH) (wa : World) (r : (Cnf × Bool)) : Ending → World → Prop :=
  fun e w' => ∃ H' : GH, ∃ v0_1 : Value, e = .returned (Value.tuple #[Value.agg #[Value.int .i64 r.1.vars, v0_1], Value.bool r.2]) ∧ Run wa.heap.size Ha wa H' w' ∧ RSl H' (eL eI 1) 1 v0_1 r.1.clauses
set_option maxHeartbeats 4000000 in
theorem w_spec_EliminateVar {Ha : GH} {wa : World} (hs : Sl Ha wa) (a0 : Cnf) (v0_1 : Value) (p0_1 : RSl Ha (eL eI 1) 1 v0_1 a0.clauses) (a1 : Int) {r : (Cnf × Bool)} (hp : (PF.spec_EliminateVar a0 a1) = some r) :
    Calls Tryz.prog 11 #[Value.agg #[Value.int .i64 a0.vars, v0_1], Value.int .i64 a1] wa (p_spec_EliminateVar Ha wa r) := by
  unfold PF.spec_EliminateVar at hp
  have S0 := St.init hs
  refine calls_go (N := 93) (args := [Value.agg #[Value.int .i64 a0.vars, v0_1], Value.int .i64 a1]) Tryz.func11 rfl rfl rfl ?_
  refine FW.seq (FW.region ?_)
  obtain ⟨b21, w22, run23, S24⟩ := S0.box (P := Tryz.prog) 26 [Value.int .i64 a0.vars, v0_1] (v := Value.agg #[Value.int .i64 a0.vars, v0_1]) rfl (ones_cons rfl (ones_cons p0_1.one ones_nil))
  refine FL.v (E.box rfl run23) ?_
  obtain ⟨H25, S26, i27, at28⟩ := S24.sealBox (i := 0) (l' := []) rfl rfl
  have S33 := S26.nil 34 1
  have els34 : Els (up wa.heap.size H25) (eL eI 1) 1 [] [] := Els.nil
  obtain ⟨b29, w30, run31, S32⟩ := S33.alloc (P := Tryz.prog) 26 [Value.int .i64 0, Value.slice none 0 0] Tryz.zeroValue26 rfl (ones_cons rfl (ones_cons rfl ones_nil))
  refine FL.v (E.alloc run31) ?_
  refine FL.v (E.assign (v := Value.bool false) rfl) ?_
  refine FL.nil (FW.seq (FW.seq (FW.region ?_)))
  refine FL.v (E.load rfl (run_loadA Tryz.isAgg26 Tryz.sizeOf26 (at28.now S32.sl) rfl)) ?_
  obtain ⟨r35, hr36, hp⟩ := bnd hp
  refine FL.call rfl rfl rfl (E.call Tryz.call81 (A1 rfl)) (w_spec_l2Good S32.sl a0 v0_1 (p0_1.mono i27) hr36) ?_
  rintro e w37 ⟨rfl, r38⟩
  refine ⟨_, rfl, ?_⟩
  have S39 := S32.call r38
  refine FL.v (E.not rfl) ?_
  refine FL.v (E.move (v := Value.bool (!r35)) rfl) ?_
  refine FL.cut 6 (fun f w => ∃ H : GH, St Ha wa H w [.box b29 26 [Value.int .i64 0, (Value.slice none 0 0)], .row 34 1 (Value.slice none 0 0) 0 []] ∧ Inc H25 H ∧ f 1 = Value.int .i64 a1 ∧ f 2 = Value.pointer (some ⟨b21, 0, none⟩) ∧ f 4 = Value.pointer (some (⟨b29, 0, none⟩ : Addr)) ∧ f 22 = Value.bool (bif (!r35) then true else (!(PF.spec_l1In a1 1 a0.vars)))) ?_ ?_
  ·
    rcases bcase (!r35) with c49 | c49
    ·
      refine FL.skip (wF_no rfl rfl rfl c49) rfl ?_
      refine FL.skip (wF_no rfl rfl rfl c49) rfl ?_
      refine FL.skip (wF_no rfl rfl rfl c49) rfl ?_
      refine FL.skip (wF_no rfl rfl rfl c49) rfl ?_
      refine FL.skip (wF_no rfl rfl rfl c49) rfl ?_
      refine FL.v (E.pickT rfl c49 rfl) ?_
      exact FL.nil ⟨rfl, _, S39, (Inc.rfl _), rfl, rfl, rfl, (congrArg Value.bool (bifT c49).symm)⟩
    ·
      refine FL.val (wF_yes rfl rfl rfl c49) rfl rfl (E.move (v := Value.int .i64 a1) rfl) ?_
      refine FL.val (wF_yes rfl rfl rfl c49) rfl rfl (E.fieldAddr tf26_0 rfl) ?_
      refine FL.val (wF_yes rfl rfl rfl c49) rfl rfl (E.load rfl (run_load1 Tryz.isAgg3 (at28.now S39.sl) rfl)) ?_
      refine FL.call (wF_yes rfl rfl rfl c49) rfl rfl (E.call Tryz.call82 (A3 rfl rfl rfl)) (w_spec_l1In S39.sl a1 1 a0.vars) ?_
      rintro e w50 ⟨rfl, r51⟩
      refine ⟨_, rfl, ?_⟩
      have S52 := S39.call r51
      refine FL.val (wF_yes rfl rfl rfl c49) rfl rfl (E.not rfl) ?_
      refine FL.v (E.pickF rfl c49 rfl) ?_
      exact FL.nil ⟨rfl, _, S52, (Inc.rfl _), rfl, rfl, rfl, (congrArg Value.bool (bifF c49).symm)⟩
  rintro f48 w47 ⟨H44, S45, i46, k53, k54, k55, k56⟩
  refine FL.nil ?_
  rcases ifB hp with ⟨c57, hp⟩ | ⟨c57, hp⟩
  ·
    refine FW.condT k56 c57 ?_
    refine FW.seq (FW.region ?_)
    refine FL.v (E.build (B0) (run_build _ 26 #[] #[Value.int .i64 0, Value.slice none 0 0] (by rfl))) ?_
    have S58 := S45.nil 34 1
    have els59 : Els (up wa.heap.size H44) (eL eI 1) 1 [] [] := Els.nil
    obtain ⟨w60, run61, S62⟩ := S58.store0 (P := Tryz.prog) (t := 26) (i := 1) (cs' := [Value.int .i64 0, (Value.slice none 0 0)]) (l' := [.row 34 1 (Value.slice none 0 0) 0 [], .box b29 26 [Value.int .i64 0, (Value.slice none 0 0)], .row 34 1 (Value.slice none 0 0) 0 []]) (v := Value.agg #[Value.int .i64 0, (Value.slice none 0 0)]) (c := [Value.int .i64 0, (Value.slice none 0 0)]) rfl Tryz.sizeOf26 rfl rfl (ones_cons rfl (ones_cons (Ln.one (S58.row_ln (i := 0) rfl)) ones_nil)) (Nat.le_of_ble_eq_true rfl) rfl rfl
    refine FL.act rfl rfl (E.store k55 rfl run61) ?_
    refine FL.v (E.assign (v := Value.bool false) rfl) ?_
    refine FL.nil ?_
    refine FW.ret ?_
    obtain ⟨H63, S64, i65, ns68, nv67⟩ := S62.sealRowN (i := 0) (l' := [.box b29 26 [Value.int .i64 0, (Value.slice none 0 0)], .row 34 1 (Value.slice none 0 0) 0 []]) rfl els59 (show (bl []).Nodup from List.nodup_nil) (by decide) rfl
    have h66 := ns68.rsl
    obtain rfl := Option.some.inj hp
    exact ⟨.inr rfl, resC2 rfl k55 (loadVar_A Tryz.isAgg26 Tryz.sizeOf26 (S64.box_now (i := 0) rfl) rfl) rfl ⟨_, _, rfl, S64.run, (h66.mono upI)⟩⟩
  ·
    refine FW.condF k56 c57 ?_
    refine FW.skip (FW.seq (FW.region ?_))
    obtain ⟨v69, w70, run71, S72⟩ := S45.buildSlice (P := Tryz.prog) te24 [] (parts := #[]) (cells := []) rfl szs_nil fc_nil ones_nil (Nat.le_of_ble_eq_true rfl)
    have els73 : Els (up wa.heap.size H44) (eL eI 1) 1 [] [] := Els.nil
    refine FL.v (E.buildSlice (B0) run71) ?_
    refine FL.v (E.assign (v := v69) rfl) ?_
    refine FL.nil (FW.seq (FW.seq (FW.region ?_)))
    refine FL.v (E.assign (v := Value.int .i64 0) rfl) ?_
    refine FL.nil ?_
    obtain ⟨H74, S75, i76, ns79, nv78⟩ := S72.sealRowN (i := 0) (l' := [.box b29 26 [Value.int .i64 0, (Value.slice none 0 0)], .row 34 1 (Value.slice none 0 0) 0 []]) rfl els73 (show (bl []).Nodup from List.nodup_nil) (by decide) rfl
    have h77 := ns79.rsl
    obtain ⟨q80, hq, hp⟩ := bndR hp
    refine FW.block ?_
    refine FW.mono (FW.iter (S := ((List (List Int)) × Int)) (X := Empty) (fun (s80 : ((List (List Int)) × Int)) f w => ∃ H : GH, ∃ v81 : Value, St Ha wa H w [.box b29 26 [Value.int .i64 0, (Value.slice none 0 0)], .row 34 1 (Value.slice none 0 0) 0 []] ∧ Inc H74 H ∧ RSl H (eL eI 1) 1 v81 s80.1 ∧ f 1 = Value.int .i64 a1 ∧ f 2 = Value.pointer (some ⟨b21, 0, none⟩) ∧ f 4 = Value.pointer (some (⟨b29, 0, none⟩ : Addr)) ∧ f 6 = v81 ∧ f 7 = Value.int .i64 s80.2) (fun (q : Rs ((List (List Int)) × Int) Empty) e f w => match q with | .go s80 => e = Exit.exit 0 ∧ (∃ H : GH, ∃ v81 : Value, St Ha wa H w [.box b29 26 [Value.int .i64 0, (Value.slice none 0 0)], .row 34 1 (Value.slice none 0 0) 0 []] ∧ Inc H74 H ∧ RSl H (eL eI 1) 1 v81 s80.1 ∧ f 2 = Value.pointer (some ⟨b21, 0, none⟩) ∧ f 4 = Value.pointer (some (⟨b29, 0, none⟩ : Addr)) ∧ f 6 = v81) | .rt x => x.elim) hq ⟨_, _, S75, (Inc.rfl _), (h77.mono upI), k53, k54, k55, rfl, rfl⟩ ?_) ?_
    ·
      clear hp hq
      rintro s80 f285 w284 ⟨H281, v81, S282, i283, h82, k286, k287, k288, k289, k290⟩ o700 hp
      refine FW.seq (FW.seq (FW.region ?_))
      refine FL.v (E.move k290) ?_
      refine FL.v (E.fieldAddr tf26_1 k287) ?_
      refine FL.v (E.load rfl (run_load1 Tryz.isAgg24 ((at28.mono ((i46.tr i76).tr i283)).now S282.sl) rfl)) ?_
      refine FL.v (E.lenP te24 rfl p0_1) ?_
      refine FL.v (E.lss rfl rfl) ?_
      refine FL.nil ?_
      rcases ifB hp with ⟨c291, hp⟩ | ⟨c291, hp⟩
      ·
        refine FW.condT rfl c291 ?_
        refine FW.skip (FW.seq (FW.block (FW.seq (FW.region ?_))))
        refine FL.v (E.fieldAddr tf26_1 k287) ?_
        refine FL.v (E.load rfl (run_load1 Tryz.isAgg24 ((at28.mono ((i46.tr i76).tr i283)).now S282.sl) rfl)) ?_
        refine FL.v (E.move k290) ?_
        obtain ⟨x298, hx299, hp⟩ := bnd hp
        obtain ⟨p292, cs293, pt294, l295, at296, rel297⟩ := p0_1.at hx299
        obtain ⟨v300, rfl, h301⟩ := eL_open rel297
        refine FL.v (E.indexAddr te24 rfl rfl pt294) ?_
        refine FL.v (E.load rfl (run_load0 Tryz.isAgg34 ((at296.mono (((i27.tr i46).tr i76).tr i283)).now S282.sl) rfl)) ?_
        refine FL.v (E.assign (v := v300) rfl) ?_
        refine FL.nil (FW.seq (FW.seq (FW.region ?_)))
        refine FL.v (E.move (v := v300) rfl) ?_
        refine FL.v (E.move k286) ?_
        obtain ⟨r302, hr303, hp⟩ := bnd hp
        refine FL.call rfl rfl rfl (E.call Tryz.call83 (A2 rfl rfl)) (w_spec_l2Has S282.sl v300 x298 (h301.mono (((i27.tr i46).tr i76).tr i283)) a1 hr303) ?_
        rintro e w304 ⟨rfl, r305⟩
        refine ⟨_, rfl, ?_⟩
        have S306 := S282.call r305
        refine FL.v (E.not rfl) ?_
        refine FL.v (E.move (v := Value.bool (!r302)) rfl) ?_
        obtain ⟨t312, hqt312, hp⟩ := bnd hp
        refine FL.cut 6 (fun f w => ∃ H : GH, St Ha wa H w [.box b29 26 [Value.int .i64 0, (Value.slice none 0 0)], .row 34 1 (Value.slice none 0 0) 0 []] ∧ Inc H281 H ∧ f 1 = Value.int .i64 a1 ∧ f 2 = Value.pointer (some ⟨b21, 0, none⟩) ∧ f 4 = Value.pointer (some (⟨b29, 0, none⟩ : Addr)) ∧ f 6 = v81 ∧ f 7 = Value.int .i64 s80.2 ∧ f 8 = v300 ∧ f 47 = Value.bool t312) ?_ ?_
        ·
          clear hp; have hp := hqt312; clear hqt312
          rcases ifB hp with ⟨c318, hp⟩ | ⟨c318, hp⟩
          ·
            refine FL.val (wF_yes rfl rfl rfl c318) rfl rfl (E.move (v := v300) rfl) ?_
            refine FL.val (wF_yes rfl rfl rfl c318) rfl rfl (E.move k286) ?_
            refine FL.val (wF_yes rfl rfl rfl c318) rfl rfl (E.neg rfl) ?_
            obtain ⟨r319, hr320, hp⟩ := bnd hp
            refine FL.call (wF_yes rfl rfl rfl c318) rfl rfl (E.call Tryz.call83 (A2 rfl rfl)) (w_spec_l2Has S306.sl v300 x298 (h301.mono (((i27.tr i46).tr i76).tr i283)) (wr (-a1)) hr320) ?_
            rintro e w321 ⟨rfl, r322⟩
            refine ⟨_, rfl, ?_⟩
            have S323 := S306.call r322
            refine FL.val (wF_yes rfl rfl rfl c318) rfl rfl (E.not rfl) ?_
            obtain rfl := Option.some.inj hp
            refine FL.v (E.pickT rfl c318 rfl) ?_
            exact FL.nil ⟨rfl, _, S323, (Inc.rfl _), k286, k287, k288, k289, k290, rfl, rfl⟩
          ·
            refine FL.skip (wF_no rfl rfl rfl c318) rfl ?_
            refine FL.skip (wF_no rfl rfl rfl c318) rfl ?_
            refine FL.skip (wF_no rfl rfl rfl c318) rfl ?_
            refine FL.skip (wF_no rfl rfl rfl c318) rfl ?_
            refine FL.skip (wF_no rfl rfl rfl c318) rfl ?_
            obtain rfl := Option.some.inj hp
            refine FL.v (E.pickF rfl c318 rfl) ?_
            exact FL.nil ⟨rfl, _, S306, (Inc.rfl _), k286, k287, k288, k289, k290, rfl, rfl⟩
        rintro f317 w316 ⟨H313, S314, i315, k324, k325, k326, k327, k328, k329, k330⟩
        refine FL.nil ?_
        rcases ifB hp with ⟨c331, hp⟩ | ⟨c331, hp⟩
        ·
          refine FW.condT k330 c331 ?_
          refine FW.region ?_
          refine FL.v (E.move k327) ?_
          obtain ⟨v332, w333, run334, S335⟩ := S314.buildSlice (P := Tryz.prog) te34 [] (parts := #[]) (cells := []) rfl szs_nil fc_nil ones_nil (Nat.le_of_ble_eq_true rfl)
          have els336 : Els (up wa.heap.size H313) eI 1 [] [] := Els.nil
          refine FL.v (E.buildSlice (B0) run334) ?_
          refine FL.v (E.move k329) ?_
          obtain ⟨xs337, hz338, hp⟩ := bnd hp
          obtain ⟨v339, w342, n340, cs341, run343, S344, els345⟩ := S335.appendP (P := Tryz.prog) (Inc.rfl _) te34 (i := 0) rfl (els336.mono upI) (h301.mono ((((i27.tr i46).tr i76).tr i283).tr i315)) hz338
          have S344 : St Ha wa H313 w342 [.row 3 1 v339 n340 cs341, .box b29 26 [Value.int .i64 0, (Value.slice none 0 0)], .row 34 1 (Value.slice none 0 0) 0 []] := S344
          have els345 : Els (up wa.heap.size H313) eI 1 cs341 xs337 := els345.any (fun _ _ _ _ h => h)
          refine FL.v (E.append rfl rfl run343) ?_
          obtain ⟨H347, S348, i349, h350, nv351⟩ := S344.sealRowU (i := 0) (l' := [.box b29 26 [Value.int .i64 0, (Value.slice none 0 0)], .row 34 1 (Value.slice none 0 0) 0 []]) rfl els345 (by decide) rfl
          obtain ⟨r352, hr353, hp⟩ := bnd hp
          refine FL.call rfl rfl rfl (E.call Tryz.call84 (A2 rfl rfl)) (w_spec_l2Insert S348.sl v81 s80.1 (h82.mono (i315.tr i349)) v339 xs337 (h350.mono upI) hr353) ?_
          rintro e w355 ⟨H354, v358, rfl, r357, h359⟩
          refine ⟨_, rfl, ?_⟩
          have S356 := S348.call r357
          refine FL.v (E.assign (v := v358) rfl) ?_
          refine FL.nil (FW.seq (FW.region ?_))
          refine FL.v (E.assign (v := Value.int .i64 0) rfl) ?_
          refine FL.nil ?_
          obtain ⟨q360, hq, hp⟩ := bndR hp
          refine FW.block ?_
          refine FW.mono (FW.iter (S := ((List (List Int)) × Int)) (X := Empty) (fun (s360 : ((List (List Int)) × Int)) f w => ∃ H : GH, ∃ v361 : Value, St Ha wa H w [.box b29 26 [Value.int .i64 0, (Value.slice none 0 0)], .row 34 1 (Value.slice none 0 0) 0 []] ∧ Inc H354 H ∧ RSl H (eL eI 1) 1 v361 s360.1 ∧ f 1 = Value.int .i64 a1 ∧ f 2 = Value.pointer (some ⟨b21, 0, none⟩) ∧ f 4 = Value.pointer (some (⟨b29, 0, none⟩ : Addr)) ∧ f 6 = v361 ∧ f 7 = Value.int .i64 s80.2 ∧ f 8 = v300 ∧ f 9 = Value.int .i64 s360.2) (fun (q : Rs ((List (List Int)) × Int) Empty) e f w => match q with | .go s360 => e = Exit.exit 2 ∧ (∃ H : GH, ∃ v361 : Value, St Ha wa H w [.box b29 26 [Value.int .i64 0, (Value.slice none 0 0)], .row 34 1 (Value.slice none 0 0) 0 []] ∧ Inc H354 H ∧ RSl H (eL eI 1) 1 v361 s360.1 ∧ f 1 = Value.int .i64 a1 ∧ f 2 = Value.pointer (some ⟨b21, 0, none⟩) ∧ f 4 = Value.pointer (some (⟨b29, 0, none⟩ : Addr)) ∧ f 6 = v361 ∧ f 7 = Value.int .i64 s80.2) | .rt x => x.elim) hq ⟨_, _, S356, (Inc.rfl _), h359, k324, k325, k326, rfl, k328, k329, rfl⟩ ?_) ?_
          ·
            clear hp hq
            rintro s360 f445 w444 ⟨H441, v361, S442, i443, h362, k446, k447, k448, k449, k450, k451, k452⟩ o519 hp
            refine FW.seq (FW.seq (FW.region ?_))
            refine FL.v (E.move k452) ?_
            refine FL.v (E.fieldAddr tf26_1 k447) ?_
            refine FL.v (E.load rfl (run_load1 Tryz.isAgg24 ((at28.mono ((((((i46.tr i76).tr i283).tr i315).tr i349).tr r357.inc).tr i443)).now S442.sl) rfl)) ?_
            refine FL.v (E.lenP te24 rfl p0_1) ?_
            refine FL.v (E.lss rfl rfl) ?_
            refine FL.v (E.move (v := Value.bool (decide (s360.2 < (len a0.clauses)))) rfl) ?_
            obtain ⟨t458, hqt458, hp⟩ := bnd hp
            refine FL.cut 4 (fun f w => ∃ H : GH, St Ha wa H w [.box b29 26 [Value.int .i64 0, (Value.slice none 0 0)], .row 34 1 (Value.slice none 0 0) 0 []] ∧ Inc H441 H ∧ f 1 = Value.int .i64 a1 ∧ f 2 = Value.pointer (some ⟨b21, 0, none⟩) ∧ f 4 = Value.pointer (some (⟨b29, 0, none⟩ : Addr)) ∧ f 6 = v361 ∧ f 7 = Value.int .i64 s80.2 ∧ f 8 = v300 ∧ f 9 = Value.int .i64 s360.2 ∧ f 62 = Value.bool t458) ?_ ?_
            ·
              clear hp; have hp := hqt458; clear hqt458
              rcases ifB hp with ⟨c464, hp⟩ | ⟨c464, hp⟩
              ·
                refine FL.val (wF_yes rfl rfl rfl c464) rfl rfl (E.move k451) ?_
                refine FL.val (wF_yes rfl rfl rfl c464) rfl rfl (E.move k446) ?_
                obtain ⟨r465, hr466, hp⟩ := bnd hp
                refine FL.call (wF_yes rfl rfl rfl c464) rfl rfl (E.call Tryz.call83 (A2 rfl rfl)) (w_spec_l2Has S442.sl v300 x298 (h301.mono (((((((i27.tr i46).tr i76).tr i283).tr i315).tr i349).tr r357.inc).tr i443)) a1 hr466) ?_
                rintro e w467 ⟨rfl, r468⟩
                refine ⟨_, rfl, ?_⟩
                have S469 := S442.call r468
                obtain rfl := Option.some.inj hp
                refine FL.v (E.pickT rfl c464 rfl) ?_
                exact FL.nil ⟨rfl, _, S469, (Inc.rfl _), k446, k447, k448, k449, k450, k451, k452, rfl⟩
              ·
                refine FL.skip (wF_no rfl rfl rfl c464) rfl ?_
                refine FL.skip (wF_no rfl rfl rfl c464) rfl ?_
                refine FL.skip (wF_no rfl rfl rfl c464) rfl ?_
                obtain rfl := Option.some.inj hp
                refine FL.v (E.pickF rfl c464 rfl) ?_
                exact FL.nil ⟨rfl, _, S442, (Inc.rfl _), k446, k447, k448, k449, k450, k451, k452, rfl⟩
            rintro f463 w462 ⟨H459, S460, i461, k470, k471, k472, k473, k474, k475, k476, k477⟩
            refine FL.nil ?_
            rcases ifB hp with ⟨c478, hp⟩ | ⟨c478, hp⟩
            ·
              refine FW.condT k477 c478 ?_
              refine FW.skip (FW.seq (FW.block (FW.seq (FW.region ?_))))
              refine FL.v (E.fieldAddr tf26_1 k471) ?_
              refine FL.v (E.load rfl (run_load1 Tryz.isAgg24 ((at28.mono (((((((i46.tr i76).tr i283).tr i315).tr i349).tr r357.inc).tr i443).tr i461)).now S460.sl) rfl)) ?_
              refine FL.v (E.move k476) ?_
              obtain ⟨x485, hx486, hp⟩ := bnd hp
              obtain ⟨p479, cs480, pt481, l482, at483, rel484⟩ := p0_1.at hx486
              obtain ⟨v487, rfl, h488⟩ := eL_open rel484
              refine FL.v (E.indexAddr te24 rfl rfl pt481) ?_
              refine FL.v (E.load rfl (run_load0 Tryz.isAgg34 ((at483.mono ((((((((i27.tr i46).tr i76).tr i283).tr i315).tr i349).tr r357.inc).tr i443).tr i461)).now S460.sl) rfl)) ?_
              refine FL.v (E.assign (v := v487) rfl) ?_
              refine FL.nil (FW.seq (FW.region ?_))
              refine FL.v (E.move (v := v487) rfl) ?_
              refine FL.v (E.move k470) ?_
              refine FL.v (E.neg rfl) ?_
              obtain ⟨r489, hr490, hp⟩ := bnd hp
              refine FL.call rfl rfl rfl (E.call Tryz.call83 (A2 rfl rfl)) (w_spec_l2Has S460.sl v487 x485 (h488.mono ((((((((i27.tr i46).tr i76).tr i283).tr i315).tr i349).tr r357.inc).tr i443).tr i461)) (wr (-a1)) hr490) ?_
              rintro e w491 ⟨rfl, r492⟩
              refine ⟨_, rfl, ?_⟩
              have S493 := S460.call r492
              refine FL.nil ?_
              rcases ifB hp with ⟨c494, hp⟩ | ⟨c494, hp⟩
              ·
                refine FW.condT rfl c494 ?_
                refine FW.seq (FW.region ?_)
                refine FL.v (E.move k475) ?_
                refine FL.v (E.move (v := v487) rfl) ?_
                refine FL.v (E.move k470) ?_
                obtain ⟨r495, hr496, hp⟩ := bnd hp
                refine FL.call rfl rfl rfl (E.call Tryz.call85 (A3 rfl rfl rfl)) (w_spec_l2Resolve S493.sl v300 x298 (h301.mono ((((((((i27.tr i46).tr i76).tr i283).tr i315).tr i349).tr r357.inc).tr i443).tr i461)) v487 x485 (h488.mono ((((((((i27.tr i46).tr i76).tr i283).tr i315).tr i349).tr r357.inc).tr i443).tr i461)) a1 hr496) ?_
                rintro e w498 ⟨H497, v501, n502, cs503, rfl, r500, els504⟩
                refine ⟨_, rfl, ?_⟩
                have els504 := els504.mono (up_le S493.size)
                have S499 := S493.join (l' := [.row 3 1 v501 n502 cs503, .box b29 26 [Value.int .i64 0, (Value.slice none 0 0)], .row 34 1 (Value.slice none 0 0) 0 []]) r500 rfl
                refine FL.v (E.move (v := Value.tuple #[v501, Value.bool r495.2]) rfl) ?_
                refine FL.v (E.extract (i := 0) rfl rfl) ?_
                refine FL.v (E.extract (i := 1) rfl rfl) ?_
                refine FL.v (E.assign (v := v501) rfl) ?_
                refine FL.v (E.assign (v := Value.bool r495.2) rfl) ?_
                refine FL.nil (FW.seq (FW.region ?_))
                refine FL.v (E.move (v := Value.bool r495.2) rfl) ?_
                refine FL.nil ?_
                rcases ifB hp with ⟨c505, hp⟩ | ⟨c505, hp⟩
                ·
                  refine FW.condT rfl c505 ?_
                  refine FW.region ?_
                  refine FL.v (E.move k473) ?_
                  refine FL.v (E.move (v := v501) rfl) ?_
                  obtain ⟨H506, S507, i508, h509, nv510⟩ := S499.sealRowU (i := 0) (l' := [.box b29 26 [Value.int .i64 0, (Value.slice none 0 0)], .row 34 1 (Value.slice none 0 0) 0 []]) rfl els504 (by decide) rfl
                  obtain ⟨r511, hr512, hp⟩ := bnd hp
                  refine FL.call rfl rfl rfl (E.call Tryz.call84 (A2 rfl rfl)) (w_spec_l2Insert S507.sl v361 s360.1 (h362.mono ((i461.tr r500.run.inc).tr i508)) v501 r495.1 (h509.mono upI) hr512) ?_
                  rintro e w514 ⟨H513, v517, rfl, r516, h518⟩
                  refine ⟨_, rfl, ?_⟩
                  have S515 := S507.call r516
                  refine FL.v (E.assign (v := v517) rfl) ?_
                  refine FL.nil (FW.region ?_)
                  refine FL.v (E.move k476) ?_
                  refine FL.v (E.add rfl rfl) ?_
                  refine FL.v (E.assign (v := Value.int .i64 (wr (s360.2 + 1))) rfl) ?_
                  refine FL.nil ?_
                  obtain rfl := Option.some.inj hp
                  exact ⟨rfl, ⟨_, _, S515, ((((i443.tr i461).tr r500.run.inc).tr i508).tr r516.inc), h518, k470, k471, k472, rfl, k474, k475, rfl⟩⟩
                ·
                  refine FW.condF rfl c505 ?_
                  refine FW.skip (FW.region ?_)
                  refine FL.v (E.move k476) ?_
                  refine FL.v (E.add rfl rfl) ?_
                  refine FL.v (E.assign (v := Value.int .i64 (wr (s360.2 + 1))) rfl) ?_
                  refine FL.nil ?_
                  obtain rfl := Option.some.inj hp
                  exact ⟨rfl, ⟨_, _, (S499.sel [1, 2] (by decide) rfl), ((i443.tr i461).tr r500.run.inc), (h362.mono (i461.tr r500.run.inc)), k470, k471, k472, k473, k474, k475, rfl⟩⟩
              ·
                refine FW.condF rfl c494 ?_
                refine FW.skip (FW.region ?_)
                refine FL.v (E.move k476) ?_
                refine FL.v (E.add rfl rfl) ?_
                refine FL.v (E.assign (v := Value.int .i64 (wr (s360.2 + 1))) rfl) ?_
                refine FL.nil ?_
                obtain rfl := Option.some.inj hp
                exact ⟨rfl, ⟨_, _, S493, (i443.tr i461), (h362.mono i461), k470, k471, k472, k473, k474, k475, rfl⟩⟩
            ·
              refine FW.condF k477 c478 ?_
              refine FW.exit ?_
              obtain rfl := Option.some.inj hp
              exact ⟨nofun, rfl, ⟨_, _, S460, (i443.tr i461), (h362.mono i461), k470, k471, k472, k473, k474⟩⟩
          ·
            clear hq
            intro e f524 w523 hD
            rcases q360 with s360 | x360
            ·
              obtain ⟨rfl, hD⟩ := hD
              obtain ⟨H520, v361, S521, i522, h362, k525, k526, k527, k528, k529⟩ := hD
              replace hp := el_go hp
              refine FW.region ?_
              refine FL.v (E.move k529) ?_
              refine FL.v (E.add rfl rfl) ?_
              refine FL.v (E.assign (v := Value.int .i64 (wr (s80.2 + 1))) rfl) ?_
              refine FL.nil ?_
              obtain rfl := Option.some.inj hp
              exact ⟨rfl, ⟨_, _, S521, ((((i283.tr i315).tr i349).tr r357.inc).tr i522), h362, k525, k526, k527, k528, rfl⟩⟩
            · exact x360.elim
        ·
          refine FW.condF k330 c331 ?_
          refine FW.skip (FW.seq (FW.region ?_))
          refine FL.v (E.assign (v := Value.int .i64 0) rfl) ?_
          refine FL.nil ?_
          obtain ⟨q530, hq, hp⟩ := bndR hp
          refine FW.block ?_
          refine FW.mono (FW.iter (S := ((List (List Int)) × Int)) (X := Empty) (fun (s530 : ((List (List Int)) × Int)) f w => ∃ H : GH, ∃ v531 : Value, St Ha wa H w [.box b29 26 [Value.int .i64 0, (Value.slice none 0 0)], .row 34 1 (Value.slice none 0 0) 0 []] ∧ Inc H313 H ∧ RSl H (eL eI 1) 1 v531 s530.1 ∧ f 1 = Value.int .i64 a1 ∧ f 2 = Value.pointer (some ⟨b21, 0, none⟩) ∧ f 4 = Value.pointer (some (⟨b29, 0, none⟩ : Addr)) ∧ f 6 = v531 ∧ f 7 = Value.int .i64 s80.2 ∧ f 8 = v300 ∧ f 9 = Value.int .i64 s530.2) (fun (q : Rs ((List (List Int)) × Int) Empty) e f w => match q with | .go s530 => e = Exit.exit 2 ∧ (∃ H : GH, ∃ v531 : Value, St Ha wa H w [.box b29 26 [Value.int .i64 0, (Value.slice none 0 0)], .row 34 1 (Value.slice none 0 0) 0 []] ∧ Inc H313 H ∧ RSl H (eL eI 1) 1 v531 s530.1 ∧ f 1 = Value.int .i64 a1 ∧ f 2 = Value.pointer (some ⟨b21, 0, none⟩) ∧ f 4 = Value.pointer (some (⟨b29, 0, none⟩ : Addr)) ∧ f 6 = v531 ∧ f 7 = Value.int .i64 s80.2) | .rt x => x.elim) hq ⟨_, _, S314, (Inc.rfl _), (h82.mono i315), k324, k325, k326, k327, k328, k329, rfl⟩ ?_) ?_
          ·
            clear hp hq
            rintro s530 f615 w614 ⟨H611, v531, S612, i613, h532, k616, k617, k618, k619, k620, k621, k622⟩ o689 hp
            refine FW.seq (FW.seq (FW.region ?_))
            refine FL.v (E.move k622) ?_
            refine FL.v (E.fieldAddr tf26_1 k617) ?_
            refine FL.v (E.load rfl (run_load1 Tryz.isAgg24 ((at28.mono ((((i46.tr i76).tr i283).tr i315).tr i613)).now S612.sl) rfl)) ?_
            refine FL.v (E.lenP te24 rfl p0_1) ?_
            refine FL.v (E.lss rfl rfl) ?_
            refine FL.v (E.move (v := Value.bool (decide (s530.2 < (len a0.clauses)))) rfl) ?_
            obtain ⟨t628, hqt628, hp⟩ := bnd hp
            refine FL.cut 4 (fun f w => ∃ H : GH, St Ha wa H w [.box b29 26 [Value.int .i64 0, (Value.slice none 0 0)], .row 34 1 (Value.slice none 0 0) 0 []] ∧ Inc H611 H ∧ f 1 = Value.int .i64 a1 ∧ f 2 = Value.pointer (some ⟨b21, 0, none⟩) ∧ f 4 = Value.pointer (some (⟨b29, 0, none⟩ : Addr)) ∧ f 6 = v531 ∧ f 7 = Value.int .i64 s80.2 ∧ f 8 = v300 ∧ f 9 = Value.int .i64 s530.2 ∧ f 62 = Value.bool t628) ?_ ?_
            ·
              clear hp; have hp := hqt628; clear hqt628
              rcases ifB hp with ⟨c634, hp⟩ | ⟨c634, hp⟩
              ·
                refine FL.val (wF_yes rfl rfl rfl c634) rfl rfl (E.move k621) ?_
                refine FL.val (wF_yes rfl rfl rfl c634) rfl rfl (E.move k616) ?_
                obtain ⟨r635, hr636, hp⟩ := bnd hp
                refine FL.call (wF_yes rfl rfl rfl c634) rfl rfl (E.call Tryz.call83 (A2 rfl rfl)) (w_spec_l2Has S612.sl v300 x298 (h301.mono (((((i27.tr i46).tr i76).tr i283).tr i315).tr i613)) a1 hr636) ?_
                rintro e w637 ⟨rfl, r638⟩
                refine ⟨_, rfl, ?_⟩
                have S639 := S612.call r638
                obtain rfl := Option.some.inj hp
                refine FL.v (E.pickT rfl c634 rfl) ?_
                exact FL.nil ⟨rfl, _, S639, (Inc.rfl _), k616, k617, k618, k619, k620, k621, k622, rfl⟩
              ·
                refine FL.skip (wF_no rfl rfl rfl c634) rfl ?_
                refine FL.skip (wF_no rfl rfl rfl c634) rfl ?_
                refine FL.skip (wF_no rfl rfl rfl c634) rfl ?_
                obtain rfl := Option.some.inj hp
                refine FL.v (E.pickF rfl c634 rfl) ?_
                exact FL.nil ⟨rfl, _, S612, (Inc.rfl _), k616, k617, k618, k619, k620, k621, k622, rfl⟩
            rintro f633 w632 ⟨H629, S630, i631, k640, k641, k642, k643, k644, k645, k646, k647⟩
            refine FL.nil ?_
            rcases ifB hp with ⟨c648, hp⟩ | ⟨c648, hp⟩
            ·
              refine FW.condT k647 c648 ?_
              refine FW.skip (FW.seq (FW.block (FW.seq (FW.region ?_))))
              refine FL.v (E.fieldAddr tf26_1 k641) ?_
              refine FL.v (E.load rfl (run_load1 Tryz.isAgg24 ((at28.mono (((((i46.tr i76).tr i283).tr i315).tr i613).tr i631)).now S630.sl) rfl)) ?_
              refine FL.v (E.move k646) ?_
              obtain ⟨x655, hx656, hp⟩ := bnd hp
              obtain ⟨p649, cs650, pt651, l652, at653, rel654⟩ := p0_1.at hx656
              obtain ⟨v657, rfl, h658⟩ := eL_open rel654
              refine FL.v (E.indexAddr te24 rfl rfl pt651) ?_
              refine FL.v (E.load rfl (run_load0 Tryz.isAgg34 ((at653.mono ((((((i27.tr i46).tr i76).tr i283).tr i315).tr i613).tr i631)).now S630.sl) rfl)) ?_
              refine FL.v (E.assign (v := v657) rfl) ?_
              refine FL.nil (FW.seq (FW.region ?_))
              refine FL.v (E.move (v := v657) rfl) ?_
              refine FL.v (E.move k640) ?_
              refine FL.v (E.neg rfl) ?_
              obtain ⟨r659, hr660, hp⟩ := bnd hp
              refine FL.call rfl rfl rfl (E.call Tryz.call83 (A2 rfl rfl)) (w_spec_l2Has S630.sl v657 x655 (h658.mono ((((((i27.tr i46).tr i76).tr i283).tr i315).tr i613).tr i631)) (wr (-a1)) hr660) ?_
              rintro e w661 ⟨rfl, r662⟩
              refine ⟨_, rfl, ?_⟩
              have S663 := S630.call r662
              refine FL.nil ?_
              rcases ifB hp with ⟨c664, hp⟩ | ⟨c664, hp⟩
              ·
                refine FW.condT rfl c664 ?_
                refine FW.seq (FW.region ?_)
                refine FL.v (E.move k645) ?_
                refine FL.v (E.move (v := v657) rfl) ?_
                refine FL.v (E.move k640) ?_
                obtain ⟨r665, hr666, hp⟩ := bnd hp
                refine FL.call rfl rfl rfl (E.call Tryz.call85 (A3 rfl rfl rfl)) (w_spec_l2Resolve S663.sl v300 x298 (h301.mono ((((((i27.tr i46).tr i76).tr i283).tr i315).tr i613).tr i631)) v657 x655 (h658.mono ((((((i27.tr i46).tr i76).tr i283).tr i315).tr i613).tr i631)) a1 hr666) ?_
                rintro e w668 ⟨H667, v671, n672, cs673, rfl, r670, els674⟩
                refine ⟨_, rfl, ?_⟩
                have els674 := els674.mono (up_le S663.size)
                have S669 := S663.join (l' := [.row 3 1 v671 n672 cs673, .box b29 26 [Value.int .i64 0, (Value.slice none 0 0)], .row 34 1 (Value.slice none 0 0) 0 []]) r670 rfl
                refine FL.v (E.move (v := Value.tuple #[v671, Value.bool r665.2]) rfl) ?_
                refine FL.v (E.extract (i := 0) rfl rfl) ?_
                refine FL.v (E.extract (i := 1) rfl rfl) ?_
                refine FL.v (E.assign (v := v671) rfl) ?_
                refine FL.v (E.assign (v := Value.bool r665.2) rfl) ?_
                refine FL.nil (FW.seq (FW.region ?_))
                refine FL.v (E.move (v := Value.bool r665.2) rfl) ?_
                refine FL.nil ?_
                rcases ifB hp with ⟨c675, hp⟩ | ⟨c675, hp⟩
                ·
                  refine FW.condT rfl c675 ?_
                  refine FW.region ?_
                  refine FL.v (E.move k643) ?_
                  refine FL.v (E.move (v := v671) rfl) ?_
                  obtain ⟨H676, S677, i678, h679, nv680⟩ := S669.sealRowU (i := 0) (l' := [.box b29 26 [Value.int .i64 0, (Value.slice none 0 0)], .row 34 1 (Value.slice none 0 0) 0 []]) rfl els674 (by decide) rfl
                  obtain ⟨r681, hr682, hp⟩ := bnd hp
                  refine FL.call rfl rfl rfl (E.call Tryz.call84 (A2 rfl rfl)) (w_spec_l2Insert S677.sl v531 s530.1 (h532.mono ((i631.tr r670.run.inc).tr i678)) v671 r665.1 (h679.mono upI) hr682) ?_
                  rintro e w684 ⟨H683, v687, rfl, r686, h688⟩
                  refine ⟨_, rfl, ?_⟩
                  have S685 := S677.call r686
                  refine FL.v (E.assign (v := v687) rfl) ?_
                  refine FL.nil (FW.region ?_)
                  refine FL.v (E.move k646) ?_
                  refine FL.v (E.add rfl rfl) ?_
                  refine FL.v (E.assign (v := Value.int .i64 (wr (s530.2 + 1))) rfl) ?_
                  refine FL.nil ?_
                  obtain rfl := Option.some.inj hp
                  exact ⟨rfl, ⟨_, _, S685, ((((i613.tr i631).tr r670.run.inc).tr i678).tr r686.inc), h688, k640, k641, k642, rfl, k644, k645, rfl⟩⟩
                ·
                  refine FW.condF rfl c675 ?_
                  refine FW.skip (FW.region ?_)
                  refine FL.v (E.move k646) ?_
                  refine FL.v (E.add rfl rfl) ?_
                  refine FL.v (E.assign (v := Value.int .i64 (wr (s530.2 + 1))) rfl) ?_
                  refine FL.nil ?_
                  obtain rfl := Option.some.inj hp
                  exact ⟨rfl, ⟨_, _, (S669.sel [1, 2] (by decide) rfl), ((i613.tr i631).tr r670.run.inc), (h532.mono (i631.tr r670.run.inc)), k640, k641, k642, k643, k644, k645, rfl⟩⟩
              ·
                refine FW.condF rfl c664 ?_
                refine FW.skip (FW.region ?_)
                refine FL.v (E.move k646) ?_
                refine FL.v (E.add rfl rfl) ?_
                refine FL.v (E.assign (v := Value.int .i64 (wr (s530.2 + 1))) rfl) ?_
                refine FL.nil ?_
                obtain rfl := Option.some.inj hp
                exact ⟨rfl, ⟨_, _, S663, (i613.tr i631), (h532.mono i631), k640, k641, k642, k643, k644, k645, rfl⟩⟩
            ·
              refine FW.condF k647 c648 ?_
              refine FW.exit ?_
              obtain rfl := Option.some.inj hp
              exact ⟨nofun, rfl, ⟨_, _, S630, (i613.tr i631), (h532.mono i631), k640, k641, k642, k643, k644⟩⟩
          ·
            clear hq
            intro e f694 w693 hD
            rcases q530 with s530 | x530
            ·
              obtain ⟨rfl, hD⟩ := hD
              obtain ⟨H690, v531, S691, i692, h532, k695, k696, k697, k698, k699⟩ := hD
              replace hp := el_go hp
              refine FW.region ?_
              refine FL.v (E.move k699) ?_
              refine FL.v (E.add rfl rfl) ?_
              refine FL.v (E.assign (v := Value.int .i64 (wr (s80.2 + 1))) rfl) ?_
              refine FL.nil ?_
              obtain rfl := Option.some.inj hp
              exact ⟨rfl, ⟨_, _, S691, ((i283.tr i315).tr i692), h532, k695, k696, k697, k698, rfl⟩⟩
            · exact x530.elim
      ·
        refine FW.condF rfl c291 ?_
        refine FW.exit ?_
        obtain rfl := Option.some.inj hp
        exact ⟨nofun, rfl, ⟨_, _, S282, i283, h82, k287, k288, k289⟩⟩
    ·
      clear hq
      intro e f705 w704 hD
      rcases q80 with s80 | x80
      ·
        obtain ⟨rfl, hD⟩ := hD
        obtain ⟨H701, v81, S702, i703, h82, k706, k707, k708⟩ := hD
        replace hp := el_go hp
        refine FW.seq (FW.seq (FW.region ?_))
        refine FL.v (E.move k708) ?_
        refine FL.v (E.lenP te24 rfl h82) ?_
        refine FL.v (E.gtr rfl rfl) ?_
        refine FL.nil ?_
        rcases ifB hp with ⟨c709, hp⟩ | ⟨c709, hp⟩
        ·
          refine FW.condT rfl c709 ?_
          refine FW.seq (FW.region ?_)
          refine FL.v (E.build (B0) (run_build _ 26 #[] #[Value.int .i64 0, Value.slice none 0 0] (by rfl))) ?_
          have S710 := S702.nil 34 1
          have els711 : Els (up wa.heap.size H701) (eL eI 1) 1 [] [] := Els.nil
          obtain ⟨w712, run713, S714⟩ := S710.store0 (P := Tryz.prog) (t := 26) (i := 1) (cs' := [Value.int .i64 0, (Value.slice none 0 0)]) (l' := [.row 34 1 (Value.slice none 0 0) 0 [], .box b29 26 [Value.int .i64 0, (Value.slice none 0 0)], .row 34 1 (Value.slice none 0 0) 0 []]) (v := Value.agg #[Value.int .i64 0, (Value.slice none 0 0)]) (c := [Value.int .i64 0, (Value.slice none 0 0)]) rfl Tryz.sizeOf26 rfl rfl (ones_cons rfl (ones_cons (Ln.one (S710.row_ln (i := 0) rfl)) ones_nil)) (Nat.le_of_ble_eq_true rfl) rfl rfl
          refine FL.act rfl rfl (E.store k707 rfl run713) ?_
          refine FL.v (E.assign (v := Value.bool false) rfl) ?_
          refine FL.nil ?_
          refine FW.ret ?_
          obtain ⟨H715, S716, i717, ns720, nv719⟩ := S714.sealRowN (i := 0) (l' := [.box b29 26 [Value.int .i64 0, (Value.slice none 0 0)], .row 34 1 (Value.slice none 0 0) 0 []]) rfl els711 (show (bl []).Nodup from List.nodup_nil) (by decide) rfl
          have h718 := ns720.rsl
          obtain rfl := Option.some.inj hp
          exact ⟨.inr rfl, resC2 rfl k707 (loadVar_A Tryz.isAgg26 Tryz.sizeOf26 (S716.box_now (i := 0) rfl) rfl) rfl ⟨_, _, rfl, S716.run, (h718.mono upI)⟩⟩
        ·
          refine FW.condF rfl c709 ?_
          refine FW.skip (FW.seq (FW.region ?_))
          refine FL.v (E.fieldAddr tf26_0 k706) ?_
          refine FL.v (E.load rfl (run_load1 Tryz.isAgg3 ((at28.mono ((i46.tr i76).tr i703)).now S702.sl) rfl)) ?_
          refine FL.v (E.move k708) ?_
          refine FL.v (E.build (B2 rfl rfl) (run_build _ 26 #[(0, Value.int .i64 a0.vars), (1, v81)] #[Value.int .i64 a0.vars, v81] (by obtain ⟨_, _, rfl⟩ := RSl.ln h82; rfl))) ?_
          obtain ⟨w721, run722, S723⟩ := S702.store0 (P := Tryz.prog) (t := 26) (i := 0) (cs' := [Value.int .i64 a0.vars, v81]) (l' := [.box b29 26 [Value.int .i64 a0.vars, v81], .row 34 1 (Value.slice none 0 0) 0 []]) (v := Value.agg #[Value.int .i64 a0.vars, v81]) (c := [Value.int .i64 a0.vars, v81]) rfl Tryz.sizeOf26 rfl rfl (ones_cons rfl (ones_cons h82.one ones_nil)) (Nat.le_of_ble_eq_true rfl) rfl rfl
          refine FL.act rfl rfl (E.store k707 rfl run722) ?_
          refine FL.v (E.assign (v := Value.bool true) rfl) ?_
          refine FL.nil ?_
          refine FW.ret ?_
          obtain rfl := Option.some.inj hp
          exact ⟨.inr rfl, resC2 rfl k707 (loadVar_A Tryz.isAgg26 Tryz.sizeOf26 (S723.box_now (i := 0) rfl) rfl) rfl ⟨_, _, rfl, S723.run, h82⟩⟩
      · exact x80.elim

theorem w_laws_rInts {Ha : GH} {wa : World} (hs : Sl Ha wa) (v0 : Value) (a0 : List Int) (p0 : RSl Ha eI 1 v0 a0) (v1 : Value) (a1 : List Int) (p1 : RSl Ha eI 1 v1 a1) {r : Bool} (hp : (PF.laws_rInts a0 a1) = some r) :
  Calls Tryz.prog 45 #[v0, v1] wa (Sc Ha wa (Value.bool r)) := by
 unfold PF.laws_rInts at hp
 have S0 := St.init hs
 refine calls_go (N := 26) (args := [v0, v1]) Tryz.func45 rfl rfl rfl ?_
 refine FW.seq (FW.region ?_)
 refine FL.v (E.assign (v := Value.bool false) rfl) ?_
 refine FL.nil (FW.seq (FW.seq (FW.region ?_)))
 refine FL.v (E.move (v := v0) rfl) ?_
 refine FL.v (E.lenP te34 rfl p0) ?_
 refine FL.v (E.move (v := v1) rfl) ?_
 refine FL.v (E.lenP te34 rfl p1) ?_
 refine FL.v (E.neq rfl rfl) ?_
 refine FL.nil ?_
 rcases ifB hp with ⟨c21, hp⟩ | ⟨c21, hp⟩
 ·
  refine FW.condT rfl c21 ?_
  refine FW.seq (FW.region ?_)
  refine FL.v (E.assign (v := Value.bool false) rfl) ?_
  refine FL.nil ?_
  refine FW.ret ?_
  obtain rfl := Option.some.inj hp
  exact ⟨.inr rfl, res1 rfl rfl ⟨rfl, S0.back⟩⟩
 ·
  refine FW.condF rfl c21 ?_
  refine FW.skip (FW.seq (FW.seq (FW.region ?_)))
  refine FL.v (E.assign (v := Value.int .i64 0) rfl) ?_
  refine FL.nil ?_
  obtain ⟨q23, hq, hp⟩ := bndR hp
  refine FW.block ?_
  refine FW.mono (FW.forL (S := Unit) (X := Bool) (fun (i23 : Nat) (s23 : Unit) f w => ∃ H : GH, St Ha wa H w [] ∧ Inc Ha H ∧ f 5 = Value.int .i64 ((i23 : Nat) : Int) ∧ f 0 = v0 ∧ f 1 = v1) (fun q e f w => match q with | .go s23 => e = Exit.exit 0 ∧ (∃ H : GH, St Ha wa H w [] ∧ Inc Ha H) | .rt x => ((e = Exit.ret) ∧ (fun e f w => (e = Exit.normal ∨ e = Exit.ret) ∧ ∀ a, Fr (δ := []) 26 a f → ∃ v, (results Tryz.f45 a.tmps).run Tryz.prog w = .ok v w ∧ (Sc Ha wa (Value.bool x)) (.returned v) w) e f w)) hq ⟨_, S0, (Inc.rfl _), rfl, rfl, rfl⟩ ?_ ?_) ?_
  ·
   clear hp hq
   rintro i23 y22 s23 f55 w54 ⟨H51, S52, i53, k56, k57, k58⟩ hx23 o78 hp
   refine FW.seq (FW.seq (FW.region ?_))
   refine FL.v (E.move k56) ?_
   refine FL.v (E.move k57) ?_
   refine FL.v (E.lenP te34 rfl p0) ?_
   refine FL.v (E.lssT rfl rfl (lss_len hx23)) ?_
   refine FL.nil ?_
   refine FW.condT rfl rfl ?_
   refine FW.skip (FW.seq (FW.block (FW.seq ?_)))
   refine FW.draw (fun w' => Run w54.heap.size H51 w54 H51 w') (by kernel_rfl) (by kernel_rfl) (run_drew S52.sl) ?_
   refine FD.val rfl rfl rfl (fun w' hw' => (E.move k57)) ?_
   refine FD.val rfl rfl rfl (fun w' hw' => (E.move k56)) ?_
   obtain ⟨p60, cs61, pt62, l63, at64, rel65⟩ := p0.at (ix_nat hx23)
   obtain rfl := eI_open rel65
   refine FD.val rfl rfl rfl (fun w' hw' => (E.indexAddr te34 rfl rfl pt62)) ?_
   refine FD.val rfl rfl rfl (fun w' hw' => (E.load rfl (run_load0 Tryz.isAgg3 ((at64.mono i53).now (S52.call hw').sl) rfl))) ?_
   refine FD.val rfl rfl rfl (fun w' hw' => (E.move k58)) ?_
   refine FD.val rfl rfl rfl (fun w' hw' => (E.move k56)) ?_
   obtain ⟨x72, hx73, hp⟩ := bnd hp
   obtain ⟨p66, cs67, pt68, l69, at70, rel71⟩ := p1.at hx73
   obtain rfl := eI_open rel71
   refine FD.val rfl rfl rfl (fun w' hw' => (E.indexAddr te34 rfl rfl pt68)) ?_
   refine FD.val rfl rfl rfl (fun w' hw' => (E.load rfl (run_load0 Tryz.isAgg3 ((at70.mono i53).now (S52.call hw').sl) rfl))) ?_
   refine FD.val rfl rfl rfl (fun w' hw' => (E.neq rfl rfl)) ?_
   refine FD.nil ?_
   intro w74 r76
   have S75 := S52.call r76
   rcases ifB hp with ⟨c77, hp⟩ | ⟨c77, hp⟩
   ·
    refine FW.condT rfl c77 ?_
    refine FW.seq (FW.region ?_)
    refine FL.v (E.assign (v := Value.bool false) rfl) ?_
    refine FL.nil ?_
    refine FW.ret ?_
    obtain rfl := Option.some.inj hp
    exact ⟨nofun, rfl, ⟨.inr rfl, res1 rfl rfl ⟨rfl, S75.back⟩⟩⟩
   ·
    refine FW.condF rfl c77 ?_
    refine FW.skip (FW.region ?_)
    refine FL.v (E.move k56) ?_
    refine FL.v (E.add rfl rfl) ?_
    refine FL.v (E.assign (v := Value.int .i64 (wr (((i23 : Nat) : Int) + 1))) rfl) ?_
    refine FL.nil ?_
    obtain rfl := Option.some.inj hp
    exact ⟨rfl, ⟨_, S75, i53, (nat_succ rfl (lt_of_get hx23) (p0.mono i53).le), k57, k58⟩⟩
  ·
   clear hp hq
   rintro s23 f88 w87 ⟨H84, S85, i86, k89, k90, k91⟩
   refine FW.seq (FW.seq (FW.region ?_))
   refine FL.v (E.move k89) ?_
   refine FL.v (E.move k90) ?_
   refine FL.v (E.lenP te34 rfl p0) ?_
   refine FL.v (E.lss rfl rfl) ?_
   refine FL.nil ?_
   refine FW.condF rfl dlt_len ?_
   refine FW.exit ?_
   exact ⟨nofun, rfl, ⟨_, S85, i86⟩⟩
  ·
   clear hq
   intro e f83 w82 hD
   rcases q23 with s23 | x23
   ·
    obtain ⟨rfl, hD⟩ := hD
    obtain ⟨H79, S80, i81⟩ := hD
    replace hp := el_go hp
    refine FW.seq (FW.region ?_)
    refine FL.v (E.assign (v := Value.bool true) rfl) ?_
    refine FL.nil ?_
    refine FW.ret ?_
    obtain rfl := Option.some.inj hp
    exact ⟨.inr rfl, res1 rfl rfl ⟨rfl, S80.back⟩⟩
   ·
    obtain ⟨he, hL⟩ := hD
    replace hp := el_rt hp
    obtain rfl := Option.some.inj hp
    subst he
    exact hL

theorem w_laws_rTable {Ha : GH} {wa : World} (hs : Sl Ha wa) (v0 : Value) (a0 : List (List Int)) (p0 : RSl Ha (eL eI 1) 1 v0 a0) (v1 : Value) (a1 : List (List Int)) (p1 : RSl Ha (eL eI 1) 1 v1 a1) {r : Bool} (hp : (PF.laws_rTable a0 a1) = some r) :
  Calls Tryz.prog 86 #[v0, v1] wa (Sc Ha wa (Value.bool r)) := by
 unfold PF.laws_rTable at hp
 have S0 := St.init hs
 refine calls_go (N := 27) (args := [v0, v1]) Tryz.func86 rfl rfl rfl ?_
 refine FW.seq (FW.region ?_)
 refine FL.v (E.assign (v := Value.bool false) rfl) ?_
 refine FL.nil (FW.seq (FW.seq (FW.region ?_)))
 refine FL.v (E.move (v := v0) rfl) ?_
 refine FL.v (E.lenP te24 rfl p0) ?_
 refine FL.v (E.move (v := v1) rfl) ?_
 refine FL.v (E.lenP te24 rfl p1) ?_
 refine FL.v (E.neq rfl rfl) ?_
 refine FL.nil ?_
 rcases ifB hp with ⟨c21, hp⟩ | ⟨c21, hp⟩
 ·
  refine FW.condT rfl c21 ?_
  refine FW.seq (FW.region ?_)
  refine FL.v (E.assign (v := Value.bool false) rfl) ?_
  refine FL.nil ?_
  refine FW.ret ?_
  obtain rfl := Option.some.inj hp
  exact ⟨.inr rfl, res1 rfl rfl ⟨rfl, S0.back⟩⟩
 ·
  refine FW.condF rfl c21 ?_
  refine FW.skip (FW.seq (FW.seq (FW.region ?_)))
  refine FL.v (E.assign (v := Value.int .i64 0) rfl) ?_
  refine FL.nil ?_
  obtain ⟨q23, hq, hp⟩ := bndR hp
  refine FW.block ?_
  refine FW.mono (FW.forL (S := Unit) (X := Bool) (fun (i23 : Nat) (s23 : Unit) f w => ∃ H : GH, St Ha wa H w [] ∧ Inc Ha H ∧ f 5 = Value.int .i64 ((i23 : Nat) : Int) ∧ f 0 = v0 ∧ f 1 = v1) (fun q e f w => match q with | .go s23 => e = Exit.exit 0 ∧ (∃ H : GH, St Ha wa H w [] ∧ Inc Ha H) | .rt x => ((e = Exit.ret) ∧ (fun e f w => (e = Exit.normal ∨ e = Exit.ret) ∧ ∀ a, Fr (δ := []) 27 a f → ∃ v, (results Tryz.f86 a.tmps).run Tryz.prog w = .ok v w ∧ (Sc Ha wa (Value.bool x)) (.returned v) w) e f w)) hq ⟨_, S0, (Inc.rfl _), rfl, rfl, rfl⟩ ?_ ?_) ?_
  ·
   clear hp hq
   rintro i23 y22 s23 f61 w60 ⟨H57, S58, i59, k62, k63, k64⟩ hx23 o90 hp
   refine FW.seq (FW.seq (FW.region ?_))
   refine FL.v (E.move k62) ?_
   refine FL.v (E.move k63) ?_
   refine FL.v (E.lenP te24 rfl p0) ?_
   refine FL.v (E.lssT rfl rfl (lss_len hx23)) ?_
   refine FL.nil ?_
   refine FW.condT rfl rfl ?_
   refine FW.skip (FW.seq (FW.block (FW.seq ?_)))
   refine FW.draw (fun w' => Run w60.heap.size H57 w60 H57 w') (by kernel_rfl) (by kernel_rfl) (run_drew S58.sl) ?_
   refine FD.val rfl rfl rfl (fun w' hw' => (E.move k63)) ?_
   refine FD.val rfl rfl rfl (fun w' hw' => (E.move k62)) ?_
   obtain ⟨p66, cs67, pt68, l69, at70, rel71⟩ := p0.at (ix_nat hx23)
   obtain ⟨v72, rfl, h73⟩ := eL_open rel71
   refine FD.val rfl rfl rfl (fun w' hw' => (E.indexAddr te24 rfl rfl pt68)) ?_
   refine FD.val rfl rfl rfl (fun w' hw' => (E.load rfl (run_load0 Tryz.isAgg34 ((at70.mono i59).now (S58.call hw').sl) rfl))) ?_
   refine FD.val rfl rfl rfl (fun w' hw' => (E.move k64)) ?_
   refine FD.val rfl rfl rfl (fun w' hw' => (E.move k62)) ?_
   obtain ⟨x80, hx81, hp⟩ := bnd hp
   obtain ⟨p74, cs75, pt76, l77, at78, rel79⟩ := p1.at hx81
   obtain ⟨v82, rfl, h83⟩ := eL_open rel79
   refine FD.val rfl rfl rfl (fun w' hw' => (E.indexAddr te24 rfl rfl pt76)) ?_
   refine FD.val rfl rfl rfl (fun w' hw' => (E.load rfl (run_load0 Tryz.isAgg34 ((at78.mono i59).now (S58.call hw').sl) rfl))) ?_
   obtain ⟨r84, hr85, hp⟩ := bnd hp
   refine FD.call rfl rfl rfl (fun w' hw' => (E.call Tryz.call45 (A2 rfl rfl))) (fun w' hw' => Calls.cls hw' (w_laws_rInts (S58.call hw').sl v72 y22 (h73.mono i59) v82 x80 (h83.mono i59) hr85)) ?_
   refine FD.val rfl rfl rfl (fun w' hw' => (E.not rfl)) ?_
   refine FD.nil ?_
   intro w86 r88
   have S87 := S58.call r88
   rcases ifB hp with ⟨c89, hp⟩ | ⟨c89, hp⟩
   ·
    refine FW.condT rfl c89 ?_
    refine FW.seq (FW.region ?_)
    refine FL.v (E.assign (v := Value.bool false) rfl) ?_
    refine FL.nil ?_
    refine FW.ret ?_
    obtain rfl := Option.some.inj hp
    exact ⟨nofun, rfl, ⟨.inr rfl, res1 rfl rfl ⟨rfl, S87.back⟩⟩⟩
   ·
    refine FW.condF rfl c89 ?_
    refine FW.skip (FW.region ?_)
    refine FL.v (E.move k62) ?_
    refine FL.v (E.add rfl rfl) ?_
    refine FL.v (E.assign (v := Value.int .i64 (wr (((i23 : Nat) : Int) + 1))) rfl) ?_
    refine FL.nil ?_
    obtain rfl := Option.some.inj hp
    exact ⟨rfl, ⟨_, S87, i59, (nat_succ rfl (lt_of_get hx23) (p0.mono i59).le), k63, k64⟩⟩
  ·
   clear hp hq
   rintro s23 f100 w99 ⟨H96, S97, i98, k101, k102, k103⟩
   refine FW.seq (FW.seq (FW.region ?_))
   refine FL.v (E.move k101) ?_
   refine FL.v (E.move k102) ?_
   refine FL.v (E.lenP te24 rfl p0) ?_
   refine FL.v (E.lss rfl rfl) ?_
   refine FL.nil ?_
   refine FW.condF rfl dlt_len ?_
   refine FW.exit ?_
   exact ⟨nofun, rfl, ⟨_, S97, i98⟩⟩
  ·
   clear hq
   intro e f95 w94 hD
   rcases q23 with s23 | x23
   ·
    obtain ⟨rfl, hD⟩ := hD
    obtain ⟨H91, S92, i93⟩ := hD
    replace hp := el_go hp
    refine FW.seq (FW.region ?_)
    refine FL.v (E.assign (v := Value.bool true) rfl) ?_
    refine FL.nil ?_
    refine FW.ret ?_
    obtain rfl := Option.some.inj hp
    exact ⟨.inr rfl, res1 rfl rfl ⟨rfl, S92.back⟩⟩
   ·
    obtain ⟨he, hL⟩ := hD
    replace hp := el_rt hp
    obtain rfl := Option.some.inj hp
    subst he
    exact hL

theorem w_laws_rCnf {Ha : GH} {wa : World} (hs : Sl Ha wa) (a0 : Cnf) (v0_1 : Value) (p0_1 : RSl Ha (eL eI 1) 1 v0_1 a0.clauses) (a1 : Cnf) (v1_1 : Value) (p1_1 : RSl Ha (eL eI 1) 1 v1_1 a1.clauses) {r : Bool} (hp : (PF.laws_rCnf a0 a1) = some r) :
  Calls Tryz.prog 12 #[Value.agg #[Value.int .i64 a0.vars, v0_1], Value.agg #[Value.int .i64 a1.vars, v1_1]] wa (Sc Ha wa (Value.bool r)) := by
 unfold PF.laws_rCnf at hp
 have S0 := St.init hs
 refine calls_go (N := 17) (args := [Value.agg #[Value.int .i64 a0.vars, v0_1], Value.agg #[Value.int .i64 a1.vars, v1_1]]) Tryz.func12 rfl rfl rfl ?_
 refine FW.seq (FW.region ?_)
 obtain ⟨b21, w22, run23, S24⟩ := S0.box (P := Tryz.prog) 26 [Value.int .i64 a0.vars, v0_1] (v := Value.agg #[Value.int .i64 a0.vars, v0_1]) rfl (ones_cons rfl (ones_cons p0_1.one ones_nil))
 refine FL.v (E.box rfl run23) ?_
 obtain ⟨H25, S26, i27, at28⟩ := S24.sealBox (i := 0) (l' := []) rfl rfl
 obtain ⟨b29, w30, run31, S32⟩ := S26.box (P := Tryz.prog) 26 [Value.int .i64 a1.vars, v1_1] (v := Value.agg #[Value.int .i64 a1.vars, v1_1]) rfl (ones_cons rfl (ones_cons p1_1.one ones_nil))
 refine FL.v (E.box rfl run31) ?_
 obtain ⟨H33, S34, i35, at36⟩ := S32.sealBox (i := 0) (l' := []) rfl rfl
 refine FL.v (E.assign (v := Value.bool false) rfl) ?_
 refine FL.nil (FW.seq (FW.region ?_))
 refine FL.v (E.fieldAddr tf26_0 rfl) ?_
 refine FL.v (E.load rfl (run_load1 Tryz.isAgg3 ((at28.mono i35).now S34.sl) rfl)) ?_
 refine FL.v (E.fieldAddr tf26_0 rfl) ?_
 refine FL.v (E.load rfl (run_load1 Tryz.isAgg3 (at36.now S34.sl) rfl)) ?_
 refine FL.v (E.eql rfl rfl) ?_
 refine FL.v (E.move (v := Value.bool (a0.vars == a1.vars)) rfl) ?_
 obtain ⟨t42, hqt42, hp⟩ := bnd hp
 refine FL.cut 6 (fun f w => ∃ H : GH, St Ha wa H w [] ∧ Inc H33 H ∧ f 16 = Value.bool t42) ?_ ?_
 ·
  clear hp; have hp := hqt42; clear hqt42
  rcases ifB hp with ⟨c48, hp⟩ | ⟨c48, hp⟩
  ·
   refine FL.val (wF_yes rfl rfl rfl c48) rfl rfl (E.fieldAddr tf26_1 rfl) ?_
   refine FL.val (wF_yes rfl rfl rfl c48) rfl rfl (E.load rfl (run_load1 Tryz.isAgg24 ((at28.mono i35).now S34.sl) rfl)) ?_
   refine FL.val (wF_yes rfl rfl rfl c48) rfl rfl (E.fieldAddr tf26_1 rfl) ?_
   refine FL.val (wF_yes rfl rfl rfl c48) rfl rfl (E.load rfl (run_load1 Tryz.isAgg24 (at36.now S34.sl) rfl)) ?_
   obtain ⟨r49, hr50, hp⟩ := bnd hp
   refine FL.call (wF_yes rfl rfl rfl c48) rfl rfl (E.call Tryz.call86 (A2 rfl rfl)) (w_laws_rTable S34.sl v0_1 a0.clauses (p0_1.mono (i27.tr i35)) v1_1 a1.clauses (p1_1.mono (i27.tr i35)) hr50) ?_
   rintro e w51 ⟨rfl, r52⟩
   refine ⟨_, rfl, ?_⟩
   have S53 := S34.call r52
   obtain rfl := Option.some.inj hp
   refine FL.v (E.pickT rfl c48 rfl) ?_
   exact FL.nil ⟨rfl, _, S53, (Inc.rfl _), rfl⟩
  ·
   refine FL.skip (wF_no rfl rfl rfl c48) rfl ?_
   refine FL.skip (wF_no rfl rfl rfl c48) rfl ?_
   refine FL.skip (wF_no rfl rfl rfl c48) rfl ?_
   refine FL.skip (wF_no rfl rfl rfl c48) rfl ?_
   refine FL.skip (wF_no rfl rfl rfl c48) rfl ?_
   obtain rfl := Option.some.inj hp
   refine FL.v (E.pickF rfl c48 rfl) ?_
   exact FL.nil ⟨rfl, _, S34, (Inc.rfl _), rfl⟩
 rintro f47 w46 ⟨H43, S44, i45, k54⟩
 refine FL.v (E.assign k54) ?_
 refine FL.nil ?_
 refine FW.ret ?_
 obtain rfl := Option.some.inj hp
 exact ⟨.inr rfl, res1 rfl rfl ⟨rfl, S44.back⟩⟩

theorem w_slices_IndexFunc_LLint_Lint {Ha : GH} {wa : World} (hs : Sl Ha wa) (v0 : Value) (a0 : List (List Int)) (p0 : RSl Ha (eL eI 1) 1 v0 a0) (v1 : Value) (a1 : (List Int) → Option Bool) (p1 : Fn_List_Int_to_B Tryz.prog Ha v1 a1) {r : Int} (hp : (PF.slices_IndexFunc_LLint_Lint a0 a1) = some r) :
  Calls Tryz.prog 191 #[v0, v1] wa (Sc Ha wa (Value.int .i64 r)) := by
 unfold PF.slices_IndexFunc_LLint_Lint at hp
 have S0 := St.init hs
 refine calls_go (N := 19) (args := [v0, v1]) Tryz.func191 rfl rfl rfl ?_
 refine FW.seq (FW.region ?_)
 refine FL.v (E.assign (v := Value.int .i64 0) rfl) ?_
 refine FL.nil (FW.seq (FW.seq (FW.region ?_)))
 refine FL.v (E.move (v := v0) rfl) ?_
 refine FL.v (E.lenP te24 rfl p0) ?_
 refine FL.v (E.move (v := Value.int .i64 0) rfl) ?_
 refine FL.nil ?_
 obtain ⟨q22, hq, hp⟩ := bndR hp
 refine FW.block ?_
 refine FW.mono (FW.forL (S := Unit) (X := Int) (fun (i22 : Nat) (s22 : Unit) f w => ∃ H : GH, St Ha wa H w [] ∧ Inc Ha H ∧ f 8 = Value.int .i64 ((i22 : Nat) : Int) ∧ f 0 = v0 ∧ f 1 = v1 ∧ f 7 = Value.int .i64 (len a0)) (fun q e f w => match q with | .go s22 => e = Exit.exit 0 ∧ (∃ H : GH, St Ha wa H w [] ∧ Inc Ha H) | .rt x => ((e = Exit.ret) ∧ (fun e f w => (e = Exit.normal ∨ e = Exit.ret) ∧ ∀ a, Fr (δ := []) 19 a f → ∃ v, (results Tryz.f191 a.tmps).run Tryz.prog w = .ok v w ∧ (Sc Ha wa (Value.int .i64 x)) (.returned v) w) e f w)) hq ⟨_, S0, (Inc.rfl _), rfl, rfl, rfl, rfl⟩ ?_ ?_) ?_
 ·
  clear hp hq
  rintro i22 y21 s22 f55 w54 ⟨H51, S52, i53, k56, k57, k58, k59⟩ hx22 o79 hp
  refine FW.seq (FW.region ?_)
  refine FL.v (E.lssT k56 k59 (lss_len hx22)) ?_
  refine FL.nil (FW.seq ?_)
  refine FW.condT rfl rfl ?_
  refine FW.skip (FW.seq (FW.block (FW.seq (FW.region ?_))))
  refine FL.v (E.move k56) ?_
  refine FL.v (E.assign (v := Value.int .i64 ((i22 : Nat) : Int)) rfl) ?_
  refine FL.nil (FW.seq (FW.region ?_))
  refine FL.v (E.move k58) ?_
  refine FL.v (E.move k57) ?_
  refine FL.v (E.move (v := Value.int .i64 ((i22 : Nat) : Int)) rfl) ?_
  obtain ⟨p60, cs61, pt62, l63, at64, rel65⟩ := p0.at (ix_nat hx22)
  obtain ⟨v66, rfl, h67⟩ := eL_open rel65
  refine FL.v (E.indexAddr te24 rfl rfl pt62) ?_
  refine FL.v (E.load rfl (run_load0 Tryz.isAgg34 ((at64.mono i53).now S52.sl) rfl)) ?_
  obtain ⟨r68, hr69, hp⟩ := bnd hp
  obtain ⟨fi73, cs74, hv75, he76, hc77⟩ := (p1.mono i53) H51 w54 (Inc.rfl _) S52.sl y21 v66 (h67.mono i53) r68 hr69
  refine FL.call rfl rfl rfl (E.callV he76 (Eq.trans rfl hv75) (appA (A1 rfl) cs74)) hc77 ?_
  rintro e w70 ⟨rfl, r71⟩
  refine ⟨_, rfl, ?_⟩
  have S72 := S52.call r71
  refine FL.nil ?_
  rcases ifB hp with ⟨c78, hp⟩ | ⟨c78, hp⟩
  ·
   refine FW.condT rfl c78 ?_
   refine FW.seq (FW.region ?_)
   refine FL.v (E.move (v := Value.int .i64 ((i22 : Nat) : Int)) rfl) ?_
   refine FL.v (E.assign (v := Value.int .i64 ((i22 : Nat) : Int)) rfl) ?_
   refine FL.nil ?_
   refine FW.ret ?_
   obtain rfl := Option.some.inj hp
   exact ⟨nofun, rfl, ⟨.inr rfl, res1 rfl rfl ⟨rfl, S72.back⟩⟩⟩
  ·
   refine FW.condF rfl c78 ?_
   refine FW.skip (FW.region ?_)
   refine FL.v (E.add k56 rfl) ?_
   refine FL.v (E.move (v := Value.int .i64 (wr (((i22 : Nat) : Int) + 1))) rfl) ?_
   refine FL.nil ?_
   obtain rfl := Option.some.inj hp
   exact ⟨rfl, ⟨_, S72, i53, (nat_succ rfl (lt_of_get hx22) (p0.mono i53).le), k57, k58, k59⟩⟩
 ·
  clear hp hq
  rintro s22 f89 w88 ⟨H85, S86, i87, k90, k91, k92, k93⟩
  refine FW.seq (FW.region ?_)
  refine FL.v (E.lss k90 k93) ?_
  refine FL.nil (FW.seq ?_)
  refine FW.condF rfl dlt_len ?_
  refine FW.exit ?_
  exact ⟨nofun, rfl, ⟨_, S86, i87⟩⟩
 ·
  clear hq
  intro e f84 w83 hD
  rcases q22 with s22 | x22
  ·
   obtain ⟨rfl, hD⟩ := hD
   obtain ⟨H80, S81, i82⟩ := hD
   replace hp := el_go hp
   refine FW.seq (FW.region ?_)
   refine FL.v (E.assign (v := Value.int .i64 (-1)) rfl) ?_
   refine FL.nil ?_
   refine FW.ret ?_
   obtain rfl := Option.some.inj hp
   exact ⟨.inr rfl, res1 rfl rfl ⟨rfl, S81.back⟩⟩
  ·
   obtain ⟨he, hL⟩ := hD
   replace hp := el_rt hp
   obtain rfl := Option.some.inj hp
   subst he
   exact hL

theorem w_slices_ContainsFunc_LLint_Lint {Ha : GH} {wa : World} (hs : Sl Ha wa) (v0 : Value) (a0 : List (List Int)) (p0 : RSl Ha (eL eI 1) 1 v0 a0) (v1 : Value) (a1 : (List Int) → Option Bool) (p1 : Fn_List_Int_to_B Tryz.prog Ha v1 a1) {r : Bool} (hp : (PF.slices_ContainsFunc_LLint_Lint a0 a1) = some r) :
  Calls Tryz.prog 100 #[v0, v1] wa (Sc Ha wa (Value.bool r)) := by
 unfold PF.slices_ContainsFunc_LLint_Lint at hp
 have S0 := St.init hs
 refine calls_go (N := 9) (args := [v0, v1]) Tryz.func100 rfl rfl rfl ?_
 refine FW.seq (FW.region ?_)
 refine FL.v (E.assign (v := Value.bool false) rfl) ?_
 refine FL.nil (FW.seq (FW.region ?_))
 refine FL.v (E.move (v := v0) rfl) ?_
 refine FL.v (E.move (v := v1) rfl) ?_
 obtain ⟨r21, hr22, hp⟩ := bnd hp
 refine FL.call rfl rfl rfl (E.call Tryz.call191 (A2 rfl rfl)) (w_slices_IndexFunc_LLint_Lint S0.sl v0 a0 p0 v1 a1 p1 hr22) ?_
 rintro e w23 ⟨rfl, r24⟩
 refine ⟨_, rfl, ?_⟩
 have S25 := S0.call r24
 refine FL.v (E.geq rfl rfl) ?_
 refine FL.v (E.assign (v := Value.bool (decide (0 ≤ r21))) rfl) ?_
 refine FL.nil ?_
 refine FW.ret ?_
 obtain rfl := Option.some.inj hp
 exact ⟨.inr rfl, res1 rfl rfl ⟨rfl, S25.back⟩⟩

theorem w_slices_ContainsFunc_int_int {Ha : GH} {wa : World} (hs : Sl Ha wa) (v0 : Value) (a0 : List Int) (p0 : RSl Ha eI 1 v0 a0) (v1 : Value) (a1 : Int → Option Bool) (p1 : Fn_I_to_B Tryz.prog Ha v1 a1) {r : Bool} (hp : (PF.slices_ContainsFunc_int_int a0 a1) = some r) :
  Calls Tryz.prog 200 #[v0, v1] wa (Sc Ha wa (Value.bool r)) := by
 unfold PF.slices_ContainsFunc_int_int at hp
 have S0 := St.init hs
 refine calls_go (N := 9) (args := [v0, v1]) Tryz.func200 rfl rfl rfl ?_
 refine FW.seq (FW.region ?_)
 refine FL.v (E.assign (v := Value.bool false) rfl) ?_
 refine FL.nil (FW.seq (FW.region ?_))
 refine FL.v (E.move (v := v0) rfl) ?_
 refine FL.v (E.move (v := v1) rfl) ?_
 obtain ⟨r21, hr22, hp⟩ := bnd hp
 refine FL.call rfl rfl rfl (E.call Tryz.call277 (A2 rfl rfl)) (w_slices_IndexFunc_int_int S0.sl v0 a0 p0 v1 a1 p1 hr22) ?_
 rintro e w23 ⟨rfl, r24⟩
 refine ⟨_, rfl, ?_⟩
 have S25 := S0.call r24
 refine FL.v (E.geq rfl rfl) ?_
 refine FL.v (E.assign (v := Value.bool (decide (0 ≤ r21))) rfl) ?_
 refine FL.nil ?_
 refine FW.ret ?_
 obtain rfl := Option.some.inj hp
 exact ⟨.inr rfl, res1 rfl rfl ⟨rfl, S25.back⟩⟩

theorem w_impl_holds_1 {Ha : GH} {wa : World} (hs : Sl Ha wa) (a0 : Int) (q0 : Addr) (b0 : Int) (c0 : CAt Ha q0 [Value.int .i64 b0]) {r : Bool} (hp : (PF.impl_holds_1 a0 b0) = some r) :
  Calls Tryz.prog 274 #[Value.int .i64 a0, Value.pointer (some q0)] wa (Sc Ha wa (Value.bool r)) := by
 unfold PF.impl_holds_1 at hp
 have S0 := St.init hs
 refine calls_go (N := 14) (args := [Value.int .i64 a0, Value.pointer (some q0)]) Tryz.func274 rfl rfl rfl ?_
 refine FW.seq (FW.region ?_)
 refine FL.v (E.assign (v := Value.bool false) rfl) ?_
 refine FL.nil (FW.seq ?_)
 refine FW.draw (fun w' => Run wa.heap.size Ha wa Ha w') (by kernel_rfl) (by kernel_rfl) (run_drew S0.sl) ?_
 refine FD.val rfl rfl rfl (fun w' hw' => (E.load rfl (run_load0 Tryz.isAgg3 (c0.now (S0.call hw').sl) rfl))) ?_
 refine FD.val rfl rfl rfl (fun w' hw' => (E.move (v := Value.int .i64 a0) rfl)) ?_
 refine FD.call rfl rfl rfl (fun w' hw' => (E.call Tryz.call214 (A1 rfl))) (fun w' hw' => Calls.cls hw' (w_impl_abs (S0.call hw').sl a0)) ?_
 refine FD.val rfl rfl rfl (fun w' hw' => (E.sub rfl rfl)) ?_
 obtain ⟨u23, z22, hp⟩ := bnd hp
 refine FD.val rfl rfl rfl (fun w' hw' => (E.shr rfl rfl (nn_ge z22))) ?_
 refine FD.val rfl rfl rfl (fun w' hw' => (E.and rfl rfl)) ?_
 refine FD.val rfl rfl rfl (fun w' hw' => (E.eql rfl rfl)) ?_
 refine FD.val rfl rfl rfl (fun w' hw' => (E.move (v := Value.int .i64 a0) rfl)) ?_
 refine FD.val rfl rfl rfl (fun w' hw' => (E.gtr rfl rfl)) ?_
 refine FD.val rfl rfl rfl (fun w' hw' => (E.eqlB Tryz.runUnderlying4 rfl rfl)) ?_
 refine FD.val rfl rfl rfl (fun w' hw' => (E.assign (v := Value.bool (((andK true 64 (shrK 64 b0 (wr ((PF.impl_abs a0) - 1))) 1) == 1) == (decide (0 < a0)))) rfl)) ?_
 refine FD.nil ?_
 intro w24 r26
 have S25 := S0.call r26
 refine FW.ret ?_
 obtain rfl := Option.some.inj hp
 exact ⟨.inr rfl, res1 rfl rfl ⟨rfl, S25.back⟩⟩

theorem w_impl_holds {Ha : GH} {wa : World} (hs : Sl Ha wa) (v0 : Value) (a0 : List Int) (p0 : RSl Ha eI 1 v0 a0) (a1 : Int) {r : Bool} (hp : (PF.impl_holds a0 a1) = some r) :
  Calls Tryz.prog 187 #[v0, Value.int .i64 a1] wa (Sc Ha wa (Value.bool r)) := by
 unfold PF.impl_holds at hp
 have S0 := St.init hs
 refine calls_go (N := 8) (args := [v0, Value.int .i64 a1]) Tryz.func187 rfl rfl rfl ?_
 refine FW.seq (FW.region ?_)
 obtain ⟨b21, w22, run23, S24⟩ := S0.box (P := Tryz.prog) 3 [Value.int .i64 a1] (v := Value.int .i64 a1) rfl (ones_cons rfl ones_nil)
 refine FL.v (E.box rfl run23) ?_
 obtain ⟨H25, S26, i27, at28⟩ := S24.sealBox (i := 0) (l' := []) rfl rfl
 refine FL.v (E.assign (v := Value.bool false) rfl) ?_
 refine FL.nil (FW.seq (FW.region ?_))
 refine FL.v (E.move (v := v0) rfl) ?_
 refine FL.v (E.makeFunc A0 (A1 rfl)) ?_
 obtain ⟨r29, hr30, hp⟩ := bnd hp
 refine FL.call rfl rfl rfl (E.call Tryz.call200 (A2 rfl rfl)) (w_slices_ContainsFunc_int_int S26.sl v0 a0 (p0.mono i27) (Value.func (.func 274) #[] #[Value.pointer (some ⟨b21, 0, none⟩)]) (fun x0 => PF.impl_holds_1 x0 a1) (fun H2 w2 hi2 hs2 x0 r hr => ⟨274, #[Value.pointer (some ⟨b21, 0, none⟩)], rfl, Tryz.call274, w_impl_holds_1 hs2 x0 ⟨b21, 0, none⟩ a1 (at28.mono hi2) hr⟩) hr30) ?_
 rintro e w31 ⟨rfl, r32⟩
 refine ⟨_, rfl, ?_⟩
 have S33 := S26.call r32
 refine FL.v (E.assign (v := Value.bool r29) rfl) ?_
 refine FL.nil ?_
 refine FW.ret ?_
 obtain rfl := Option.some.inj hp
 exact ⟨.inr rfl, res1 rfl rfl ⟨rfl, S33.back⟩⟩

theorem w_impl_isModel_1 {Ha : GH} {wa : World} (hs : Sl Ha wa) (v0 : Value) (a0 : List Int) (p0 : RSl Ha eI 1 v0 a0) (q0 : Addr) (b0 : Int) (c0 : CAt Ha q0 [Value.int .i64 b0]) {r : Bool} (hp : (PF.impl_isModel_1 a0 b0) = some r) :
  Calls Tryz.prog 186 #[v0, Value.pointer (some q0)] wa (Sc Ha wa (Value.bool r)) := by
 unfold PF.impl_isModel_1 at hp
 have S0 := St.init hs
 refine calls_go (N := 8) (args := [v0, Value.pointer (some q0)]) Tryz.func186 rfl rfl rfl ?_
 refine FW.seq (FW.region ?_)
 refine FL.v (E.assign (v := Value.bool false) rfl) ?_
 refine FL.nil (FW.seq (FW.region ?_))
 refine FL.v (E.move (v := v0) rfl) ?_
 refine FL.v (E.load rfl (run_load0 Tryz.isAgg3 (c0.now S0.sl) rfl)) ?_
 obtain ⟨r21, hr22, hp⟩ := bnd hp
 refine FL.call rfl rfl rfl (E.call Tryz.call187 (A2 rfl rfl)) (w_impl_holds S0.sl v0 a0 p0 b0 hr22) ?_
 rintro e w23 ⟨rfl, r24⟩
 refine ⟨_, rfl, ?_⟩
 have S25 := S0.call r24
 refine FL.v (E.not rfl) ?_
 refine FL.v (E.assign (v := Value.bool (!r21)) rfl) ?_
 refine FL.nil ?_
 refine FW.ret ?_
 obtain rfl := Option.some.inj hp
 exact ⟨.inr rfl, res1 rfl rfl ⟨rfl, S25.back⟩⟩

theorem w_impl_isModel {Ha : GH} {wa : World} (hs : Sl Ha wa) (v0 : Value) (a0 : List (List Int)) (p0 : RSl Ha (eL eI 1) 1 v0 a0) (a1 : Int) {r : Bool} (hp : (PF.impl_isModel a0 a1) = some r) :
  Calls Tryz.prog 88 #[v0, Value.int .i64 a1] wa (Sc Ha wa (Value.bool r)) := by
 unfold PF.impl_isModel at hp
 have S0 := St.init hs
 refine calls_go (N := 9) (args := [v0, Value.int .i64 a1]) Tryz.func88 rfl rfl rfl ?_
 refine FW.seq (FW.region ?_)
 obtain ⟨b21, w22, run23, S24⟩ := S0.box (P := Tryz.prog) 3 [Value.int .i64 a1] (v := Value.int .i64 a1) rfl (ones_cons rfl ones_nil)
 refine FL.v (E.box rfl run23) ?_
 obtain ⟨H25, S26, i27, at28⟩ := S24.sealBox (i := 0) (l' := []) rfl rfl
 refine FL.v (E.assign (v := Value.bool false) rfl) ?_
 refine FL.nil (FW.seq (FW.region ?_))
 refine FL.v (E.move (v := v0) rfl) ?_
 refine FL.v (E.makeFunc A0 (A1 rfl)) ?_
 obtain ⟨r29, hr30, hp⟩ := bnd hp
 refine FL.call rfl rfl rfl (E.call Tryz.call100 (A2 rfl rfl)) (w_slices_ContainsFunc_LLint_Lint S26.sl v0 a0 (p0.mono i27) (Value.func (.func 186) #[] #[Value.pointer (some ⟨b21, 0, none⟩)]) (fun x0 => PF.impl_isModel_1 x0 a1) (fun H2 w2 hi2 hs2 x0 y0 z0 r hr => ⟨186, #[Value.pointer (some ⟨b21, 0, none⟩)], rfl, Tryz.call186, w_impl_isModel_1 hs2 y0 x0 z0 ⟨b21, 0, none⟩ a1 (at28.mono hi2) hr⟩) hr30) ?_
 rintro e w31 ⟨rfl, r32⟩
 refine ⟨_, rfl, ?_⟩
 have S33 := S26.call r32
 refine FL.v (E.not rfl) ?_
 refine FL.v (E.assign (v := Value.bool (!r29)) rfl) ?_
 refine FL.nil ?_
 refine FW.ret ?_
 obtain rfl := Option.some.inj hp
 exact ⟨.inr rfl, res1 rfl rfl ⟨rfl, S33.back⟩⟩

theorem w_impl_IsModel {Ha : GH} {wa : World} (hs : Sl Ha wa) (a0 : Cnf) (v0_1 : Value) (p0_1 : RSl Ha (eL eI 1) 1 v0_1 a0.clauses) (a1 : Int) {r : (Bool × Bool)} (hp : (PF.impl_IsModel a0 a1) = some r) :
  Calls Tryz.prog 13 #[Value.agg #[Value.int .i64 a0.vars, v0_1], Value.int .i64 a1] wa (Sc Ha wa (Value.tuple #[Value.bool r.1, Value.bool r.2])) := by
 unfold PF.impl_IsModel at hp
 have S0 := St.init hs
 refine calls_go (N := 22) (args := [Value.agg #[Value.int .i64 a0.vars, v0_1], Value.int .i64 a1]) Tryz.func13 rfl rfl rfl ?_
 refine FW.seq (FW.region ?_)
 obtain ⟨b21, w22, run23, S24⟩ := S0.box (P := Tryz.prog) 26 [Value.int .i64 a0.vars, v0_1] (v := Value.agg #[Value.int .i64 a0.vars, v0_1]) rfl (ones_cons rfl (ones_cons p0_1.one ones_nil))
 refine FL.v (E.box rfl run23) ?_
 obtain ⟨H25, S26, i27, at28⟩ := S24.sealBox (i := 0) (l' := []) rfl rfl
 refine FL.v (E.assign (v := Value.bool false) rfl) ?_
 refine FL.v (E.assign (v := Value.bool false) rfl) ?_
 refine FL.nil (FW.seq (FW.seq (FW.region ?_)))
 refine FL.v (E.load rfl (run_loadA Tryz.isAgg26 Tryz.sizeOf26 (at28.now S26.sl) rfl)) ?_
 obtain ⟨r29, hr30, hp⟩ := bnd hp
 refine FL.call rfl rfl rfl (E.call Tryz.call72 (A1 rfl)) (w_impl_IsCnf S26.sl a0 v0_1 (p0_1.mono i27) hr30) ?_
 rintro e w31 ⟨rfl, r32⟩
 refine ⟨_, rfl, ?_⟩
 have S33 := S26.call r32
 refine FL.v (E.not rfl) ?_
 refine FL.v (E.move (v := Value.bool (!r29)) rfl) ?_
 obtain ⟨t39, hqt39, hp⟩ := bnd hp
 refine FL.cut 8 (fun f w => ∃ H : GH, St Ha wa H w [] ∧ Inc H25 H ∧ f 1 = Value.int .i64 a1 ∧ f 2 = Value.pointer (some ⟨b21, 0, none⟩) ∧ f 17 = Value.bool t39) ?_ ?_
 ·
  clear hp; have hp := hqt39; clear hqt39
  rcases ifB hp with ⟨c45, hp⟩ | ⟨c45, hp⟩
  ·
   refine FL.skip (wF_no rfl rfl rfl c45) rfl ?_
   refine FL.skip (wF_no rfl rfl rfl c45) rfl ?_
   refine FL.skip (wF_no rfl rfl rfl c45) rfl ?_
   refine FL.skip (wF_no rfl rfl rfl c45) rfl ?_
   refine FL.skip (wF_no rfl rfl rfl c45) rfl ?_
   refine FL.skip (wF_no rfl rfl rfl c45) rfl ?_
   refine FL.skip (wF_no rfl rfl rfl c45) rfl ?_
   obtain rfl := Option.some.inj hp
   refine FL.v (E.pickT rfl c45 rfl) ?_
   exact FL.nil ⟨rfl, _, S33, (Inc.rfl _), rfl, rfl, rfl⟩
  ·
   refine FL.val (wF_yes rfl rfl rfl c45) rfl rfl (E.move (v := Value.int .i64 a1) rfl) ?_
   refine FL.val (wF_yes rfl rfl rfl c45) rfl rfl (E.fieldAddr tf26_0 rfl) ?_
   refine FL.val (wF_yes rfl rfl rfl c45) rfl rfl (E.load rfl (run_load1 Tryz.isAgg3 (at28.now S33.sl) rfl)) ?_
   obtain ⟨u47, z46, hp⟩ := bnd hp
   refine FL.val (wF_yes rfl rfl rfl c45) rfl rfl (E.shl rfl rfl (nn_ge z46)) ?_
   refine FL.val (wF_yes rfl rfl rfl c45) rfl rfl (E.sub rfl rfl) ?_
   refine FL.call (wF_yes rfl rfl rfl c45) rfl rfl (E.call Tryz.call87 (A3 rfl rfl rfl)) (w_impl_within S33.sl a1 0 (wr ((shlK true 64 1 a0.vars) - 1))) ?_
   rintro e w48 ⟨rfl, r49⟩
   refine ⟨_, rfl, ?_⟩
   have S50 := S33.call r49
   refine FL.val (wF_yes rfl rfl rfl c45) rfl rfl (E.not rfl) ?_
   obtain rfl := Option.some.inj hp
   refine FL.v (E.pickF rfl c45 rfl) ?_
   exact FL.nil ⟨rfl, _, S50, (Inc.rfl _), rfl, rfl, rfl⟩
 rintro f44 w43 ⟨H40, S41, i42, k51, k52, k53⟩
 refine FL.nil ?_
 rcases ifB hp with ⟨c54, hp⟩ | ⟨c54, hp⟩
 ·
  refine FW.condT k53 c54 ?_
  refine FW.seq (FW.region ?_)
  refine FL.v (E.assign (v := Value.bool false) rfl) ?_
  refine FL.v (E.assign (v := Value.bool false) rfl) ?_
  refine FL.nil ?_
  refine FW.ret ?_
  obtain rfl := Option.some.inj hp
  exact ⟨.inr rfl, res2 rfl rfl rfl ⟨rfl, S41.back⟩⟩
 ·
  refine FW.condF k53 c54 ?_
  refine FW.skip (FW.seq (FW.region ?_))
  refine FL.v (E.fieldAddr tf26_1 k52) ?_
  refine FL.v (E.load rfl (run_load1 Tryz.isAgg24 ((at28.mono i42).now S41.sl) rfl)) ?_
  refine FL.v (E.move k51) ?_
  obtain ⟨r55, hr56, hp⟩ := bnd hp
  refine FL.call rfl rfl rfl (E.call Tryz.call88 (A2 rfl rfl)) (w_impl_isModel S41.sl v0_1 a0.clauses (p0_1.mono (i27.tr i42)) a1 hr56) ?_
  rintro e w57 ⟨rfl, r58⟩
  refine ⟨_, rfl, ?_⟩
  have S59 := S41.call r58
  refine FL.v (E.assign (v := Value.bool r55) rfl) ?_
  refine FL.v (E.assign (v := Value.bool true) rfl) ?_
  refine FL.nil ?_
  refine FW.ret ?_
  obtain rfl := Option.some.inj hp
  exact ⟨.inr rfl, res2 rfl rfl rfl ⟨rfl, S59.back⟩⟩

set_option maxHeartbeats 4000000 in
theorem w_laws_FnElimination {Ha : GH} {wa : World} (hs : Sl Ha wa) (v0 : Value) (a0 : List Int) (p0 : RSl Ha (eN .u8) 1 v0 a0) {r : Bool} (hp : (PF.laws_FnElimination a0) = some r) :
  Calls Tryz.prog 3 #[v0] wa (Sc Ha wa (Value.bool r)) := by
 unfold PF.laws_FnElimination at hp
 have S0 := St.init hs
 refine calls_go (N := 97) (args := [v0]) Tryz.func3 rfl rfl rfl ?_
 refine FW.seq (FW.region ?_)
 refine FL.v (E.assign (v := Value.bool false) rfl) ?_
 refine FL.nil (FW.seq (FW.seq (FW.region ?_)))
 refine FL.v (E.move (v := v0) rfl) ?_
 refine FL.call rfl rfl rfl (E.call Tryz.call8 (A1 rfl)) (w_laws_rBig S0.sl v0 a0 p0) ?_
 rintro e w21 ⟨rfl, r22⟩
 refine ⟨_, rfl, ?_⟩
 have S23 := S0.call r22
 refine FL.nil ?_
 rcases ifB hp with ⟨c24, hp⟩ | ⟨c24, hp⟩
 ·
  refine FW.condT rfl c24 ?_
  refine FW.seq (FW.region ?_)
  refine FL.v (E.assign (v := Value.bool true) rfl) ?_
  refine FL.nil ?_
  refine FW.ret ?_
  obtain rfl := Option.some.inj hp
  exact ⟨.inr rfl, res1 rfl rfl ⟨rfl, S23.back⟩⟩
 ·
  refine FW.condF rfl c24 ?_
  refine FW.skip (FW.seq (FW.region ?_))
  refine FL.v (E.move (v := v0) rfl) ?_
  obtain ⟨r25, hr26, hp⟩ := bnd hp
  refine FL.call rfl rfl rfl (E.call Tryz.call9 (A1 rfl)) (w_spec_DrawEliminateVar S23.sl v0 a0 p0 hr26) ?_
  rintro e w28 ⟨H27, v31, rfl, r30, h32⟩
  refine ⟨_, rfl, ?_⟩
  have nv33 : New Ha [v31] := New.of_up S23.sl h32.dom
  have h32 := h32.mono (up_le S23.size)
  have S29 := S23.call r30
  refine FL.v (E.move (v := Value.tuple #[Value.agg #[Value.int .i64 r25.1.vars, v31], Value.int .i64 r25.2]) rfl) ?_
  refine FL.v (E.extract (i := 0) rfl rfl) ?_
  refine FL.v (E.extract (i := 1) rfl rfl) ?_
  obtain ⟨b34, w35, run36, S37⟩ := S29.alloc (P := Tryz.prog) 26 [Value.int .i64 0, Value.slice none 0 0] Tryz.zeroValue26 rfl (ones_cons rfl (ones_cons rfl ones_nil))
  refine FL.v (E.alloc run36) ?_
  obtain ⟨w38, run39, S40⟩ := S37.store0 (P := Tryz.prog) (t := 26) (i := 0) (cs' := [Value.int .i64 r25.1.vars, v31]) (l' := [.box b34 26 [Value.int .i64 r25.1.vars, v31]]) (v := Value.agg #[Value.int .i64 r25.1.vars, v31]) (c := [Value.int .i64 r25.1.vars, v31]) rfl Tryz.sizeOf26 rfl rfl (ones_cons rfl (ones_cons h32.one ones_nil)) (Nat.le_of_ble_eq_true rfl) rfl rfl
  refine FL.act rfl rfl (E.store rfl rfl run39) ?_
  obtain ⟨H41, S42, i43, at44⟩ := S40.sealBox (i := 0) (l' := []) rfl rfl
  refine FL.v (E.assign (v := Value.int .i64 r25.2) rfl) ?_
  refine FL.nil (FW.seq (FW.region ?_))
  refine FL.v (E.load rfl (run_loadA Tryz.isAgg26 Tryz.sizeOf26 (at44.now S42.sl) rfl)) ?_
  refine FL.v (E.move (v := Value.int .i64 r25.2) rfl) ?_
  obtain ⟨r45, hr46, hp⟩ := bnd hp
  refine FL.call rfl rfl rfl (E.call Tryz.call10 (A2 rfl rfl)) (w_impl_EliminateVar S42.sl r25.1 v31 (h32.mono (upI.tr i43)) r25.2 hr46) ?_
  rintro e w48 ⟨H47, v51, rfl, r50, ⟨c54, ns53⟩⟩
  refine ⟨_, rfl, ?_⟩
  have h52 := ns53.rsl
  have nv55 : New H41 c54 := New.of_up S42.sl (fun b hb => ns53.dom b (.inr hb))
  have nv56 : New H41 [v51] := New.of_up S42.sl h52.dom
  have h52 := h52.mono (up_le S42.size)
  have ns53 := ns53.mono (up_le S42.size)
  have S49 := S42.call r50
  refine FL.v (E.move (v := Value.tuple #[Value.agg #[Value.int .i64 r45.1.vars, v51], Value.bool r45.2]) rfl) ?_
  refine FL.v (E.extract (i := 0) rfl rfl) ?_
  refine FL.v (E.extract (i := 1) rfl rfl) ?_
  have S61 := S49.nil 34 1
  have els62 : Els (up wa.heap.size H47) (eL eI 1) 1 [] [] := Els.nil
  obtain ⟨b57, w58, run59, S60⟩ := S61.alloc (P := Tryz.prog) 26 [Value.int .i64 0, Value.slice none 0 0] Tryz.zeroValue26 rfl (ones_cons rfl (ones_cons rfl ones_nil))
  refine FL.v (E.alloc run59) ?_
  obtain ⟨w63, run64, S65⟩ := S60.store0 (P := Tryz.prog) (t := 26) (i := 0) (cs' := [Value.int .i64 r45.1.vars, v51]) (l' := [.box b57 26 [Value.int .i64 r45.1.vars, v51], .row 34 1 (Value.slice none 0 0) 0 []]) (v := Value.agg #[Value.int .i64 r45.1.vars, v51]) (c := [Value.int .i64 r45.1.vars, v51]) rfl Tryz.sizeOf26 rfl rfl (ones_cons rfl (ones_cons h52.one ones_nil)) (Nat.le_of_ble_eq_true rfl) rfl rfl
  refine FL.act rfl rfl (E.store rfl rfl run64) ?_
  obtain ⟨H66, S67, i68, at69⟩ := S65.sealBox (i := 0) (l' := [.row 34 1 (Value.slice none 0 0) 0 []]) rfl rfl
  refine FL.v (E.assign (v := Value.bool r45.2) rfl) ?_
  refine FL.nil (FW.seq (FW.seq (FW.region ?_)))
  refine FL.v (E.load rfl (run_loadA Tryz.isAgg26 Tryz.sizeOf26 ((at44.mono (r50.inc.tr i68)).now S67.sl) rfl)) ?_
  refine FL.v (E.move (v := Value.int .i64 r25.2) rfl) ?_
  obtain ⟨r70, hr71, hp⟩ := bnd hp
  refine FL.call rfl rfl rfl (E.call Tryz.call11 (A2 rfl rfl)) (w_spec_EliminateVar S67.sl r25.1 v31 (h32.mono (upI.tr ((i43.tr r50.inc).tr i68))) r25.2 hr71) ?_
  rintro e w73 ⟨H72, v76, rfl, r75, h77⟩
  refine ⟨_, rfl, ?_⟩
  have S74 := S67.call r75
  refine FL.v (E.move (v := Value.tuple #[Value.agg #[Value.int .i64 r70.1.vars, v76], Value.bool r70.2]) rfl) ?_
  refine FL.v (E.extract (i := 0) rfl rfl) ?_
  refine FL.v (E.extract (i := 1) rfl rfl) ?_
  have S82 := S74.nil 34 1
  have els83 : Els (up wa.heap.size H72) (eL eI 1) 1 [] [] := Els.nil
  obtain ⟨b78, w79, run80, S81⟩ := S82.alloc (P := Tryz.prog) 26 [Value.int .i64 0, Value.slice none 0 0] Tryz.zeroValue26 rfl (ones_cons rfl (ones_cons rfl ones_nil))
  refine FL.v (E.alloc run80) ?_
  obtain ⟨w84, run85, S86⟩ := S81.store0 (P := Tryz.prog) (t := 26) (i := 0) (cs' := [Value.int .i64 r70.1.vars, v76]) (l' := [.box b78 26 [Value.int .i64 r70.1.vars, v76], .row 34 1 (Value.slice none 0 0) 0 [], .row 34 1 (Value.slice none 0 0) 0 []]) (v := Value.agg #[Value.int .i64 r70.1.vars, v76]) (c := [Value.int .i64 r70.1.vars, v76]) rfl Tryz.sizeOf26 rfl rfl (ones_cons rfl (ones_cons h77.one ones_nil)) (Nat.le_of_ble_eq_true rfl) rfl rfl
  refine FL.act rfl rfl (E.store rfl rfl run85) ?_
  obtain ⟨H87, S88, i89, at90⟩ := S86.sealBox (i := 0) (l' := [.row 34 1 (Value.slice none 0 0) 0 [], .row 34 1 (Value.slice none 0 0) 0 []]) rfl rfl
  refine FL.v (E.assign (v := Value.bool r70.2) rfl) ?_
  refine FL.nil (FW.seq (FW.region ?_))
  refine FL.v (E.move (v := Value.bool r45.2) rfl) ?_
  refine FL.v (E.move (v := Value.bool r70.2) rfl) ?_
  refine FL.v (E.neqB Tryz.runUnderlying4 rfl rfl) ?_
  refine FL.v (E.move (v := Value.bool (!(r45.2 == r70.2))) rfl) ?_
  obtain ⟨t96, hqt96, hp⟩ := bnd hp
  refine FL.cut 5 (fun f w => ∃ H : GH, St Ha wa H w [.row 34 1 (Value.slice none 0 0) 0 [], .row 34 1 (Value.slice none 0 0) 0 []] ∧ Inc H87 H ∧ f 3 = Value.pointer (some ⟨b34, 0, none⟩) ∧ f 4 = Value.int .i64 r25.2 ∧ f 5 = Value.pointer (some ⟨b57, 0, none⟩) ∧ f 6 = Value.bool r45.2 ∧ f 43 = Value.bool t96) ?_ ?_
  ·
   clear hp; have hp := hqt96; clear hqt96
   rcases ifB hp with ⟨c102, hp⟩ | ⟨c102, hp⟩
   ·
    refine FL.skip (wF_no rfl rfl rfl c102) rfl ?_
    refine FL.skip (wF_no rfl rfl rfl c102) rfl ?_
    refine FL.skip (wF_no rfl rfl rfl c102) rfl ?_
    refine FL.skip (wF_no rfl rfl rfl c102) rfl ?_
    obtain rfl := Option.some.inj hp
    refine FL.v (E.pickT rfl c102 rfl) ?_
    exact FL.nil ⟨rfl, _, S88, (Inc.rfl _), rfl, rfl, rfl, rfl, rfl⟩
   ·
    refine FL.val (wF_yes rfl rfl rfl c102) rfl rfl (E.load rfl (run_loadA Tryz.isAgg26 Tryz.sizeOf26 ((at69.mono (r75.inc.tr i89)).now S88.sl) rfl)) ?_
    refine FL.val (wF_yes rfl rfl rfl c102) rfl rfl (E.load rfl (run_loadA Tryz.isAgg26 Tryz.sizeOf26 (at90.now S88.sl) rfl)) ?_
    obtain ⟨r103, hr104, hp⟩ := bnd hp
    refine FL.call (wF_yes rfl rfl rfl c102) rfl rfl (E.call Tryz.call12 (A2 rfl rfl)) (w_laws_rCnf S88.sl r45.1 v51 (h52.mono (upI.tr ((i68.tr r75.inc).tr i89))) r70.1 v76 (h77.mono i89) hr104) ?_
    rintro e w105 ⟨rfl, r106⟩
    refine ⟨_, rfl, ?_⟩
    have S107 := S88.call r106
    refine FL.val (wF_yes rfl rfl rfl c102) rfl rfl (E.not rfl) ?_
    obtain rfl := Option.some.inj hp
    refine FL.v (E.pickF rfl c102 rfl) ?_
    exact FL.nil ⟨rfl, _, S107, (Inc.rfl _), rfl, rfl, rfl, rfl, rfl⟩
  rintro f101 w100 ⟨H97, S98, i99, k108, k109, k110, k111, k112⟩
  refine FL.nil ?_
  rcases ifB hp with ⟨c113, hp⟩ | ⟨c113, hp⟩
  ·
   refine FW.condT k112 c113 ?_
   refine FW.seq (FW.region ?_)
   refine FL.v (E.assign (v := Value.bool false) rfl) ?_
   refine FL.nil ?_
   refine FW.ret ?_
   obtain rfl := Option.some.inj hp
   exact ⟨.inr rfl, res1 rfl rfl ⟨rfl, S98.back⟩⟩
  ·
   refine FW.condF k112 c113 ?_
   refine FW.skip (FW.seq (FW.seq (FW.region ?_)))
   refine FL.v (E.move k111) ?_
   refine FL.v (E.not rfl) ?_
   refine FL.nil ?_
   rcases ifB hp with ⟨c114, hp⟩ | ⟨c114, hp⟩
   ·
    refine FW.condT rfl c114 ?_
    refine FW.seq (FW.region ?_)
    refine FL.v (E.assign (v := Value.bool true) rfl) ?_
    refine FL.nil ?_
    refine FW.ret ?_
    obtain rfl := Option.some.inj hp
    exact ⟨.inr rfl, res1 rfl rfl ⟨rfl, S98.back⟩⟩
   ·
    refine FW.condF rfl c114 ?_
    refine FW.skip (FW.seq (FW.seq (FW.region ?_)))
    refine FL.v (E.assign (v := Value.int .i64 0) rfl) ?_
    refine FL.nil ?_
    obtain ⟨q115, hq, hp⟩ := bndR hp
    refine FW.block ?_
    refine FW.mono (FW.iter (S := Int) (X := Bool) (fun (s115 : Int) f w => ∃ H : GH, St Ha wa H w [] ∧ Inc H97 H ∧ f 3 = Value.pointer (some ⟨b34, 0, none⟩) ∧ f 4 = Value.int .i64 r25.2 ∧ f 5 = Value.pointer (some ⟨b57, 0, none⟩) ∧ f 9 = Value.int .i64 s115) (fun q e f w => match q with | .go s115 => e = Exit.exit 0 ∧ (∃ H : GH, St Ha wa H w [] ∧ Inc H97 H) | .rt x => ((e = Exit.ret) ∧ (fun e f w => (e = Exit.normal ∨ e = Exit.ret) ∧ ∀ a, Fr (δ := []) 97 a f → ∃ v, (results Tryz.f3 a.tmps).run Tryz.prog w = .ok v w ∧ (Sc Ha wa (Value.bool x)) (.returned v) w) e f w)) hq ⟨_, (S98.sel [] (by decide) rfl), (Inc.rfl _), k108, k109, k110, rfl⟩ ?_) ?_
    ·
     clear hp hq
     rintro s115 f234 w233 ⟨H230, S231, i232, k235, k236, k237, k238⟩ o344 hp
     refine FW.seq (FW.seq (FW.region ?_))
     refine FL.v (E.move k238) ?_
     refine FL.v (E.fieldAddr tf26_0 k235) ?_
     refine FL.v (E.load rfl (run_load1 Tryz.isAgg3 ((at44.mono (((((r50.inc.tr i68).tr r75.inc).tr i89).tr i99).tr i232)).now S231.sl) rfl)) ?_
     obtain ⟨u240, z239, hp⟩ := bnd hp
     refine FL.v (E.shl rfl rfl (nn_ge z239)) ?_
     refine FL.v (E.lss rfl rfl) ?_
     refine FL.v (E.move (v := Value.bool (decide (s115 < (shlK true 64 1 r25.1.vars)))) rfl) ?_
     refine FL.cut 3 (fun f w => ∃ H : GH, St Ha wa H w [] ∧ Inc H230 H ∧ f 3 = Value.pointer (some ⟨b34, 0, none⟩) ∧ f 4 = Value.int .i64 r25.2 ∧ f 5 = Value.pointer (some ⟨b57, 0, none⟩) ∧ f 9 = Value.int .i64 s115 ∧ f 54 = Value.bool (bif (decide (s115 < (shlK true 64 1 r25.1.vars))) then (decide (s115 < 256)) else false)) ?_ ?_
     ·
      rcases bcase (decide (s115 < (shlK true 64 1 r25.1.vars))) with c247 | c247
      ·
       refine FL.val (wF_yes rfl rfl rfl c247) rfl rfl (E.move k238) ?_
       refine FL.val (wF_yes rfl rfl rfl c247) rfl rfl (E.lss rfl rfl) ?_
       refine FL.v (E.pickT rfl c247 rfl) ?_
       exact FL.nil ⟨rfl, _, S231, (Inc.rfl _), k235, k236, k237, k238, (congrArg Value.bool (bifT c247).symm)⟩
      ·
       refine FL.skip (wF_no rfl rfl rfl c247) rfl ?_
       refine FL.skip (wF_no rfl rfl rfl c247) rfl ?_
       refine FL.v (E.pickF rfl c247 rfl) ?_
       exact FL.nil ⟨rfl, _, S231, (Inc.rfl _), k235, k236, k237, k238, (congrArg Value.bool (bifF c247).symm)⟩
     rintro f246 w245 ⟨H242, S243, i244, k248, k249, k250, k251, k252⟩
     refine FL.nil ?_
     rcases ifB hp with ⟨c253, hp⟩ | ⟨c253, hp⟩
     ·
      refine FW.condT k252 c253 ?_
      refine FW.skip (FW.seq (FW.block (FW.seq (FW.region ?_))))
      refine FL.v (E.load k248 (run_loadA Tryz.isAgg26 Tryz.sizeOf26 ((at44.mono ((((((r50.inc.tr i68).tr r75.inc).tr i89).tr i99).tr i232).tr i244)).now S243.sl) rfl)) ?_
      refine FL.v (E.move k251) ?_
      obtain ⟨r254, hr255, hp⟩ := bnd hp
      refine FL.call rfl rfl rfl (E.call Tryz.call13 (A2 rfl rfl)) (w_impl_IsModel S243.sl r25.1 v31 (h32.mono (upI.tr (((((((i43.tr r50.inc).tr i68).tr r75.inc).tr i89).tr i99).tr i232).tr i244))) s115 hr255) ?_
      rintro e w256 ⟨rfl, r257⟩
      refine ⟨_, rfl, ?_⟩
      have S258 := S243.call r257
      refine FL.v (E.move (v := Value.tuple #[Value.bool r254.1, Value.bool r254.2]) rfl) ?_
      refine FL.v (E.extract (i := 0) rfl rfl) ?_
      refine FL.v (E.extract (i := 1) rfl rfl) ?_
      refine FL.v (E.assign (v := Value.bool r254.1) rfl) ?_
      refine FL.v (E.assign (v := Value.bool r254.2) rfl) ?_
      refine FL.nil (FW.seq ?_)
      refine FW.draw (fun w' => Run w256.heap.size H242 w256 H242 w') (by kernel_rfl) (by kernel_rfl) (run_drew S258.sl) ?_
      refine FD.val rfl rfl rfl (fun w' hw' => (E.load k248 (run_loadA Tryz.isAgg26 Tryz.sizeOf26 ((at44.mono ((((((r50.inc.tr i68).tr r75.inc).tr i89).tr i99).tr i232).tr i244)).now (S258.call hw').sl) rfl))) ?_
      refine FD.val rfl rfl rfl (fun w' hw' => (E.move k251)) ?_
      refine FD.val rfl rfl rfl (fun w' hw' => (E.move k249)) ?_
      refine FD.val rfl rfl rfl (fun w' hw' => (E.sub rfl rfl)) ?_
      obtain ⟨u261, z260, hp⟩ := bnd hp
      refine FD.val rfl rfl rfl (fun w' hw' => (E.shl rfl rfl (nn_ge z260))) ?_
      refine FD.val rfl rfl rfl (fun w' hw' => (E.xor rfl rfl)) ?_
      obtain ⟨r262, hr263, hp⟩ := bnd hp
      refine FD.call rfl rfl rfl (fun w' hw' => (E.call Tryz.call13 (A2 rfl rfl))) (fun w' hw' => Calls.cls hw' (w_impl_IsModel (S258.call hw').sl r25.1 v31 (h32.mono (upI.tr (((((((i43.tr r50.inc).tr i68).tr r75.inc).tr i89).tr i99).tr i232).tr i244))) (xorK true 64 s115 (shlK true 64 1 (wr (r25.2 - 1)))) hr263)) ?_
      refine FD.val rfl rfl rfl (fun w' hw' => (E.move (v := Value.tuple #[Value.bool r262.1, Value.bool r262.2]) rfl)) ?_
      refine FD.val rfl rfl rfl (fun w' hw' => (E.extract (i := 0) rfl rfl)) ?_
      refine FD.val rfl rfl rfl (fun w' hw' => (E.extract (i := 1) rfl rfl)) ?_
      refine FD.val rfl rfl rfl (fun w' hw' => (E.assign (v := Value.bool r262.1) rfl)) ?_
      refine FD.val rfl rfl rfl (fun w' hw' => (E.assign (v := Value.bool r262.2) rfl)) ?_
      refine FD.nil ?_
      intro w264 r266
      have S265 := S258.call r266
      refine FW.seq (FW.region ?_)
      refine FL.v (E.load k250 (run_loadA Tryz.isAgg26 Tryz.sizeOf26 ((at69.mono ((((r75.inc.tr i89).tr i99).tr i232).tr i244)).now S265.sl) rfl)) ?_
      refine FL.v (E.move k251) ?_
      obtain ⟨r267, hr268, hp⟩ := bnd hp
      refine FL.call rfl rfl rfl (E.call Tryz.call13 (A2 rfl rfl)) (w_impl_IsModel S265.sl r45.1 v51 (h52.mono (upI.tr (((((i68.tr r75.inc).tr i89).tr i99).tr i232).tr i244))) s115 hr268) ?_
      rintro e w269 ⟨rfl, r270⟩
      refine ⟨_, rfl, ?_⟩
      have S271 := S265.call r270
      refine FL.v (E.move (v := Value.tuple #[Value.bool r267.1, Value.bool r267.2]) rfl) ?_
      refine FL.v (E.extract (i := 0) rfl rfl) ?_
      refine FL.v (E.extract (i := 1) rfl rfl) ?_
      refine FL.v (E.assign (v := Value.bool r267.1) rfl) ?_
      refine FL.v (E.assign (v := Value.bool r267.2) rfl) ?_
      refine FL.nil (FW.seq (FW.region ?_))
      refine FL.v (E.move (v := Value.bool r254.2) rfl) ?_
      refine FL.v (E.not rfl) ?_
      refine FL.v (E.move (v := Value.bool (!r254.2)) rfl) ?_
      refine FL.cut 3 (fun f w => ∃ H : GH, St Ha wa H w [] ∧ Inc H242 H ∧ f 3 = Value.pointer (some ⟨b34, 0, none⟩) ∧ f 4 = Value.int .i64 r25.2 ∧ f 5 = Value.pointer (some ⟨b57, 0, none⟩) ∧ f 9 = Value.int .i64 s115 ∧ f 10 = Value.bool r254.1 ∧ f 12 = Value.bool r262.1 ∧ f 14 = Value.bool r267.1 ∧ f 15 = Value.bool r267.2 ∧ f 84 = Value.bool (bif (!r254.2) then true else (!r262.2))) ?_ ?_
      ·
       rcases bcase (!r254.2) with c278 | c278
       ·
        refine FL.skip (wF_no rfl rfl rfl c278) rfl ?_
        refine FL.skip (wF_no rfl rfl rfl c278) rfl ?_
        refine FL.v (E.pickT rfl c278 rfl) ?_
        exact FL.nil ⟨rfl, _, S271, (Inc.rfl _), k248, k249, k250, k251, rfl, rfl, rfl, rfl, (congrArg Value.bool (bifT c278).symm)⟩
       ·
        refine FL.val (wF_yes rfl rfl rfl c278) rfl rfl (E.move (v := Value.bool r262.2) rfl) ?_
        refine FL.val (wF_yes rfl rfl rfl c278) rfl rfl (E.not rfl) ?_
        refine FL.v (E.pickF rfl c278 rfl) ?_
        exact FL.nil ⟨rfl, _, S271, (Inc.rfl _), k248, k249, k250, k251, rfl, rfl, rfl, rfl, (congrArg Value.bool (bifF c278).symm)⟩
      rintro f277 w276 ⟨H273, S274, i275, k279, k280, k281, k282, k283, k284, k285, k286, k287⟩
      refine FL.v (E.move k287) ?_
      refine FL.cut 3 (fun f w => ∃ H : GH, St Ha wa H w [] ∧ Inc H273 H ∧ f 3 = Value.pointer (some ⟨b34, 0, none⟩) ∧ f 4 = Value.int .i64 r25.2 ∧ f 5 = Value.pointer (some ⟨b57, 0, none⟩) ∧ f 9 = Value.int .i64 s115 ∧ f 10 = Value.bool r254.1 ∧ f 12 = Value.bool r262.1 ∧ f 14 = Value.bool r267.1 ∧ f 88 = Value.bool (bif (bif (!r254.2) then true else (!r262.2)) then true else (!r267.2))) ?_ ?_
      ·
       rcases bcase (bif (!r254.2) then true else (!r262.2)) with c294 | c294
       ·
        refine FL.skip (wF_no rfl rfl rfl c294) rfl ?_
        refine FL.skip (wF_no rfl rfl rfl c294) rfl ?_
        refine FL.v (E.pickT rfl c294 rfl) ?_
        exact FL.nil ⟨rfl, _, S274, (Inc.rfl _), k279, k280, k281, k282, k283, k284, k285, (congrArg Value.bool (bifT c294).symm)⟩
       ·
        refine FL.val (wF_yes rfl rfl rfl c294) rfl rfl (E.move k286) ?_
        refine FL.val (wF_yes rfl rfl rfl c294) rfl rfl (E.not rfl) ?_
        refine FL.v (E.pickF rfl c294 rfl) ?_
        exact FL.nil ⟨rfl, _, S274, (Inc.rfl _), k279, k280, k281, k282, k283, k284, k285, (congrArg Value.bool (bifF c294).symm)⟩
      rintro f293 w292 ⟨H289, S290, i291, k295, k296, k297, k298, k299, k300, k301, k302⟩
      refine FL.v (E.move k302) ?_
      refine FL.cut 7 (fun f w => ∃ H : GH, St Ha wa H w [] ∧ Inc H289 H ∧ f 3 = Value.pointer (some ⟨b34, 0, none⟩) ∧ f 4 = Value.int .i64 r25.2 ∧ f 5 = Value.pointer (some ⟨b57, 0, none⟩) ∧ f 9 = Value.int .i64 s115 ∧ f 96 = Value.bool (bif (bif (bif (!r254.2) then true else (!r262.2)) then true else (!r267.2)) then true else (!(r267.1 == (bif r254.1 then true else r262.1))))) ?_ ?_
      ·
       rcases bcase (bif (bif (!r254.2) then true else (!r262.2)) then true else (!r267.2)) with c323 | c323
       ·
        refine FL.skip (wF_no rfl rfl rfl c323) rfl ?_
        refine FL.skip (wF_no rfl rfl rfl c323) rfl ?_
        refine FL.skip (wF_no rfl rfl rfl c323) rfl ?_
        refine FL.skip (wF_undef rfl rfl rfl) rfl ?_
        refine FL.skip (wF_no rfl rfl rfl c323) rfl ?_
        refine FL.skip (wF_no rfl rfl rfl c323) rfl ?_
        refine FL.v (E.pickT rfl c323 rfl) ?_
        exact FL.nil ⟨rfl, _, S290, (Inc.rfl _), k295, k296, k297, k298, (congrArg Value.bool (bifT c323).symm)⟩
       ·
        refine FL.val (wF_yes rfl rfl rfl c323) rfl rfl (E.move k301) ?_
        refine FL.val (wF_yes rfl rfl rfl c323) rfl rfl (E.move k299) ?_
        refine FL.val (wF_yes rfl rfl rfl c323) rfl rfl (E.move (v := Value.bool r254.1) rfl) ?_
        refine FL.cut 2 (fun f w => ∃ H : GH, St Ha wa H w [] ∧ Inc H289 H ∧ f 3 = Value.pointer (some ⟨b34, 0, none⟩) ∧ f 4 = Value.int .i64 r25.2 ∧ f 5 = Value.pointer (some ⟨b57, 0, none⟩) ∧ f 9 = Value.int .i64 s115 ∧ f 89 = Value.bool (bif (bif (!r254.2) then true else (!r262.2)) then true else (!r267.2)) ∧ f 90 = Value.bool r267.1 ∧ f 94 = Value.bool (bif r254.1 then true else r262.1)) ?_ ?_
        ·
         rcases bcase r254.1 with c330 | c330
         ·
          refine FL.skip (wF_no rfl rfl rfl c330) rfl ?_
          refine FL.val (wF_yes rfl rfl rfl c323) rfl rfl (E.pickT rfl c330 rfl) ?_
          exact FL.nil ⟨rfl, _, S290, (Inc.rfl _), k295, k296, k297, k298, rfl, rfl, (congrArg Value.bool (bifT c330).symm)⟩
         ·
          refine FL.val (wF_yes rfl rfl rfl c330) rfl rfl (E.move k300) ?_
          refine FL.val (wF_yes rfl rfl rfl c323) rfl rfl (E.pickF rfl c330 rfl) ?_
          exact FL.nil ⟨rfl, _, S290, (Inc.rfl _), k295, k296, k297, k298, rfl, rfl, (congrArg Value.bool (bifF c330).symm)⟩
        rintro f329 w328 ⟨H325, S326, i327, k331, k332, k333, k334, k335, k336, k337⟩
        refine FL.val (wF_yes rfl rfl k335 c323) rfl rfl (E.neqB Tryz.runUnderlying4 k336 k337) ?_
        refine FL.v (E.pickF k335 c323 rfl) ?_
        exact FL.nil ⟨rfl, _, S326, i327, k331, k332, k333, k334, (congrArg Value.bool (bifF c323).symm)⟩
      rintro f322 w321 ⟨H318, S319, i320, k338, k339, k340, k341, k342⟩
      refine FL.nil ?_
      rcases ifB hp with ⟨c343, hp⟩ | ⟨c343, hp⟩
      ·
       refine FW.condT k342 c343 ?_
       refine FW.seq (FW.region ?_)
       refine FL.v (E.assign (v := Value.bool false) rfl) ?_
       refine FL.nil ?_
       refine FW.ret ?_
       obtain rfl := Option.some.inj hp
       exact ⟨nofun, rfl, ⟨.inr rfl, res1 rfl rfl ⟨rfl, S319.back⟩⟩⟩
      ·
       refine FW.condF k342 c343 ?_
       refine FW.skip (FW.region ?_)
       refine FL.v (E.move k341) ?_
       refine FL.v (E.add rfl rfl) ?_
       refine FL.v (E.assign (v := Value.int .i64 (wr (s115 + 1))) rfl) ?_
       refine FL.nil ?_
       obtain rfl := Option.some.inj hp
       exact ⟨rfl, ⟨_, S319, ((((i232.tr i244).tr i275).tr i291).tr i320), k338, k339, k340, rfl⟩⟩
     ·
      refine FW.condF k252 c253 ?_
      refine FW.exit ?_
      obtain rfl := Option.some.inj hp
      exact ⟨nofun, rfl, ⟨_, S243, (i232.tr i244)⟩⟩
    ·
     clear hq
     intro e f349 w348 hD
     rcases q115 with s115 | x115
     ·
      obtain ⟨rfl, hD⟩ := hD
      obtain ⟨H345, S346, i347⟩ := hD
      replace hp := el_go hp
      refine FW.seq (FW.region ?_)
      refine FL.v (E.assign (v := Value.bool true) rfl) ?_
      refine FL.nil ?_
      refine FW.ret ?_
      obtain rfl := Option.some.inj hp
      exact ⟨.inr rfl, res1 rfl rfl ⟨rfl, S346.back⟩⟩
     ·
      obtain ⟨he, hL⟩ := hD
      replace hp := el_rt hp
      obtain rfl := Option.some.inj hp
      subst he
      exact hL

end Go.Proofs
