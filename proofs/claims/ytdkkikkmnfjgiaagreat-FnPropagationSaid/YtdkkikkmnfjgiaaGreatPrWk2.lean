/- Part of the walks and plain laws behind the claim: it proves helpers, under no condition beyond their own. -/
import Derived.Test.YtdkkikkmnfjgiaaGreatPrWk1
set_option linter.unusedVariables false
set_option maxRecDepth 100000
namespace Go.Proofs
open Go.Mr Go.Pu Go.PF Go.RowKit

@[reducible] def p_spec_l1Cur_anyClause (H0 : GH) (w0 : World) (Ha : GH) (L : List MO) (b0 : Nat) (r : ((List Int) × l1Cur)) : Ending → World → Prop :=
 fun e w' => ∃ H' : GH, ∃ v0 : Value, ∃ n0 : Nat, ∃ c0 : List Value, ∃ v0_0r : Value, e = .returned (v0) ∧ (St H0 w0 H' w' (.row 3 1 v0 n0 c0 :: .box b0 92 [v0_0r, Value.int .i64 r.2.at_, Value.int .u64 r.2.seed] :: L) ∧ Inc Ha H') ∧ Els (up w0.heap.size H') eI 1 c0 r.1 ∧ RSl H' (eN .u8) 1 v0_0r r.2.code
theorem w_spec_l1Cur_anyClause {H0 Ha : GH} {w0 wa : World} {L : List MO} {a0 : l1Cur} {b0 : Nat} {v0_0 : Value} (S0 : St H0 w0 Ha wa (.box b0 92 [v0_0, Value.int .i64 a0.at_, Value.int .u64 a0.seed] :: L)) (p0_0 : RSl Ha (eN .u8) 1 v0_0 a0.code) (a1 : Int) {r : ((List Int) × l1Cur)} (hp : (PF.spec_l1Cur_anyClause a0 a1) = some r) :
  Calls Tryz.prog 167 #[Value.pointer (some (⟨b0, 0, none⟩ : Addr)), Value.int .i64 a1] wa (p_spec_l1Cur_anyClause H0 w0 Ha L b0 r) := by
 unfold PF.spec_l1Cur_anyClause at hp
 refine calls_go (N := 52) (args := [Value.pointer (some (⟨b0, 0, none⟩ : Addr)), Value.int .i64 a1]) Tryz.func167 rfl rfl rfl ?_
 refine FW.seq (FW.region ?_)
 refine FL.v (E.assign (v := Value.slice none 0 0) rfl) ?_
 refine FL.nil (FW.seq (FW.region ?_))
 refine FL.v (E.move (v := Value.pointer (some (⟨b0, 0, none⟩ : Addr))) rfl) ?_
 refine FL.v (E.move (v := Value.int .i64 a1) rfl) ?_
 obtain ⟨r21, hr22, hp⟩ := bnd hp
 refine FL.call rfl rfl rfl (E.call Tryz.call166 (A2 rfl rfl)) (w_spec_l1Cur_clause (L := (L)) S0 (a0 := a0) p0_0 a1 hr22) ?_
 rintro e w24 ⟨H23, v27, n28, cs29, v31, rfl, ⟨S25, i26⟩, els30, h32⟩
 refine ⟨_, rfl, ?_⟩
 have S25 : St H0 w0 H23 w24 (.row 3 1 v27 n28 cs29 :: .box b0 92 [v31, Value.int .i64 r21.2.at_, Value.int .u64 r21.2.seed] :: L) := S25
 refine FL.v (E.assign (v := v27) rfl) ?_
 refine FL.nil (FW.seq (FW.seq (FW.region ?_)))
 refine FL.v (E.move (v := Value.pointer (some (⟨b0, 0, none⟩ : Addr))) rfl) ?_
 obtain ⟨r33, hr34, hp⟩ := bnd hp
 have S35 : St H0 w0 H23 w24 (.box b0 92 [v31, Value.int .i64 r21.2.at_, Value.int .u64 r21.2.seed] :: .row 3 1 v27 n28 cs29 :: L) := S25.front 1 rfl rfl
 refine FL.call rfl rfl rfl (E.call Tryz.call70 (A2 rfl rfl)) (w_spec_l1Cur_pick (L := (.row 3 1 v27 n28 cs29 :: L)) S35 (a0 := r21.2) h32 32 hr34) ?_
 rintro e w37 ⟨H36, v40, rfl, ⟨S38, i39⟩, h41⟩
 refine ⟨_, rfl, ?_⟩
 have S38 : St H0 w0 H36 w37 (.box b0 92 [v40, Value.int .i64 r33.2.at_, Value.int .u64 r33.2.seed] :: .row 3 1 v27 n28 cs29 :: L) := S38
 refine FL.nil (FW.block (FW.seq (FW.region ?_)))
 refine FL.v (E.eql rfl rfl) ?_
 refine FL.v (E.assign (v := Value.bool (r33.1 == 0)) rfl) ?_
 refine FL.nil ?_
 rcases ifB hp with ⟨c42, hp⟩ | ⟨c42, hp⟩
 ·
  refine FW.condT rfl c42 ?_
  refine FW.region ?_
  refine FL.v (E.move (v := v27) rfl) ?_
  refine FL.v (E.move (v := Value.pointer (some (⟨b0, 0, none⟩ : Addr))) rfl) ?_
  refine FL.v (E.move (v := Value.int .i64 a1) rfl) ?_
  obtain ⟨r43, hr44, hp⟩ := bnd hp
  refine FL.call rfl rfl rfl (E.call Tryz.call189 (A2 rfl rfl)) (w_spec_l1Cur_lit (L := (.row 3 1 v27 n28 cs29 :: L)) S38 (a0 := r33.2) h41 a1 hr44) ?_
  rintro e w46 ⟨H45, v49, rfl, ⟨S47, i48⟩, h50⟩
  refine ⟨_, rfl, ?_⟩
  have S47 : St H0 w0 H45 w46 (.box b0 92 [v49, Value.int .i64 r43.2.at_, Value.int .u64 r43.2.seed] :: .row 3 1 v27 n28 cs29 :: L) := S47
  obtain ⟨v51, w52, run53, S54⟩ := S47.buildSlice (P := Tryz.prog) te34 [Value.int .i64 r43.1] (parts := #[(0, Value.int .i64 r43.1)]) (cells := [Value.int .i64 r43.1]) rfl (szs_cons rfl szs_nil) (fc_cons rfl fc_nil) (ones_cons rfl ones_nil) (Nat.le_of_ble_eq_true rfl)
  have els55 : Els (up w0.heap.size H45) eI 1 [Value.int .i64 r43.1] [r43.1] := (Els.snoc (H := (up w0.heap.size H45)) (E := eI) (k := 1) (c := [Value.int .i64 r43.1]) (x := r43.1) Els.nil rfl rfl)
  refine FL.v (E.buildSlice (B1 rfl) run53) ?_
  obtain ⟨xs56, hz57, hp⟩ := bnd hp
  obtain ⟨v58, w61, n59, cs60, run62, S63, els64, ce65⟩ := S54.appendO (P := Tryz.prog) te34 (i := 2) (j := 0) rfl (els30.mono (up_mono (i39.tr i48))) rfl els55 hz57
  have S63 : St H0 w0 H45 w61 (.row 3 1 v51 1 [Value.int .i64 r43.1] :: .box b0 92 [v49, Value.int .i64 r43.2.at_, Value.int .u64 r43.2.seed] :: .row 3 1 v58 n59 cs60 :: L) := S63
  have S66 : St H0 w0 H45 w61 (.box b0 92 [v49, Value.int .i64 r43.2.at_, Value.int .u64 r43.2.seed] :: .row 3 1 v58 n59 cs60 :: L) := S63.drop 0
  refine FL.v (E.append rfl rfl run62) ?_
  refine FL.v (E.assign (v := v58) rfl) ?_
  refine FL.nil (FW.seq (FW.region ?_))
  refine FL.v (E.move (v := v58) rfl) ?_
  refine FL.v (E.assign (v := v58) rfl) ?_
  refine FL.nil ?_
  refine FW.ret ?_
  obtain rfl := Option.some.inj hp
  exact ⟨.inr rfl, res1 rfl rfl ⟨_, _, _, _, _, rfl, ⟨(S66.selT (a := [.box b0 92 [v49, Value.int .i64 r43.2.at_, Value.int .u64 r43.2.seed], .row 3 1 v58 n59 cs60]) (l' := [.row 3 1 v58 n59 cs60, .box b0 92 [v49, Value.int .i64 r43.2.at_, Value.int .u64 r43.2.seed]]) [1, 0] (by decide) rfl), ((i26.tr i39).tr i48)⟩, els64, h50⟩⟩
 ·
  refine FW.condF rfl c42 ?_
  refine FW.seq (FW.region ?_)
  refine FL.v (E.eql rfl rfl) ?_
  refine FL.v (E.assign (v := Value.bool (r33.1 == 1)) rfl) ?_
  refine FL.nil ?_
  rcases ifB hp with ⟨c67, hp⟩ | ⟨c67, hp⟩
  ·
   refine FW.condT rfl c67 ?_
   refine FW.seq (FW.region ?_)
   refine FL.v (E.move (v := v27) rfl) ?_
   refine FL.v (E.lenO te34 rfl S38 (i := 1) rfl els30 (by decide)) ?_
   refine FL.v (E.gtr rfl rfl) ?_
   refine FL.nil ?_
   rcases ifB hp with ⟨c68, hp⟩ | ⟨c68, hp⟩
   ·
    refine FW.condT rfl c68 ?_
    refine FW.region ?_
    refine FL.v (E.move (v := v27) rfl) ?_
    refine FL.v (E.move (v := Value.pointer (some (⟨b0, 0, none⟩ : Addr))) rfl) ?_
    refine FL.v (E.move (v := Value.int .i64 a1) rfl) ?_
    refine FL.v (E.add rfl rfl) ?_
    refine FL.v (E.move (v := Value.int .i64 a1) rfl) ?_
    refine FL.v (E.neg rfl) ?_
    refine FL.v (E.sub rfl rfl) ?_
    obtain ⟨v69, w70, run71, S72⟩ := S38.buildSlice (P := Tryz.prog) te34 [Value.int .i64 0, Value.int .i64 (wr (a1 + 1)), Value.int .i64 (wr ((wr (-a1)) - 1)), Value.int .i64 (-9223372036854775808)] (parts := #[(0, Value.int .i64 0), (1, Value.int .i64 (wr (a1 + 1))), (2, Value.int .i64 (wr ((wr (-a1)) - 1))), (3, Value.int .i64 (-9223372036854775808))]) (cells := [Value.int .i64 0, Value.int .i64 (wr (a1 + 1)), Value.int .i64 (wr ((wr (-a1)) - 1)), Value.int .i64 (-9223372036854775808)]) rfl (szs_cons rfl (szs_cons rfl (szs_cons rfl (szs_cons rfl szs_nil)))) (fc_cons rfl (fc_cons rfl (fc_cons rfl (fc_cons rfl fc_nil)))) (ones_cons rfl (ones_cons rfl (ones_cons rfl (ones_cons rfl ones_nil)))) (Nat.le_of_ble_eq_true rfl)
    have els73 : Els (up w0.heap.size H36) eI 1 [Value.int .i64 0, Value.int .i64 (wr (a1 + 1)), Value.int .i64 (wr ((wr (-a1)) - 1)), Value.int .i64 (-9223372036854775808)] [0, (wr (a1 + 1)), (wr ((wr (-a1)) - 1)), (-9223372036854775808)] := (Els.snoc (H := (up w0.heap.size H36)) (E := eI) (k := 1) (c := [Value.int .i64 (-9223372036854775808)]) (x := (-9223372036854775808)) (Els.snoc (H := (up w0.heap.size H36)) (E := eI) (k := 1) (c := [Value.int .i64 (wr ((wr (-a1)) - 1))]) (x := (wr ((wr (-a1)) - 1))) (Els.snoc (H := (up w0.heap.size H36)) (E := eI) (k := 1) (c := [Value.int .i64 (wr (a1 + 1))]) (x := (wr (a1 + 1))) (Els.snoc (H := (up w0.heap.size H36)) (E := eI) (k := 1) (c := [Value.int .i64 0]) (x := 0) Els.nil rfl rfl) rfl rfl) rfl rfl) rfl rfl)
    refine FL.v (E.buildSlice (B4 rfl rfl rfl rfl) run71) ?_
    obtain ⟨H74, S75, i76, h77, nv78⟩ := S72.sealRowU (i := 0) (l' := (.box b0 92 [v40, Value.int .i64 r33.2.at_, Value.int .u64 r33.2.seed] :: .row 3 1 v27 n28 cs29 :: L)) rfl els73 (by decide) rfl
    obtain ⟨r79, hr80, hp⟩ := bnd hp
    refine FL.call rfl rfl rfl (E.call Tryz.call69 (A2 rfl rfl)) (w_spec_l1Cur_among (L := (.row 3 1 v27 n28 cs29 :: L)) S75 (a0 := r33.2) (h41.mono i76) v69 [0, (wr (a1 + 1)), (wr ((wr (-a1)) - 1)), (-9223372036854775808)] (h77.mono upI) hr80) ?_
    rintro e w82 ⟨H81, v85, rfl, ⟨S83, i84⟩, h86⟩
    refine ⟨_, rfl, ?_⟩
    have S83 : St H0 w0 H81 w82 (.box b0 92 [v85, Value.int .i64 r79.2.at_, Value.int .u64 r79.2.seed] :: .row 3 1 v27 n28 cs29 :: L) := S83
    obtain ⟨x93, hx94, hp⟩ := bnd hp
    obtain ⟨p87, cs88, pt89, l90, at91, rel92⟩ := S83.row_at (i := 1) rfl els30 (by decide) hx94
    obtain rfl := eI_open rel92
    refine FL.v (E.indexAddr te34 rfl rfl pt89) ?_
    obtain ⟨xs98, hput99, hp⟩ := bnd hp
    obtain ⟨w95, cs101, run96, S97, els100, ce102⟩ := S83.putEls (P := Tryz.prog) (t := 3) (i := 1) rfl (els30.mono (up_mono ((i39.tr i76).tr i84))) hput99 pt89 Tryz.sizeOf3 (u := Value.int .i64 r79.1) (c := [Value.int .i64 r79.1]) rfl rfl (ones_cons rfl ones_nil) rfl
    have S97 : St H0 w0 H81 w95 (.box b0 92 [v85, Value.int .i64 r79.2.at_, Value.int .u64 r79.2.seed] :: .row 3 1 v27 n28 cs101 :: L) := S97
    refine FL.act rfl rfl (E.store rfl rfl run96) ?_
    refine FL.nil (FW.seq (FW.region ?_))
    refine FL.v (E.move (v := v27) rfl) ?_
    refine FL.v (E.assign (v := v27) rfl) ?_
    refine FL.nil ?_
    refine FW.ret ?_
    obtain rfl := Option.some.inj hp
    exact ⟨.inr rfl, res1 rfl rfl ⟨_, _, _, _, _, rfl, ⟨(S97.selT (a := [.box b0 92 [v85, Value.int .i64 r79.2.at_, Value.int .u64 r79.2.seed], .row 3 1 v27 n28 cs101]) (l' := [.row 3 1 v27 n28 cs101, .box b0 92 [v85, Value.int .i64 r79.2.at_, Value.int .u64 r79.2.seed]]) [1, 0] (by decide) rfl), (((i26.tr i39).tr i76).tr i84)⟩, els100, h86⟩⟩
   ·
    refine FW.condF rfl c68 ?_
    refine FW.skip (FW.seq (FW.region ?_))
    refine FL.v (E.move (v := v27) rfl) ?_
    refine FL.v (E.assign (v := v27) rfl) ?_
    refine FL.nil ?_
    refine FW.ret ?_
    obtain rfl := Option.some.inj hp
    exact ⟨.inr rfl, res1 rfl rfl ⟨_, _, _, _, _, rfl, ⟨(S38.selT (a := [.box b0 92 [v40, Value.int .i64 r33.2.at_, Value.int .u64 r33.2.seed], .row 3 1 v27 n28 cs29]) (l' := [.row 3 1 v27 n28 cs29, .box b0 92 [v40, Value.int .i64 r33.2.at_, Value.int .u64 r33.2.seed]]) [1, 0] (by decide) rfl), (i26.tr i39)⟩, (els30.mono (up_mono i39)), h41⟩⟩
  ·
   refine FW.condF rfl c67 ?_
   refine FW.seq (FW.region ?_)
   refine FL.v (E.eql rfl rfl) ?_
   refine FL.v (E.assign (v := Value.bool (r33.1 == 2)) rfl) ?_
   refine FL.nil ?_
   rcases ifB hp with ⟨c103, hp⟩ | ⟨c103, hp⟩
   ·
    refine FW.condT rfl c103 ?_
    refine FW.seq (FW.region ?_)
    refine FL.v (E.move (v := v27) rfl) ?_
    refine FL.v (E.lenO te34 rfl S38 (i := 1) rfl els30 (by decide)) ?_
    refine FL.v (E.gtr rfl rfl) ?_
    refine FL.nil ?_
    rcases ifB hp with ⟨c104, hp⟩ | ⟨c104, hp⟩
    ·
     refine FW.condT rfl c104 ?_
     refine FW.seq (FW.region ?_)
     refine FL.v (E.move (v := v27) rfl) ?_
     obtain ⟨x111, hx112, hp⟩ := bnd hp
     obtain ⟨p105, cs106, pt107, l108, at109, rel110⟩ := S38.row_at (i := 1) rfl els30 (by decide) hx112
     obtain rfl := eI_open rel110
     refine FL.v (E.indexAddr te34 rfl rfl pt107) ?_
     refine FL.v (E.load rfl (run_load0 Tryz.isAgg3 at109 rfl)) ?_
     refine FL.v (E.assign (v := Value.int .i64 x111) rfl) ?_
     refine FL.nil (FW.seq (FW.region ?_))
     refine FL.v (E.move (v := v27) rfl) ?_
     refine FL.v (E.move (v := v27) rfl) ?_
     obtain ⟨x119, hx120, hp⟩ := bnd hp
     obtain ⟨p113, cs114, pt115, l116, at117, rel118⟩ := S38.row_at (i := 1) rfl els30 (by decide) hx120
     obtain rfl := eI_open rel118
     refine FL.v (E.indexAddr te34 rfl rfl pt115) ?_
     refine FL.v (E.load rfl (run_load0 Tryz.isAgg3 at117 rfl)) ?_
     obtain ⟨x127, hx128, hp⟩ := bnd hp
     obtain ⟨p121, cs122, pt123, l124, at125, rel126⟩ := S38.row_at (i := 1) rfl els30 (by decide) hx128
     obtain rfl := eI_open rel126
     refine FL.v (E.indexAddr te34 rfl rfl pt123) ?_
     obtain ⟨xs132, hput133, hp⟩ := bnd hp
     obtain ⟨w129, cs135, run130, S131, els134, ce136⟩ := S38.putEls (P := Tryz.prog) (t := 3) (i := 1) rfl (els30.mono (up_mono i39)) hput133 pt123 Tryz.sizeOf3 (u := Value.int .i64 x119) (c := [Value.int .i64 x119]) rfl rfl (ones_cons rfl ones_nil) rfl
     have S131 : St H0 w0 H36 w129 (.box b0 92 [v40, Value.int .i64 r33.2.at_, Value.int .u64 r33.2.seed] :: .row 3 1 v27 n28 cs135 :: L) := S131
     refine FL.act rfl rfl (E.store rfl rfl run130) ?_
     refine FL.nil (FW.region ?_)
     refine FL.v (E.move (v := v27) rfl) ?_
     refine FL.v (E.move (v := Value.int .i64 x111) rfl) ?_
     obtain ⟨x143, hx144, hp⟩ := bnd hp
     obtain ⟨p137, cs138, pt139, l140, at141, rel142⟩ := S131.row_at (i := 1) rfl els134 (by decide) hx144
     obtain rfl := eI_open rel142
     refine FL.v (E.indexAddr te34 rfl rfl pt139) ?_
     obtain ⟨xs148, hput149, hp⟩ := bnd hp
     obtain ⟨w145, cs151, run146, S147, els150, ce152⟩ := S131.putEls (P := Tryz.prog) (t := 3) (i := 1) rfl els134 hput149 pt139 Tryz.sizeOf3 (u := Value.int .i64 x111) (c := [Value.int .i64 x111]) rfl rfl (ones_cons rfl ones_nil) rfl
     have S147 : St H0 w0 H36 w145 (.box b0 92 [v40, Value.int .i64 r33.2.at_, Value.int .u64 r33.2.seed] :: .row 3 1 v27 n28 cs151 :: L) := S147
     refine FL.act rfl rfl (E.store rfl rfl run146) ?_
     refine FL.nil (FW.seq (FW.region ?_))
     refine FL.v (E.move (v := v27) rfl) ?_
     refine FL.v (E.assign (v := v27) rfl) ?_
     refine FL.nil ?_
     refine FW.ret ?_
     obtain rfl := Option.some.inj hp
     exact ⟨.inr rfl, res1 rfl rfl ⟨_, _, _, _, _, rfl, ⟨(S147.selT (a := [.box b0 92 [v40, Value.int .i64 r33.2.at_, Value.int .u64 r33.2.seed], .row 3 1 v27 n28 cs151]) (l' := [.row 3 1 v27 n28 cs151, .box b0 92 [v40, Value.int .i64 r33.2.at_, Value.int .u64 r33.2.seed]]) [1, 0] (by decide) rfl), (i26.tr i39)⟩, els150, h41⟩⟩
    ·
     refine FW.condF rfl c104 ?_
     refine FW.skip (FW.seq (FW.region ?_))
     refine FL.v (E.move (v := v27) rfl) ?_
     refine FL.v (E.assign (v := v27) rfl) ?_
     refine FL.nil ?_
     refine FW.ret ?_
     obtain rfl := Option.some.inj hp
     exact ⟨.inr rfl, res1 rfl rfl ⟨_, _, _, _, _, rfl, ⟨(S38.selT (a := [.box b0 92 [v40, Value.int .i64 r33.2.at_, Value.int .u64 r33.2.seed], .row 3 1 v27 n28 cs29]) (l' := [.row 3 1 v27 n28 cs29, .box b0 92 [v40, Value.int .i64 r33.2.at_, Value.int .u64 r33.2.seed]]) [1, 0] (by decide) rfl), (i26.tr i39)⟩, (els30.mono (up_mono i39)), h41⟩⟩
   ·
    refine FW.condF rfl c103 ?_
    refine FW.skip (FW.seq (FW.region ?_))
    refine FL.v (E.move (v := v27) rfl) ?_
    refine FL.v (E.assign (v := v27) rfl) ?_
    refine FL.nil ?_
    refine FW.ret ?_
    obtain rfl := Option.some.inj hp
    exact ⟨.inr rfl, res1 rfl rfl ⟨_, _, _, _, _, rfl, ⟨(S38.selT (a := [.box b0 92 [v40, Value.int .i64 r33.2.at_, Value.int .u64 r33.2.seed], .row 3 1 v27 n28 cs29]) (l' := [.row 3 1 v27 n28 cs29, .box b0 92 [v40, Value.int .i64 r33.2.at_, Value.int .u64 r33.2.seed]]) [1, 0] (by decide) rfl), (i26.tr i39)⟩, (els30.mono (up_mono i39)), h41⟩⟩

@[reducible] def p_spec_l1Cur_cnf (H0 : GH) (w0 : World) (Ha : GH) (L : List MO) (b0 : Nat) (r : (Cnf × l1Cur)) : Ending → World → Prop :=
  fun e w' => ∃ H' : GH, ∃ v0_1 : Value, ∃ v0_0r : Value, e = .returned (Value.agg #[Value.int .i64 r.1.vars, v0_1]) ∧ (St H0 w0 H' w' (.box b0 92 [v0_0r, Value.int .i64 r.2.at_, Value.int .u64 r.2.seed] :: L) ∧ Inc Ha H') ∧ RSl (up w0.heap.size H') (eL eI 1) 1 v0_1 r.1.clauses ∧ RSl H' (eN .u8) 1 v0_0r r.2.code
set_option maxHeartbeats 4000000 in
theorem w_spec_l1Cur_cnf {H0 Ha : GH} {w0 wa : World} {L : List MO} {a0 : l1Cur} {b0 : Nat} {v0_0 : Value} (S0 : St H0 w0 Ha wa (.box b0 92 [v0_0, Value.int .i64 a0.at_, Value.int .u64 a0.seed] :: L)) (p0_0 : RSl Ha (eN .u8) 1 v0_0 a0.code) {r : (Cnf × l1Cur)} (hp : (PF.spec_l1Cur_cnf a0) = some r) :
    Calls Tryz.prog 67 #[Value.pointer (some (⟨b0, 0, none⟩ : Addr))] wa (p_spec_l1Cur_cnf H0 w0 Ha L b0 r) := by
  unfold PF.spec_l1Cur_cnf at hp
  refine calls_go (N := 76) (args := [Value.pointer (some (⟨b0, 0, none⟩ : Addr))]) Tryz.func67 rfl rfl rfl ?_
  refine FW.seq (FW.region ?_)
  obtain ⟨b21, w22, run23, S24⟩ := S0.alloc (P := Tryz.prog) 26 [Value.int .i64 0, Value.slice none 0 0] Tryz.zeroValue26 rfl (ones_cons rfl (ones_cons rfl ones_nil))
  refine FL.v (E.alloc run23) ?_
  refine FL.nil (FW.seq (FW.seq (FW.region ?_)))
  refine FL.v (E.move (v := Value.pointer (some (⟨b0, 0, none⟩ : Addr))) rfl) ?_
  obtain ⟨r25, hr26, hp⟩ := bnd hp
  have S27 : St H0 w0 Ha w22 (.box b0 92 [v0_0, Value.int .i64 a0.at_, Value.int .u64 a0.seed] :: .box b21 26 [Value.int .i64 0, Value.slice none 0 0] :: L) := S24.front 1 rfl rfl
  refine FL.call rfl rfl rfl (E.call Tryz.call68 (A2 rfl rfl)) (w_spec_l1Cur_one (L := (.box b21 26 [Value.int .i64 0, Value.slice none 0 0] :: L)) S27 (a0 := a0) p0_0 4 hr26) ?_
  rintro e w29 ⟨H28, v32, rfl, ⟨S30, i31⟩, h33⟩
  refine ⟨_, rfl, ?_⟩
  have S30 : St H0 w0 H28 w29 (.box b0 92 [v32, Value.int .i64 r25.2.at_, Value.int .u64 r25.2.seed] :: .box b21 26 [Value.int .i64 0, Value.slice none 0 0] :: L) := S30
  refine FL.nil ?_
  rcases ifB hp with ⟨c34, hp⟩ | ⟨c34, hp⟩
  ·
    refine FW.condT rfl c34 ?_
    refine FW.seq (FW.region ?_)
    refine FL.v (E.move (v := Value.pointer (some (⟨b0, 0, none⟩ : Addr))) rfl) ?_
    obtain ⟨r35, hr36, hp⟩ := bnd hp
    refine FL.call rfl rfl rfl (E.call Tryz.call132 (A1 rfl)) (w_spec_l1Cur_hard (L := (.box b21 26 [Value.int .i64 0, Value.slice none 0 0] :: L)) S30 (a0 := r25.2) h33 hr36) ?_
    rintro e w38 ⟨H37, v41, v43, rfl, ⟨S39, i40⟩, ⟨_, ⟨h42, _⟩⟩, h44⟩
    refine ⟨_, rfl, ?_⟩
    have S39 : St H0 w0 H37 w38 (.box b0 92 [v43, Value.int .i64 r35.2.at_, Value.int .u64 r35.2.seed] :: .box b21 26 [Value.int .i64 0, Value.slice none 0 0] :: L) := S39
    obtain ⟨w45, run46, S47⟩ := S39.store0 (P := Tryz.prog) (t := 26) (i := 1) (cs' := [Value.int .i64 r35.1.vars, v41]) (l' := (.box b0 92 [v43, Value.int .i64 r35.2.at_, Value.int .u64 r35.2.seed] :: .box b21 26 [Value.int .i64 r35.1.vars, v41] :: L)) (v := Value.agg #[Value.int .i64 r35.1.vars, v41]) (c := [Value.int .i64 r35.1.vars, v41]) rfl Tryz.sizeOf26 rfl rfl (ones_cons rfl (ones_cons h42.one ones_nil)) (Nat.le_of_ble_eq_true rfl) rfl rfl
    refine FL.act rfl rfl (E.store rfl rfl run46) ?_
    refine FL.nil ?_
    refine FW.ret ?_
    obtain rfl := Option.some.inj hp
    exact ⟨.inr rfl, resC rfl rfl (loadVar_A Tryz.isAgg26 Tryz.sizeOf26 (S47.box_now (i := 1) rfl) rfl) ⟨_, _, _, rfl, ⟨(S47.selT (a := [.box b0 92 [v43, Value.int .i64 r35.2.at_, Value.int .u64 r35.2.seed], .box b21 26 [Value.int .i64 r35.1.vars, v41]]) (l' := [.box b0 92 [v43, Value.int .i64 r35.2.at_, Value.int .u64 r35.2.seed]]) [0] (by decide) rfl), (i31.tr i40)⟩, h42, h44⟩⟩
  ·
    refine FW.condF rfl c34 ?_
    refine FW.skip (FW.seq (FW.region ?_))
    refine FL.v (E.move (v := Value.pointer (some (⟨b0, 0, none⟩ : Addr))) rfl) ?_
    obtain ⟨v48, w49, run50, S51⟩ := S30.buildSlice (P := Tryz.prog) te34 [Value.int .i64 2, Value.int .i64 3, Value.int .i64 3, Value.int .i64 4, Value.int .i64 5] (parts := #[(0, Value.int .i64 2), (1, Value.int .i64 3), (2, Value.int .i64 3), (3, Value.int .i64 4), (4, Value.int .i64 5)]) (cells := [Value.int .i64 2, Value.int .i64 3, Value.int .i64 3, Value.int .i64 4, Value.int .i64 5]) rfl (szs_cons rfl (szs_cons rfl (szs_cons rfl (szs_cons rfl (szs_cons rfl szs_nil))))) (fc_cons rfl (fc_cons rfl (fc_cons rfl (fc_cons rfl (fc_cons rfl fc_nil))))) (ones_cons rfl (ones_cons rfl (ones_cons rfl (ones_cons rfl (ones_cons rfl ones_nil))))) (Nat.le_of_ble_eq_true rfl)
    have els52 : Els (up w0.heap.size H28) eI 1 [Value.int .i64 2, Value.int .i64 3, Value.int .i64 3, Value.int .i64 4, Value.int .i64 5] [2, 3, 3, 4, 5] := (Els.snoc (H := (up w0.heap.size H28)) (E := eI) (k := 1) (c := [Value.int .i64 5]) (x := 5) (Els.snoc (H := (up w0.heap.size H28)) (E := eI) (k := 1) (c := [Value.int .i64 4]) (x := 4) (Els.snoc (H := (up w0.heap.size H28)) (E := eI) (k := 1) (c := [Value.int .i64 3]) (x := 3) (Els.snoc (H := (up w0.heap.size H28)) (E := eI) (k := 1) (c := [Value.int .i64 3]) (x := 3) (Els.snoc (H := (up w0.heap.size H28)) (E := eI) (k := 1) (c := [Value.int .i64 2]) (x := 2) Els.nil rfl rfl) rfl rfl) rfl rfl) rfl rfl) rfl rfl)
    refine FL.v (E.buildSlice (B5 rfl rfl rfl rfl rfl) run50) ?_
    obtain ⟨H53, S54, i55, h56, nv57⟩ := S51.sealRowU (i := 0) (l' := (.box b0 92 [v32, Value.int .i64 r25.2.at_, Value.int .u64 r25.2.seed] :: .box b21 26 [Value.int .i64 0, Value.slice none 0 0] :: L)) rfl els52 (by decide) rfl
    obtain ⟨r58, hr59, hp⟩ := bnd hp
    refine FL.call rfl rfl rfl (E.call Tryz.call69 (A2 rfl rfl)) (w_spec_l1Cur_among (L := (.box b21 26 [Value.int .i64 0, Value.slice none 0 0] :: L)) S54 (a0 := r25.2) (h33.mono i55) v48 [2, 3, 3, 4, 5] (h56.mono upI) hr59) ?_
    rintro e w61 ⟨H60, v64, rfl, ⟨S62, i63⟩, h65⟩
    refine ⟨_, rfl, ?_⟩
    have S62 : St H0 w0 H60 w61 (.box b0 92 [v64, Value.int .i64 r58.2.at_, Value.int .u64 r58.2.seed] :: .box b21 26 [Value.int .i64 0, Value.slice none 0 0] :: L) := S62
    obtain ⟨v66, w67, run68, S69⟩ := S62.buildSlice (P := Tryz.prog) te24 [] (parts := #[]) (cells := []) rfl szs_nil fc_nil ones_nil (Nat.le_of_ble_eq_true rfl)
    have els70 : Els (up w0.heap.size H60) (eL eI 1) 1 [] [] := Els.nil
    refine FL.v (E.buildSlice (B0) run68) ?_
    refine FL.v (E.build (B2 rfl rfl) (run_build _ 26 #[(0, Value.int .i64 r58.1), (1, v66)] #[Value.int .i64 r58.1, v66] (by obtain ⟨_, _, rfl⟩ := S69.row_ln (i := 0) rfl; rfl))) ?_
    obtain ⟨b71, w72, run73, S74⟩ := S69.alloc (P := Tryz.prog) 26 [Value.int .i64 0, Value.slice none 0 0] Tryz.zeroValue26 rfl (ones_cons rfl (ones_cons rfl ones_nil))
    refine FL.v (E.alloc run73) ?_
    obtain ⟨w75, run76, S77⟩ := S74.store0 (P := Tryz.prog) (t := 26) (i := 0) (cs' := [Value.int .i64 r58.1, v66]) (l' := (.box b71 26 [Value.int .i64 r58.1, v66] :: .row 34 1 v66 0 [] :: .box b0 92 [v64, Value.int .i64 r58.2.at_, Value.int .u64 r58.2.seed] :: .box b21 26 [Value.int .i64 0, Value.slice none 0 0] :: L)) (v := Value.agg #[Value.int .i64 r58.1, v66]) (c := [Value.int .i64 r58.1, v66]) rfl Tryz.sizeOf26 rfl rfl (ones_cons rfl (ones_cons (Ln.one (S74.row_ln (i := 1) rfl)) ones_nil)) (Nat.le_of_ble_eq_true rfl) rfl rfl
    refine FL.act rfl rfl (E.store rfl rfl run76) ?_
    refine FL.nil (FW.seq (FW.seq (FW.region ?_)))
    refine FL.v (E.move (v := Value.pointer (some (⟨b0, 0, none⟩ : Addr))) rfl) ?_
    obtain ⟨r78, hr79, hp⟩ := bnd hp
    have S80 : St H0 w0 H60 w75 (.box b0 92 [v64, Value.int .i64 r58.2.at_, Value.int .u64 r58.2.seed] :: .box b71 26 [Value.int .i64 r58.1, v66] :: .row 34 1 v66 0 [] :: .box b21 26 [Value.int .i64 0, Value.slice none 0 0] :: L) := S77.front 2 rfl rfl
    refine FL.call rfl rfl rfl (E.call Tryz.call70 (A2 rfl rfl)) (w_spec_l1Cur_pick (L := (.box b71 26 [Value.int .i64 r58.1, v66] :: .row 34 1 v66 0 [] :: .box b21 26 [Value.int .i64 0, Value.slice none 0 0] :: L)) S80 (a0 := r58.2) h65 10 hr79) ?_
    rintro e w82 ⟨H81, v85, rfl, ⟨S83, i84⟩, h86⟩
    refine ⟨_, rfl, ?_⟩
    have S83 : St H0 w0 H81 w82 (.box b0 92 [v85, Value.int .i64 r78.2.at_, Value.int .u64 r78.2.seed] :: .box b71 26 [Value.int .i64 r58.1, v66] :: .row 34 1 v66 0 [] :: .box b21 26 [Value.int .i64 0, Value.slice none 0 0] :: L) := S83
    refine FL.v (E.assign (v := Value.int .i64 r78.1) rfl) ?_
    refine FL.nil ?_
    obtain ⟨q87, hq, hp⟩ := bndR hp
    refine FW.block ?_
    refine FW.mono (FW.iter (S := ((List (List Int)) × (List Int) × Int × Int × Int × Int)) (X := Empty) (fun (s87 : ((List (List Int)) × (List Int) × Int × Int × Int × Int)) f w => ∃ H : GH, ∃ v88 : Value, ∃ n89 : Nat, ∃ cs90 : List Value, ∃ v93 : Value, St H0 w0 H w (.box b0 92 [v93, Value.int .i64 s87.2.2.1, Value.int .u64 s87.2.2.2.1] :: .box b71 26 [Value.int .i64 s87.2.2.2.2.1, v88] :: .row 34 1 v88 n89 cs90 :: .box b21 26 [Value.int .i64 0, Value.slice none 0 0] :: L) ∧ Inc H81 H ∧ Els (up w0.heap.size H) (eL eI 1) 1 cs90 s87.1 ∧ RSl H (eN .u8) 1 v93 s87.2.1 ∧ (bl cs90).Nodup ∧ f 0 = Value.pointer (some (⟨b0, 0, none⟩ : Addr)) ∧ f 2 = Value.pointer (some (⟨b21, 0, none⟩ : Addr)) ∧ f 3 = Value.pointer (some (⟨b71, 0, none⟩ : Addr)) ∧ f 4 = Value.int .i64 s87.2.2.2.2.2) (fun (q : Rs ((List (List Int)) × (List Int) × Int × Int × Int × Int) Empty) e f w => match q with | .go s87 => e = Exit.exit 0 ∧ (∃ H : GH, ∃ v88 : Value, ∃ n89 : Nat, ∃ cs90 : List Value, ∃ v93 : Value, St H0 w0 H w (.box b0 92 [v93, Value.int .i64 s87.2.2.1, Value.int .u64 s87.2.2.2.1] :: .box b71 26 [Value.int .i64 s87.2.2.2.2.1, v88] :: .row 34 1 v88 n89 cs90 :: .box b21 26 [Value.int .i64 0, Value.slice none 0 0] :: L) ∧ Inc H81 H ∧ Els (up w0.heap.size H) (eL eI 1) 1 cs90 s87.1 ∧ RSl H (eN .u8) 1 v93 s87.2.1 ∧ (bl cs90).Nodup ∧ f 0 = Value.pointer (some (⟨b0, 0, none⟩ : Addr)) ∧ f 2 = Value.pointer (some (⟨b21, 0, none⟩ : Addr)) ∧ f 3 = Value.pointer (some (⟨b71, 0, none⟩ : Addr))) | .rt x => x.elim) hq ⟨_, _, _, _, _, S83, (Inc.rfl _), (els70.mono (up_mono i84)), h86, (show (bl []).Nodup from List.nodup_nil), rfl, rfl, rfl, rfl⟩ ?_) ?_
    ·
      clear hp hq
      rintro s87 f99 w98 ⟨H95, v88, n89, cs90, v93, S96, i97, els91, h94, nd92, k100, k101, k102, k103⟩ o162 hp
      refine FW.seq (FW.seq (FW.region ?_))
      refine FL.v (E.move k103) ?_
      refine FL.v (E.gtr rfl rfl) ?_
      refine FL.nil ?_
      rcases ifB hp with ⟨c104, hp⟩ | ⟨c104, hp⟩
      ·
        refine FW.condT rfl c104 ?_
        refine FW.skip (FW.seq (FW.block ?_))
        obtain ⟨r108, hr109, hp⟩ := bnd hp
        obtain ⟨xs131, hz132, hp⟩ := bnd hp
        refine FW.drawB (Sl H95) (fun f w => ∃ H : GH, ∃ v146 : Value, ∃ n147 : Nat, ∃ cs148 : List Value, ∃ v151 : Value, St H0 w0 H w (.box b0 92 [v151, Value.int .i64 r108.2.at_, Value.int .u64 r108.2.seed] :: .box b71 26 [Value.int .i64 s87.2.2.2.2.1, v146] :: .row 34 1 v146 n147 cs148 :: .box b21 26 [Value.int .i64 0, Value.slice none 0 0] :: L) ∧ Inc H95 H ∧ Els (up w0.heap.size H) (eL eI 1) 1 cs148 xs131 ∧ RSl H (eN .u8) 1 v151 r108.2.code ∧ (bl cs148).Nodup ∧ f 0 = Value.pointer (some (⟨b0, 0, none⟩ : Addr)) ∧ f 2 = Value.pointer (some (⟨b21, 0, none⟩ : Addr)) ∧ f 3 = Value.pointer (some (⟨b71, 0, none⟩ : Addr)) ∧ f 4 = Value.int .i64 s87.2.2.2.2.2) (by kernel_rfl) S96.sl ?_ ?_
        ·
          intro w105 r106
          have S107 := S96.call r106
          refine FB.phase [] (fun w => WAt w (Addr.add ⟨b71, 0, none⟩ 0) [Value.int .i64 s87.2.2.2.2.1]) ?_
          refine FB.phase [9] (fun w => WAt w (Addr.add ⟨b71, 0, none⟩ 1) [v88]) ?_
          refine FB.t (i := 0) (bs 10 1) rfl (SP.on ((S107.box_now (i := 1) rfl).sub (j := 1) (n := 1) (c := [v88]) rfl) (SP.on ((S107.box_now (i := 1) rfl).sub (j := 0) (n := 1) (c := [Value.int .i64 s87.2.2.2.2.1]) rfl) (SP.nil S107.sl))) rfl (fun w' hw' => (E.fieldAddr tf26_1 k102)) ?_
          refine FB.p (i := 1) (bs 10 3) 0 [7, 8, 9] rfl (SP.on ((S107.box_now (i := 1) rfl).sub (j := 1) (n := 1) (c := [v88]) rfl) (SP.on ((S107.box_now (i := 1) rfl).sub (j := 0) (n := 1) (c := [Value.int .i64 s87.2.2.2.2.1]) rfl) (SP.nil S107.sl))) rfl rfl (fun w' hw' => (E.load rfl (run_load0 Tryz.isAgg24 hw' rfl))) ?_
          refine FB.t (i := 2) (bs 10 7) rfl (SP.on ((S107.box_now (i := 1) rfl).sub (j := 1) (n := 1) (c := [v88]) rfl) (SP.on ((S107.box_now (i := 1) rfl).sub (j := 0) (n := 1) (c := [Value.int .i64 s87.2.2.2.2.1]) rfl) (SP.nil S107.sl))) rfl (fun w' hw' => (E.move k100)) ?_
          refine FB.t (i := 3) (bs 10 15) rfl (SP.on ((S107.box_now (i := 1) rfl).sub (j := 1) (n := 1) (c := [v88]) rfl) (SP.on ((S107.box_now (i := 1) rfl).sub (j := 0) (n := 1) (c := [Value.int .i64 s87.2.2.2.2.1]) rfl) (SP.nil S107.sl))) rfl (fun w' hw' => (E.fieldAddr tf26_0 k102)) ?_
          refine FB.p (i := 4) (bs 10 31) 1 [5, 6, 7, 8, 9] rfl (SP.on ((S107.box_now (i := 1) rfl).sub (j := 1) (n := 1) (c := [v88]) rfl) (SP.on ((S107.box_now (i := 1) rfl).sub (j := 0) (n := 1) (c := [Value.int .i64 s87.2.2.2.2.1]) rfl) (SP.nil S107.sl))) rfl rfl (fun w' hw' => (E.load rfl (run_load0 Tryz.isAgg3 hw' rfl))) ?_
          refine FB.all1 (i := 5) (by kernel_rfl) ?_
          ·
            refine FC.call (l' := (bs 10 63)) rfl (by kernel_rfl) rfl rfl rfl (E.call Tryz.call166 (A2 rfl rfl)) (w_spec_l1Cur_clause (L := (.box b71 26 [Value.int .i64 s87.2.2.2.2.1, v88] :: .row 34 1 v88 n89 cs90 :: .box b21 26 [Value.int .i64 0, Value.slice none 0 0] :: L)) S107 (a0 := (l1Cur.mk s87.2.1 s87.2.2.1 s87.2.2.2.1)) h94 s87.2.2.2.2.1 hr109) ?_
            rintro e w111 ⟨H110, v114, n115, cs116, v118, rfl, ⟨S112, i113⟩, els117, h119⟩
            refine ⟨_, rfl, ?_⟩
            have S112 : St H0 w0 H110 w111 (.row 3 1 v114 n115 cs116 :: .box b0 92 [v118, Value.int .i64 r108.2.at_, Value.int .u64 r108.2.seed] :: .box b71 26 [Value.int .i64 s87.2.2.2.2.1, v88] :: .row 34 1 v88 n89 cs90 :: .box b21 26 [Value.int .i64 0, Value.slice none 0 0] :: L) := S112
            refine ⟨(SP.on ((S112.box_now (i := 2) rfl).sub (j := 1) (n := 1) (c := [v88]) rfl) (SP.on ((S112.box_now (i := 2) rfl).sub (j := 0) (n := 1) (c := [Value.int .i64 s87.2.2.2.2.1]) rfl) (SP.nil (Sl.of_inc i113 S112.sl)))), ?_⟩
            refine FB.all1 (i := 6) (by kernel_rfl) ?_
            ·
              obtain ⟨H120, S121, i122, h123, nv124⟩ := S112.sealRowU (i := 0) (l' := (.box b0 92 [v118, Value.int .i64 r108.2.at_, Value.int .u64 r108.2.seed] :: .box b71 26 [Value.int .i64 s87.2.2.2.2.1, v88] :: .row 34 1 v88 n89 cs90 :: .box b21 26 [Value.int .i64 0, Value.slice none 0 0] :: L)) rfl els117 (by decide) rfl
              obtain ⟨v125, w126, run127, S128⟩ := S121.buildSlice (P := Tryz.prog) te24 [v114] (parts := #[(0, v114)]) (cells := [v114]) rfl (szs_cons (cells_size h123.cells) szs_nil) (fc_cons h123.cells fc_nil) (ones_cons h123.one ones_nil) (Nat.le_of_ble_eq_true rfl)
              have els129 : Els (up w0.heap.size H120) (eL eI 1) 1 [v114] [r108.1] := (Els.snoc (H := (up w0.heap.size H120)) (E := (eL eI 1)) (k := 1) (c := [v114]) (x := r108.1) Els.nil rfl ⟨_, rfl, h123⟩)
              have nd130 : (bl [v114]).Nodup := by exact nd_one v114
              refine FC.val (l' := (bs 10 127)) rfl (by kernel_rfl) rfl rfl rfl (E.buildSlice (B1 rfl) run127) ?_
              refine ⟨(SP.on ((S128.box_now (i := 2) rfl).sub (j := 1) (n := 1) (c := [v88]) rfl) (SP.on ((S128.box_now (i := 2) rfl).sub (j := 0) (n := 1) (c := [Value.int .i64 s87.2.2.2.2.1]) rfl) (SP.nil (Sl.of_inc (i113.tr i122) S128.sl)))), ?_⟩
              refine FB.all1 (i := 7) (by kernel_rfl) ?_
              ·
                obtain ⟨v133, w136, n134, cs135, run137, S138, els139, ce140⟩ := S128.appendO (P := Tryz.prog) te24 (i := 3) (j := 0) rfl (els91.mono (up_mono (i113.tr i122))) rfl els129 hz132
                have S138 : St H0 w0 H120 w136 (.row 34 1 v125 1 [v114] :: .box b0 92 [v118, Value.int .i64 r108.2.at_, Value.int .u64 r108.2.seed] :: .box b71 26 [Value.int .i64 s87.2.2.2.2.1, v88] :: .row 34 1 v133 n134 cs135 :: .box b21 26 [Value.int .i64 0, Value.slice none 0 0] :: L) := S138
                have nd141 : (bl cs135).Nodup := by rw [ce140]; exact nd_app nd92 nd130 (Els.dom (els91.mono (upI.tr i113))) (by exact nv124)
                have S142 : St H0 w0 H120 w136 (.box b0 92 [v118, Value.int .i64 r108.2.at_, Value.int .u64 r108.2.seed] :: .box b71 26 [Value.int .i64 s87.2.2.2.2.1, v88] :: .row 34 1 v133 n134 cs135 :: .box b21 26 [Value.int .i64 0, Value.slice none 0 0] :: L) := S138.drop 0
                refine FC.val (l' := (bs 10 255)) rfl (by kernel_rfl) rfl rfl rfl (E.append rfl rfl run137) ?_
                refine ⟨(SP.on ((S142.box_now (i := 1) rfl).sub (j := 1) (n := 1) (c := [v88]) rfl) (SP.on ((S142.box_now (i := 1) rfl).sub (j := 0) (n := 1) (c := [Value.int .i64 s87.2.2.2.2.1]) rfl) (SP.nil (Sl.of_inc (i113.tr i122) S142.sl)))), ?_⟩
                refine FB.t (i := 8) (bs 10 511) rfl (SP.on ((S142.box_now (i := 1) rfl).sub (j := 1) (n := 1) (c := [v88]) rfl) (SP.on ((S142.box_now (i := 1) rfl).sub (j := 0) (n := 1) (c := [Value.int .i64 s87.2.2.2.2.1]) rfl) (SP.nil (Sl.of_inc (i113.tr i122) S142.sl)))) rfl (fun w' hw' => (E.fieldAddr tf26_1 k102)) ?_
                refine FB.all1 (i := 9) (by kernel_rfl) ?_
                ·
                  obtain ⟨w143, run144, S145⟩ := S142.store (P := Tryz.prog) (t := 24) (i := 1) (j := 1) (cs' := [Value.int .i64 s87.2.2.2.2.1, v133]) (l' := (.box b0 92 [v118, Value.int .i64 r108.2.at_, Value.int .u64 r108.2.seed] :: .box b71 26 [Value.int .i64 s87.2.2.2.2.1, v133] :: .row 34 1 v133 n134 cs135 :: .box b21 26 [Value.int .i64 0, Value.slice none 0 0] :: L)) (v := v133) (c := [v133]) rfl Tryz.sizeOf24 (Ln.cells (S142.row_ln (i := 2) rfl)) rfl (ones_cons (Ln.one (S142.row_ln (i := 2) rfl)) ones_nil) (Nat.le_of_ble_eq_true rfl) rfl rfl
                  refine FC.act (l' := (bs 10 1023)) rfl (by kernel_rfl) rfl rfl (E.store rfl rfl run144) ?_
                  refine ⟨(SP.o (SP.on ((S145.box_now (i := 1) rfl).sub (j := 0) (n := 1) (c := [Value.int .i64 s87.2.2.2.2.1]) rfl) (SP.nil (Sl.of_inc (i113.tr i122) S145.sl)))), ?_⟩
                  exact FB.done (by kernel_rfl) ⟨_, _, _, _, _, S145, (i113.tr i122), els139, (h119.mono i122), nd141, k100, k101, k102, k103⟩
        ·
          rintro f157 w156 ⟨H153, v146, n147, cs148, v151, S154, i155, els149, h152, nd150, k158, k159, k160, k161⟩
          refine FW.region ?_
          refine FL.v (E.move k161) ?_
          refine FL.v (E.sub rfl rfl) ?_
          refine FL.v (E.assign (v := Value.int .i64 (wr (s87.2.2.2.2.2 - 1))) rfl) ?_
          refine FL.nil ?_
          obtain rfl := Option.some.inj hp
          exact ⟨rfl, ⟨_, _, _, _, _, S154, (i97.tr i155), els149, h152, nd150, k158, k159, k160, rfl⟩⟩
      ·
        refine FW.condF rfl c104 ?_
        refine FW.exit ?_
        obtain rfl := Option.some.inj hp
        exact ⟨nofun, rfl, ⟨_, _, _, _, _, S96, i97, els91, h94, nd92, k100, k101, k102⟩⟩
    ·
      clear hq
      intro e f167 w166 hD
      rcases q87 with s87 | x87
      ·
        obtain ⟨rfl, hD⟩ := hD
        obtain ⟨H163, v88, n89, cs90, v93, S164, i165, els91, h94, nd92, k168, k169, k170⟩ := hD
        replace hp := el_go hp
        refine FW.seq (FW.seq (FW.region ?_))
        refine FL.v (E.move k168) ?_
        obtain ⟨r171, hr172, hp⟩ := bnd hp
        refine FL.call rfl rfl rfl (E.call Tryz.call70 (A2 rfl rfl)) (w_spec_l1Cur_pick (L := (.box b71 26 [Value.int .i64 s87.2.2.2.2.1, v88] :: .row 34 1 v88 n89 cs90 :: .box b21 26 [Value.int .i64 0, Value.slice none 0 0] :: L)) S164 (a0 := (l1Cur.mk s87.2.1 s87.2.2.1 s87.2.2.2.1)) h94 40 hr172) ?_
        rintro e w174 ⟨H173, v177, rfl, ⟨S175, i176⟩, h178⟩
        refine ⟨_, rfl, ?_⟩
        have S175 : St H0 w0 H173 w174 (.box b0 92 [v177, Value.int .i64 r171.2.at_, Value.int .u64 r171.2.seed] :: .box b71 26 [Value.int .i64 s87.2.2.2.2.1, v88] :: .row 34 1 v88 n89 cs90 :: .box b21 26 [Value.int .i64 0, Value.slice none 0 0] :: L) := S175
        refine FL.nil (FW.block (FW.seq (FW.region ?_)))
        refine FL.v (E.eql rfl rfl) ?_
        refine FL.v (E.assign (v := Value.bool (r171.1 == 0)) rfl) ?_
        refine FL.nil ?_
        rcases ifB hp with ⟨c179, hp⟩ | ⟨c179, hp⟩
        ·
          refine FW.condT rfl c179 ?_
          refine FW.region ?_
          refine FL.v (E.move k168) ?_
          obtain ⟨v180, w181, run182, S183⟩ := S175.buildSlice (P := Tryz.prog) te34 [Value.int .i64 (-1), Value.int .i64 13, Value.int .i64 12, Value.int .i64 0, Value.int .i64 1] (parts := #[(0, Value.int .i64 (-1)), (1, Value.int .i64 13), (2, Value.int .i64 12), (3, Value.int .i64 0), (4, Value.int .i64 1)]) (cells := [Value.int .i64 (-1), Value.int .i64 13, Value.int .i64 12, Value.int .i64 0, Value.int .i64 1]) rfl (szs_cons rfl (szs_cons rfl (szs_cons rfl (szs_cons rfl (szs_cons rfl szs_nil))))) (fc_cons rfl (fc_cons rfl (fc_cons rfl (fc_cons rfl (fc_cons rfl fc_nil))))) (ones_cons rfl (ones_cons rfl (ones_cons rfl (ones_cons rfl (ones_cons rfl ones_nil))))) (Nat.le_of_ble_eq_true rfl)
          have els184 : Els (up w0.heap.size H173) eI 1 [Value.int .i64 (-1), Value.int .i64 13, Value.int .i64 12, Value.int .i64 0, Value.int .i64 1] [(-1), 13, 12, 0, 1] := (Els.snoc (H := (up w0.heap.size H173)) (E := eI) (k := 1) (c := [Value.int .i64 1]) (x := 1) (Els.snoc (H := (up w0.heap.size H173)) (E := eI) (k := 1) (c := [Value.int .i64 0]) (x := 0) (Els.snoc (H := (up w0.heap.size H173)) (E := eI) (k := 1) (c := [Value.int .i64 12]) (x := 12) (Els.snoc (H := (up w0.heap.size H173)) (E := eI) (k := 1) (c := [Value.int .i64 13]) (x := 13) (Els.snoc (H := (up w0.heap.size H173)) (E := eI) (k := 1) (c := [Value.int .i64 (-1)]) (x := (-1)) Els.nil rfl rfl) rfl rfl) rfl rfl) rfl rfl) rfl rfl)
          refine FL.v (E.buildSlice (B5 rfl rfl rfl rfl rfl) run182) ?_
          obtain ⟨H185, S186, i187, h188, nv189⟩ := S183.sealRowU (i := 0) (l' := (.box b0 92 [v177, Value.int .i64 r171.2.at_, Value.int .u64 r171.2.seed] :: .box b71 26 [Value.int .i64 s87.2.2.2.2.1, v88] :: .row 34 1 v88 n89 cs90 :: .box b21 26 [Value.int .i64 0, Value.slice none 0 0] :: L)) rfl els184 (by decide) rfl
          obtain ⟨r190, hr191, hp⟩ := bnd hp
          refine FL.call rfl rfl rfl (E.call Tryz.call69 (A2 rfl rfl)) (w_spec_l1Cur_among (L := (.box b71 26 [Value.int .i64 s87.2.2.2.2.1, v88] :: .row 34 1 v88 n89 cs90 :: .box b21 26 [Value.int .i64 0, Value.slice none 0 0] :: L)) S186 (a0 := r171.2) (h178.mono i187) v180 [(-1), 13, 12, 0, 1] (h188.mono upI) hr191) ?_
          rintro e w193 ⟨H192, v196, rfl, ⟨S194, i195⟩, h197⟩
          refine ⟨_, rfl, ?_⟩
          have S194 : St H0 w0 H192 w193 (.box b0 92 [v196, Value.int .i64 r190.2.at_, Value.int .u64 r190.2.seed] :: .box b71 26 [Value.int .i64 s87.2.2.2.2.1, v88] :: .row 34 1 v88 n89 cs90 :: .box b21 26 [Value.int .i64 0, Value.slice none 0 0] :: L) := S194
          refine FL.v (E.fieldAddr tf26_0 k170) ?_
          obtain ⟨w198, run199, S200⟩ := S194.store (P := Tryz.prog) (t := 3) (i := 1) (j := 0) (cs' := [Value.int .i64 r190.1, v88]) (l' := (.box b0 92 [v196, Value.int .i64 r190.2.at_, Value.int .u64 r190.2.seed] :: .box b71 26 [Value.int .i64 r190.1, v88] :: .row 34 1 v88 n89 cs90 :: .box b21 26 [Value.int .i64 0, Value.slice none 0 0] :: L)) (v := Value.int .i64 r190.1) (c := [Value.int .i64 r190.1]) rfl Tryz.sizeOf3 rfl rfl (ones_cons rfl ones_nil) (Nat.le_of_ble_eq_true rfl) rfl rfl
          refine FL.act rfl rfl (E.store rfl rfl run199) ?_
          refine FL.nil (FW.seq (FW.region ?_))
          refine FL.v (E.load k170 (run_loadA Tryz.isAgg26 Tryz.sizeOf26 (S200.box_now (i := 1) rfl) rfl)) ?_
          obtain ⟨w201, run202, S203⟩ := S200.store0 (P := Tryz.prog) (t := 26) (i := 3) (cs' := [Value.int .i64 r190.1, v88]) (l' := (.box b0 92 [v196, Value.int .i64 r190.2.at_, Value.int .u64 r190.2.seed] :: .box b71 26 [Value.int .i64 r190.1, v88] :: .row 34 1 v88 n89 cs90 :: .box b21 26 [Value.int .i64 r190.1, v88] :: L)) (v := Value.agg #[Value.int .i64 r190.1, v88]) (c := [Value.int .i64 r190.1, v88]) rfl Tryz.sizeOf26 rfl rfl (ones_cons rfl (ones_cons (Ln.one (S200.row_ln (i := 2) rfl)) ones_nil)) (Nat.le_of_ble_eq_true rfl) rfl rfl
          refine FL.act rfl rfl (E.store k169 rfl run202) ?_
          refine FL.nil ?_
          refine FW.ret ?_
          obtain ⟨H204, S205, i206, ns209, nv208⟩ := S203.sealRowN (i := 2) (l' := (.box b0 92 [v196, Value.int .i64 r190.2.at_, Value.int .u64 r190.2.seed] :: .box b71 26 [Value.int .i64 r190.1, v88] :: .box b21 26 [Value.int .i64 r190.1, v88] :: L)) rfl (els91.mono (up_mono ((i176.tr i187).tr i195))) nd92 (by decide) rfl
          have h207 := ns209.rsl
          obtain rfl := Option.some.inj hp
          exact ⟨.inr rfl, resC rfl k169 (loadVar_A Tryz.isAgg26 Tryz.sizeOf26 (S205.box_now (i := 2) rfl) rfl) ⟨_, _, _, rfl, ⟨(S205.selT (a := [.box b0 92 [v196, Value.int .i64 r190.2.at_, Value.int .u64 r190.2.seed], .box b71 26 [Value.int .i64 r190.1, v88], .box b21 26 [Value.int .i64 r190.1, v88]]) (l' := [.box b0 92 [v196, Value.int .i64 r190.2.at_, Value.int .u64 r190.2.seed]]) [0] (by decide) rfl), ((((((((i31.tr i55).tr i63).tr i84).tr i165).tr i176).tr i187).tr i195).tr i206)⟩, h207, (h197.mono i206)⟩⟩
        ·
          refine FW.condF rfl c179 ?_
          refine FW.seq (FW.region ?_)
          refine FL.v (E.eql rfl rfl) ?_
          refine FL.v (E.assign (v := Value.bool (r171.1 == 1)) rfl) ?_
          refine FL.nil ?_
          rcases ifB hp with ⟨c210, hp⟩ | ⟨c210, hp⟩
          ·
            refine FW.condT rfl c210 ?_
            obtain ⟨r214, hr215, hp⟩ := bnd hp
            obtain ⟨xs237, hz238, hp⟩ := bnd hp
            refine FW.drawB (Sl H173) (fun f w => ∃ H : GH, ∃ v252 : Value, ∃ n253 : Nat, ∃ cs254 : List Value, ∃ v257 : Value, St H0 w0 H w (.box b0 92 [v257, Value.int .i64 r214.2.at_, Value.int .u64 r214.2.seed] :: .box b71 26 [Value.int .i64 s87.2.2.2.2.1, v252] :: .row 34 1 v252 n253 cs254 :: .box b21 26 [Value.int .i64 0, Value.slice none 0 0] :: L) ∧ Inc H173 H ∧ Els (up w0.heap.size H) (eL eI 1) 1 cs254 xs237 ∧ RSl H (eN .u8) 1 v257 r214.2.code ∧ (bl cs254).Nodup ∧ f 2 = Value.pointer (some (⟨b21, 0, none⟩ : Addr)) ∧ f 3 = Value.pointer (some (⟨b71, 0, none⟩ : Addr))) (by kernel_rfl) S175.sl ?_ ?_
            ·
              intro w211 r212
              have S213 := S175.call r212
              refine FB.phase [] (fun w => WAt w (Addr.add ⟨b71, 0, none⟩ 0) [Value.int .i64 s87.2.2.2.2.1]) ?_
              refine FB.phase [9] (fun w => WAt w (Addr.add ⟨b71, 0, none⟩ 1) [v88]) ?_
              refine FB.t (i := 0) (bs 10 1) rfl (SP.on ((S213.box_now (i := 1) rfl).sub (j := 1) (n := 1) (c := [v88]) rfl) (SP.on ((S213.box_now (i := 1) rfl).sub (j := 0) (n := 1) (c := [Value.int .i64 s87.2.2.2.2.1]) rfl) (SP.nil S213.sl))) rfl (fun w' hw' => (E.fieldAddr tf26_1 k170)) ?_
              refine FB.p (i := 1) (bs 10 3) 0 [7, 8, 9] rfl (SP.on ((S213.box_now (i := 1) rfl).sub (j := 1) (n := 1) (c := [v88]) rfl) (SP.on ((S213.box_now (i := 1) rfl).sub (j := 0) (n := 1) (c := [Value.int .i64 s87.2.2.2.2.1]) rfl) (SP.nil S213.sl))) rfl rfl (fun w' hw' => (E.load rfl (run_load0 Tryz.isAgg24 hw' rfl))) ?_
              refine FB.t (i := 2) (bs 10 7) rfl (SP.on ((S213.box_now (i := 1) rfl).sub (j := 1) (n := 1) (c := [v88]) rfl) (SP.on ((S213.box_now (i := 1) rfl).sub (j := 0) (n := 1) (c := [Value.int .i64 s87.2.2.2.2.1]) rfl) (SP.nil S213.sl))) rfl (fun w' hw' => (E.move k168)) ?_
              refine FB.t (i := 3) (bs 10 15) rfl (SP.on ((S213.box_now (i := 1) rfl).sub (j := 1) (n := 1) (c := [v88]) rfl) (SP.on ((S213.box_now (i := 1) rfl).sub (j := 0) (n := 1) (c := [Value.int .i64 s87.2.2.2.2.1]) rfl) (SP.nil S213.sl))) rfl (fun w' hw' => (E.fieldAddr tf26_0 k170)) ?_
              refine FB.p (i := 4) (bs 10 31) 1 [5, 6, 7, 8, 9] rfl (SP.on ((S213.box_now (i := 1) rfl).sub (j := 1) (n := 1) (c := [v88]) rfl) (SP.on ((S213.box_now (i := 1) rfl).sub (j := 0) (n := 1) (c := [Value.int .i64 s87.2.2.2.2.1]) rfl) (SP.nil S213.sl))) rfl rfl (fun w' hw' => (E.load rfl (run_load0 Tryz.isAgg3 hw' rfl))) ?_
              refine FB.all1 (i := 5) (by kernel_rfl) ?_
              ·
                refine FC.call (l' := (bs 10 63)) rfl (by kernel_rfl) rfl rfl rfl (E.call Tryz.call167 (A2 rfl rfl)) (w_spec_l1Cur_anyClause (L := (.box b71 26 [Value.int .i64 s87.2.2.2.2.1, v88] :: .row 34 1 v88 n89 cs90 :: .box b21 26 [Value.int .i64 0, Value.slice none 0 0] :: L)) S213 (a0 := r171.2) h178 s87.2.2.2.2.1 hr215) ?_
                rintro e w217 ⟨H216, v220, n221, cs222, v224, rfl, ⟨S218, i219⟩, els223, h225⟩
                refine ⟨_, rfl, ?_⟩
                have S218 : St H0 w0 H216 w217 (.row 3 1 v220 n221 cs222 :: .box b0 92 [v224, Value.int .i64 r214.2.at_, Value.int .u64 r214.2.seed] :: .box b71 26 [Value.int .i64 s87.2.2.2.2.1, v88] :: .row 34 1 v88 n89 cs90 :: .box b21 26 [Value.int .i64 0, Value.slice none 0 0] :: L) := S218
                refine ⟨(SP.on ((S218.box_now (i := 2) rfl).sub (j := 1) (n := 1) (c := [v88]) rfl) (SP.on ((S218.box_now (i := 2) rfl).sub (j := 0) (n := 1) (c := [Value.int .i64 s87.2.2.2.2.1]) rfl) (SP.nil (Sl.of_inc i219 S218.sl)))), ?_⟩
                refine FB.all1 (i := 6) (by kernel_rfl) ?_
                ·
                  obtain ⟨H226, S227, i228, h229, nv230⟩ := S218.sealRowU (i := 0) (l' := (.box b0 92 [v224, Value.int .i64 r214.2.at_, Value.int .u64 r214.2.seed] :: .box b71 26 [Value.int .i64 s87.2.2.2.2.1, v88] :: .row 34 1 v88 n89 cs90 :: .box b21 26 [Value.int .i64 0, Value.slice none 0 0] :: L)) rfl els223 (by decide) rfl
                  obtain ⟨v231, w232, run233, S234⟩ := S227.buildSlice (P := Tryz.prog) te24 [v220] (parts := #[(0, v220)]) (cells := [v220]) rfl (szs_cons (cells_size h229.cells) szs_nil) (fc_cons h229.cells fc_nil) (ones_cons h229.one ones_nil) (Nat.le_of_ble_eq_true rfl)
                  have els235 : Els (up w0.heap.size H226) (eL eI 1) 1 [v220] [r214.1] := (Els.snoc (H := (up w0.heap.size H226)) (E := (eL eI 1)) (k := 1) (c := [v220]) (x := r214.1) Els.nil rfl ⟨_, rfl, h229⟩)
                  have nd236 : (bl [v220]).Nodup := by exact nd_one v220
                  refine FC.val (l' := (bs 10 127)) rfl (by kernel_rfl) rfl rfl rfl (E.buildSlice (B1 rfl) run233) ?_
                  refine ⟨(SP.on ((S234.box_now (i := 2) rfl).sub (j := 1) (n := 1) (c := [v88]) rfl) (SP.on ((S234.box_now (i := 2) rfl).sub (j := 0) (n := 1) (c := [Value.int .i64 s87.2.2.2.2.1]) rfl) (SP.nil (Sl.of_inc (i219.tr i228) S234.sl)))), ?_⟩
                  refine FB.all1 (i := 7) (by kernel_rfl) ?_
                  ·
                    obtain ⟨v239, w242, n240, cs241, run243, S244, els245, ce246⟩ := S234.appendO (P := Tryz.prog) te24 (i := 3) (j := 0) rfl (els91.mono (up_mono ((i176.tr i219).tr i228))) rfl els235 hz238
                    have S244 : St H0 w0 H226 w242 (.row 34 1 v231 1 [v220] :: .box b0 92 [v224, Value.int .i64 r214.2.at_, Value.int .u64 r214.2.seed] :: .box b71 26 [Value.int .i64 s87.2.2.2.2.1, v88] :: .row 34 1 v239 n240 cs241 :: .box b21 26 [Value.int .i64 0, Value.slice none 0 0] :: L) := S244
                    have nd247 : (bl cs241).Nodup := by rw [ce246]; exact nd_app nd92 nd236 (Els.dom (els91.mono (upI.tr (i176.tr i219)))) (by exact nv230)
                    have S248 : St H0 w0 H226 w242 (.box b0 92 [v224, Value.int .i64 r214.2.at_, Value.int .u64 r214.2.seed] :: .box b71 26 [Value.int .i64 s87.2.2.2.2.1, v88] :: .row 34 1 v239 n240 cs241 :: .box b21 26 [Value.int .i64 0, Value.slice none 0 0] :: L) := S244.drop 0
                    refine FC.val (l' := (bs 10 255)) rfl (by kernel_rfl) rfl rfl rfl (E.append rfl rfl run243) ?_
                    refine ⟨(SP.on ((S248.box_now (i := 1) rfl).sub (j := 1) (n := 1) (c := [v88]) rfl) (SP.on ((S248.box_now (i := 1) rfl).sub (j := 0) (n := 1) (c := [Value.int .i64 s87.2.2.2.2.1]) rfl) (SP.nil (Sl.of_inc (i219.tr i228) S248.sl)))), ?_⟩
                    refine FB.t (i := 8) (bs 10 511) rfl (SP.on ((S248.box_now (i := 1) rfl).sub (j := 1) (n := 1) (c := [v88]) rfl) (SP.on ((S248.box_now (i := 1) rfl).sub (j := 0) (n := 1) (c := [Value.int .i64 s87.2.2.2.2.1]) rfl) (SP.nil (Sl.of_inc (i219.tr i228) S248.sl)))) rfl (fun w' hw' => (E.fieldAddr tf26_1 k170)) ?_
                    refine FB.all1 (i := 9) (by kernel_rfl) ?_
                    ·
                      obtain ⟨w249, run250, S251⟩ := S248.store (P := Tryz.prog) (t := 24) (i := 1) (j := 1) (cs' := [Value.int .i64 s87.2.2.2.2.1, v239]) (l' := (.box b0 92 [v224, Value.int .i64 r214.2.at_, Value.int .u64 r214.2.seed] :: .box b71 26 [Value.int .i64 s87.2.2.2.2.1, v239] :: .row 34 1 v239 n240 cs241 :: .box b21 26 [Value.int .i64 0, Value.slice none 0 0] :: L)) (v := v239) (c := [v239]) rfl Tryz.sizeOf24 (Ln.cells (S248.row_ln (i := 2) rfl)) rfl (ones_cons (Ln.one (S248.row_ln (i := 2) rfl)) ones_nil) (Nat.le_of_ble_eq_true rfl) rfl rfl
                      refine FC.act (l' := (bs 10 1023)) rfl (by kernel_rfl) rfl rfl (E.store rfl rfl run250) ?_
                      refine ⟨(SP.o (SP.on ((S251.box_now (i := 1) rfl).sub (j := 0) (n := 1) (c := [Value.int .i64 s87.2.2.2.2.1]) rfl) (SP.nil (Sl.of_inc (i219.tr i228) S251.sl)))), ?_⟩
                      exact FB.done (by kernel_rfl) ⟨_, _, _, _, _, S251, (i219.tr i228), els245, (h225.mono i228), nd247, k169, k170⟩
            ·
              rintro f263 w262 ⟨H259, v252, n253, cs254, v257, S260, i261, els255, h258, nd256, k264, k265⟩
              refine FW.seq (FW.region ?_)
              refine FL.v (E.load k265 (run_loadA Tryz.isAgg26 Tryz.sizeOf26 (S260.box_now (i := 1) rfl) rfl)) ?_
              obtain ⟨w266, run267, S268⟩ := S260.store0 (P := Tryz.prog) (t := 26) (i := 3) (cs' := [Value.int .i64 s87.2.2.2.2.1, v252]) (l' := (.box b0 92 [v257, Value.int .i64 r214.2.at_, Value.int .u64 r214.2.seed] :: .box b71 26 [Value.int .i64 s87.2.2.2.2.1, v252] :: .row 34 1 v252 n253 cs254 :: .box b21 26 [Value.int .i64 s87.2.2.2.2.1, v252] :: L)) (v := Value.agg #[Value.int .i64 s87.2.2.2.2.1, v252]) (c := [Value.int .i64 s87.2.2.2.2.1, v252]) rfl Tryz.sizeOf26 rfl rfl (ones_cons rfl (ones_cons (Ln.one (S260.row_ln (i := 2) rfl)) ones_nil)) (Nat.le_of_ble_eq_true rfl) rfl rfl
              refine FL.act rfl rfl (E.store k264 rfl run267) ?_
              refine FL.nil ?_
              refine FW.ret ?_
              obtain ⟨H269, S270, i271, ns274, nv273⟩ := S268.sealRowN (i := 2) (l' := (.box b0 92 [v257, Value.int .i64 r214.2.at_, Value.int .u64 r214.2.seed] :: .box b71 26 [Value.int .i64 s87.2.2.2.2.1, v252] :: .box b21 26 [Value.int .i64 s87.2.2.2.2.1, v252] :: L)) rfl els255 nd256 (by decide) rfl
              have h272 := ns274.rsl
              obtain rfl := Option.some.inj hp
              exact ⟨.inr rfl, resC rfl k264 (loadVar_A Tryz.isAgg26 Tryz.sizeOf26 (S270.box_now (i := 2) rfl) rfl) ⟨_, _, _, rfl, ⟨(S270.selT (a := [.box b0 92 [v257, Value.int .i64 r214.2.at_, Value.int .u64 r214.2.seed], .box b71 26 [Value.int .i64 s87.2.2.2.2.1, v252], .box b21 26 [Value.int .i64 s87.2.2.2.2.1, v252]]) (l' := [.box b0 92 [v257, Value.int .i64 r214.2.at_, Value.int .u64 r214.2.seed]]) [0] (by decide) rfl), (((((((i31.tr i55).tr i63).tr i84).tr i165).tr i176).tr i261).tr i271)⟩, h272, (h258.mono i271)⟩⟩
          ·
            refine FW.condF rfl c210 ?_
            refine FW.seq (FW.region ?_)
            refine FL.v (E.eql rfl rfl) ?_
            refine FL.v (E.assign (v := Value.bool (r171.1 == 2)) rfl) ?_
            refine FL.nil ?_
            rcases ifB hp with ⟨c275, hp⟩ | ⟨c275, hp⟩
            ·
              refine FW.condT rfl c275 ?_
              obtain ⟨q276, hq, hp⟩ := bndR hp
              refine FW.block ?_
              refine FW.mono (FW.iter (S := ((List (List Int)) × (List Int) × Int × Int × Int)) (X := Empty) (fun (s276 : ((List (List Int)) × (List Int) × Int × Int × Int)) f w => ∃ H : GH, ∃ v277 : Value, ∃ n278 : Nat, ∃ cs279 : List Value, ∃ v282 : Value, St H0 w0 H w (.box b0 92 [v282, Value.int .i64 s276.2.2.1, Value.int .u64 s276.2.2.2.1] :: .box b71 26 [Value.int .i64 s276.2.2.2.2, v277] :: .row 34 1 v277 n278 cs279 :: .box b21 26 [Value.int .i64 0, Value.slice none 0 0] :: L) ∧ Inc H173 H ∧ Els (up w0.heap.size H) (eL eI 1) 1 cs279 s276.1 ∧ RSl H (eN .u8) 1 v282 s276.2.1 ∧ (bl cs279).Nodup ∧ f 0 = Value.pointer (some (⟨b0, 0, none⟩ : Addr)) ∧ f 2 = Value.pointer (some (⟨b21, 0, none⟩ : Addr)) ∧ f 3 = Value.pointer (some (⟨b71, 0, none⟩ : Addr))) (fun (q : Rs ((List (List Int)) × (List Int) × Int × Int × Int) Empty) e f w => match q with | .go s276 => e = Exit.exit 3 ∧ (∃ H : GH, ∃ v277 : Value, ∃ n278 : Nat, ∃ cs279 : List Value, ∃ v282 : Value, St H0 w0 H w (.box b0 92 [v282, Value.int .i64 s276.2.2.1, Value.int .u64 s276.2.2.2.1] :: .box b71 26 [Value.int .i64 s276.2.2.2.2, v277] :: .row 34 1 v277 n278 cs279 :: .box b21 26 [Value.int .i64 0, Value.slice none 0 0] :: L) ∧ Inc H173 H ∧ Els (up w0.heap.size H) (eL eI 1) 1 cs279 s276.1 ∧ RSl H (eN .u8) 1 v282 s276.2.1 ∧ (bl cs279).Nodup ∧ f 2 = Value.pointer (some (⟨b21, 0, none⟩ : Addr)) ∧ f 3 = Value.pointer (some (⟨b71, 0, none⟩ : Addr))) | .rt x => x.elim) hq ⟨_, _, _, _, _, S175, (Inc.rfl _), (els91.mono (up_mono i176)), h178, nd92, k168, k169, k170⟩ ?_) ?_
              ·
                clear hp hq
                rintro s276 f288 w287 ⟨H284, v277, n278, cs279, v282, S285, i286, els280, h283, nd281, k289, k290, k291⟩ o346 hp
                refine FW.seq (FW.seq ?_)
                obtain ⟨r295, hr296, hp⟩ := bnd hp
                refine FW.drawB (SX H0 w0 H284 (.box b71 26 [Value.int .i64 s276.2.2.2.2, v277] :: L)) (fun f w => ∃ H : GH, ∃ v303 : Value, St H0 w0 H w (.box b0 92 [v303, Value.int .i64 r295.2.at_, Value.int .u64 r295.2.seed] :: .box b71 26 [Value.int .i64 s276.2.2.2.2, v277] :: .row 34 1 v277 n278 cs279 :: .box b21 26 [Value.int .i64 0, Value.slice none 0 0] :: L) ∧ Inc H284 H ∧ RSl H (eN .u8) 1 v303 r295.2.code ∧ f 0 = Value.pointer (some (⟨b0, 0, none⟩ : Addr)) ∧ f 2 = Value.pointer (some (⟨b21, 0, none⟩ : Addr)) ∧ f 3 = Value.pointer (some (⟨b71, 0, none⟩ : Addr)) ∧ f 56 = Value.bool (decide ((len s276.1) < (wr (60 + r295.1))))) (by kernel_rfl) S285.sl ?_ ?_
                ·
                  intro w292 r293
                  have S294 := S285.call r293
                  refine FB.t (i := 0) (bs 7 1) rfl (SP.nil ⟨_, (S294.selT (a := [.box b0 92 [v282, Value.int .i64 s276.2.2.1, Value.int .u64 s276.2.2.2.1], .box b71 26 [Value.int .i64 s276.2.2.2.2, v277], .row 34 1 v277 n278 cs279, .box b21 26 [Value.int .i64 0, Value.slice none 0 0]]) (l' := [.box b71 26 [Value.int .i64 s276.2.2.2.2, v277]]) [1] (by decide) rfl), (Inc.rfl _)⟩) rfl (fun w' hw' => (E.fieldAddr tf26_1 k291)) ?_
                  refine FB.t (i := 1) (bs 7 3) rfl (SP.nil ⟨_, (S294.selT (a := [.box b0 92 [v282, Value.int .i64 s276.2.2.1, Value.int .u64 s276.2.2.2.1], .box b71 26 [Value.int .i64 s276.2.2.2.2, v277], .row 34 1 v277 n278 cs279, .box b21 26 [Value.int .i64 0, Value.slice none 0 0]]) (l' := [.box b71 26 [Value.int .i64 s276.2.2.2.2, v277]]) [1] (by decide) rfl), (Inc.rfl _)⟩) rfl (fun w' hw' => (E.load rfl (run_load1 Tryz.isAgg24 (SX.box_now hw' (i := 0) rfl) rfl))) ?_
                  refine FB.t (i := 2) (bs 7 7) rfl (SP.nil ⟨_, (S294.selT (a := [.box b0 92 [v282, Value.int .i64 s276.2.2.1, Value.int .u64 s276.2.2.2.1], .box b71 26 [Value.int .i64 s276.2.2.2.2, v277], .row 34 1 v277 n278 cs279, .box b21 26 [Value.int .i64 0, Value.slice none 0 0]]) (l' := [.box b71 26 [Value.int .i64 s276.2.2.2.2, v277]]) [1] (by decide) rfl), (Inc.rfl _)⟩) rfl (fun w' hw' => (E.lenOW te24 rfl S294 (i := 2) rfl els280 (by decide))) ?_
                  refine FB.t (i := 3) (bs 7 15) rfl (SP.nil ⟨_, (S294.selT (a := [.box b0 92 [v282, Value.int .i64 s276.2.2.1, Value.int .u64 s276.2.2.2.1], .box b71 26 [Value.int .i64 s276.2.2.2.2, v277], .row 34 1 v277 n278 cs279, .box b21 26 [Value.int .i64 0, Value.slice none 0 0]]) (l' := [.box b71 26 [Value.int .i64 s276.2.2.2.2, v277]]) [1] (by decide) rfl), (Inc.rfl _)⟩) rfl (fun w' hw' => (E.move k289)) ?_
                  refine FB.all1 (i := 4) (by kernel_rfl) ?_
                  ·
                    refine FC.call (l' := (bs 7 31)) rfl (by kernel_rfl) rfl rfl rfl (E.call Tryz.call70 (A2 rfl rfl)) (w_spec_l1Cur_pick (L := (.box b71 26 [Value.int .i64 s276.2.2.2.2, v277] :: .row 34 1 v277 n278 cs279 :: .box b21 26 [Value.int .i64 0, Value.slice none 0 0] :: L)) S294 (a0 := (l1Cur.mk s276.2.1 s276.2.2.1 s276.2.2.2.1)) h283 2 hr296) ?_
                    rintro e w298 ⟨H297, v301, rfl, ⟨S299, i300⟩, h302⟩
                    refine ⟨_, rfl, ?_⟩
                    have S299 : St H0 w0 H297 w298 (.box b0 92 [v301, Value.int .i64 r295.2.at_, Value.int .u64 r295.2.seed] :: .box b71 26 [Value.int .i64 s276.2.2.2.2, v277] :: .row 34 1 v277 n278 cs279 :: .box b21 26 [Value.int .i64 0, Value.slice none 0 0] :: L) := S299
                    refine ⟨(SP.nil ⟨_, (S299.selT (a := [.box b0 92 [v301, Value.int .i64 r295.2.at_, Value.int .u64 r295.2.seed], .box b71 26 [Value.int .i64 s276.2.2.2.2, v277], .row 34 1 v277 n278 cs279, .box b21 26 [Value.int .i64 0, Value.slice none 0 0]]) (l' := [.box b71 26 [Value.int .i64 s276.2.2.2.2, v277]]) [1] (by decide) rfl), i300⟩), ?_⟩
                    refine FB.t (i := 5) (bs 7 63) rfl (SP.nil ⟨_, (S299.selT (a := [.box b0 92 [v301, Value.int .i64 r295.2.at_, Value.int .u64 r295.2.seed], .box b71 26 [Value.int .i64 s276.2.2.2.2, v277], .row 34 1 v277 n278 cs279, .box b21 26 [Value.int .i64 0, Value.slice none 0 0]]) (l' := [.box b71 26 [Value.int .i64 s276.2.2.2.2, v277]]) [1] (by decide) rfl), i300⟩) rfl (fun w' hw' => (E.add rfl rfl)) ?_
                    refine FB.t (i := 6) (bs 7 127) rfl (SP.nil ⟨_, (S299.selT (a := [.box b0 92 [v301, Value.int .i64 r295.2.at_, Value.int .u64 r295.2.seed], .box b71 26 [Value.int .i64 s276.2.2.2.2, v277], .row 34 1 v277 n278 cs279, .box b21 26 [Value.int .i64 0, Value.slice none 0 0]]) (l' := [.box b71 26 [Value.int .i64 s276.2.2.2.2, v277]]) [1] (by decide) rfl), i300⟩) rfl (fun w' hw' => (E.lss rfl rfl)) ?_
                    exact FB.done (by kernel_rfl) ⟨_, _, S299, i300, h302, k289, k290, k291, rfl⟩
                ·
                  rintro f309 w308 ⟨H305, v303, S306, i307, h304, k310, k311, k312, k313⟩
                  rcases ifB hp with ⟨c314, hp⟩ | ⟨c314, hp⟩
                  ·
                    refine FW.condT k313 c314 ?_
                    refine FW.skip (FW.block (FW.region ?_))
                    refine FL.v (E.fieldAddr tf26_1 k312) ?_
                    refine FL.v (E.load rfl (run_load1 Tryz.isAgg24 (S306.box_now (i := 1) rfl) rfl)) ?_
                    obtain ⟨v315, w316, run317, S318⟩ := S306.buildSlice (P := Tryz.prog) te34 [Value.int .i64 1] (parts := #[(0, Value.int .i64 1)]) (cells := [Value.int .i64 1]) rfl (szs_cons rfl szs_nil) (fc_cons rfl fc_nil) (ones_cons rfl ones_nil) (Nat.le_of_ble_eq_true rfl)
                    have els319 : Els (up w0.heap.size H305) eI 1 [Value.int .i64 1] [1] := (Els.snoc (H := (up w0.heap.size H305)) (E := eI) (k := 1) (c := [Value.int .i64 1]) (x := 1) Els.nil rfl rfl)
                    refine FL.v (E.buildSlice (B1 rfl) run317) ?_
                    obtain ⟨H320, S321, i322, h323, nv324⟩ := S318.sealRowU (i := 0) (l' := (.box b0 92 [v303, Value.int .i64 r295.2.at_, Value.int .u64 r295.2.seed] :: .box b71 26 [Value.int .i64 s276.2.2.2.2, v277] :: .row 34 1 v277 n278 cs279 :: .box b21 26 [Value.int .i64 0, Value.slice none 0 0] :: L)) rfl els319 (by decide) rfl
                    obtain ⟨v325, w326, run327, S328⟩ := S321.buildSlice (P := Tryz.prog) te24 [v315] (parts := #[(0, v315)]) (cells := [v315]) rfl (szs_cons (cells_size h323.cells) szs_nil) (fc_cons h323.cells fc_nil) (ones_cons h323.one ones_nil) (Nat.le_of_ble_eq_true rfl)
                    have els329 : Els (up w0.heap.size H320) (eL eI 1) 1 [v315] [[1]] := (Els.snoc (H := (up w0.heap.size H320)) (E := (eL eI 1)) (k := 1) (c := [v315]) (x := [1]) Els.nil rfl ⟨_, rfl, h323⟩)
                    have nd330 : (bl [v315]).Nodup := by exact nd_one v315
                    refine FL.v (E.buildSlice (B1 rfl) run327) ?_
                    obtain ⟨xs331, hz332, hp⟩ := bnd hp
                    obtain ⟨v333, w336, n334, cs335, run337, S338, els339, ce340⟩ := S328.appendO (P := Tryz.prog) te24 (i := 3) (j := 0) rfl (els280.mono (up_mono (i307.tr i322))) rfl els329 hz332
                    have S338 : St H0 w0 H320 w336 (.row 34 1 v325 1 [v315] :: .box b0 92 [v303, Value.int .i64 r295.2.at_, Value.int .u64 r295.2.seed] :: .box b71 26 [Value.int .i64 s276.2.2.2.2, v277] :: .row 34 1 v333 n334 cs335 :: .box b21 26 [Value.int .i64 0, Value.slice none 0 0] :: L) := S338
                    have nd341 : (bl cs335).Nodup := by rw [ce340]; exact nd_app nd281 nd330 (Els.dom (els280.mono (upI.tr i307))) (by exact nv324)
                    have S342 : St H0 w0 H320 w336 (.box b0 92 [v303, Value.int .i64 r295.2.at_, Value.int .u64 r295.2.seed] :: .box b71 26 [Value.int .i64 s276.2.2.2.2, v277] :: .row 34 1 v333 n334 cs335 :: .box b21 26 [Value.int .i64 0, Value.slice none 0 0] :: L) := S338.drop 0
                    refine FL.v (E.append rfl rfl run337) ?_
                    refine FL.v (E.fieldAddr tf26_1 k312) ?_
                    obtain ⟨w343, run344, S345⟩ := S342.store (P := Tryz.prog) (t := 24) (i := 1) (j := 1) (cs' := [Value.int .i64 s276.2.2.2.2, v333]) (l' := (.box b0 92 [v303, Value.int .i64 r295.2.at_, Value.int .u64 r295.2.seed] :: .box b71 26 [Value.int .i64 s276.2.2.2.2, v333] :: .row 34 1 v333 n334 cs335 :: .box b21 26 [Value.int .i64 0, Value.slice none 0 0] :: L)) (v := v333) (c := [v333]) rfl Tryz.sizeOf24 (Ln.cells (S342.row_ln (i := 2) rfl)) rfl (ones_cons (Ln.one (S342.row_ln (i := 2) rfl)) ones_nil) (Nat.le_of_ble_eq_true rfl) rfl rfl
                    refine FL.act rfl rfl (E.store rfl rfl run344) ?_
                    refine FL.nil ?_
                    obtain rfl := Option.some.inj hp
                    exact ⟨rfl, ⟨_, _, _, _, _, S345, ((i286.tr i307).tr i322), els339, (h304.mono i322), nd341, k310, k311, k312⟩⟩
                  ·
                    refine FW.condF k313 c314 ?_
                    refine FW.exit ?_
                    obtain rfl := Option.some.inj hp
                    exact ⟨nofun, rfl, ⟨_, _, _, _, _, S306, (i286.tr i307), (els280.mono (up_mono i307)), h304, nd281, k311, k312⟩⟩
              ·
                clear hq
                intro e f351 w350 hD
                rcases q276 with s276 | x276
                ·
                  obtain ⟨rfl, hD⟩ := hD
                  obtain ⟨H347, v277, n278, cs279, v282, S348, i349, els280, h283, nd281, k352, k353⟩ := hD
                  replace hp := el_go hp
                  refine FW.seq (FW.region ?_)
                  refine FL.v (E.load k353 (run_loadA Tryz.isAgg26 Tryz.sizeOf26 (S348.box_now (i := 1) rfl) rfl)) ?_
                  obtain ⟨w354, run355, S356⟩ := S348.store0 (P := Tryz.prog) (t := 26) (i := 3) (cs' := [Value.int .i64 s276.2.2.2.2, v277]) (l' := (.box b0 92 [v282, Value.int .i64 s276.2.2.1, Value.int .u64 s276.2.2.2.1] :: .box b71 26 [Value.int .i64 s276.2.2.2.2, v277] :: .row 34 1 v277 n278 cs279 :: .box b21 26 [Value.int .i64 s276.2.2.2.2, v277] :: L)) (v := Value.agg #[Value.int .i64 s276.2.2.2.2, v277]) (c := [Value.int .i64 s276.2.2.2.2, v277]) rfl Tryz.sizeOf26 rfl rfl (ones_cons rfl (ones_cons (Ln.one (S348.row_ln (i := 2) rfl)) ones_nil)) (Nat.le_of_ble_eq_true rfl) rfl rfl
                  refine FL.act rfl rfl (E.store k352 rfl run355) ?_
                  refine FL.nil ?_
                  refine FW.ret ?_
                  obtain ⟨H357, S358, i359, ns362, nv361⟩ := S356.sealRowN (i := 2) (l' := (.box b0 92 [v282, Value.int .i64 s276.2.2.1, Value.int .u64 s276.2.2.2.1] :: .box b71 26 [Value.int .i64 s276.2.2.2.2, v277] :: .box b21 26 [Value.int .i64 s276.2.2.2.2, v277] :: L)) rfl els280 nd281 (by decide) rfl
                  have h360 := ns362.rsl
                  obtain rfl := Option.some.inj hp
                  exact ⟨.inr rfl, resC rfl k352 (loadVar_A Tryz.isAgg26 Tryz.sizeOf26 (S358.box_now (i := 2) rfl) rfl) ⟨_, _, _, rfl, ⟨(S358.selT (a := [.box b0 92 [v282, Value.int .i64 s276.2.2.1, Value.int .u64 s276.2.2.2.1], .box b71 26 [Value.int .i64 s276.2.2.2.2, v277], .box b21 26 [Value.int .i64 s276.2.2.2.2, v277]]) (l' := [.box b0 92 [v282, Value.int .i64 s276.2.2.1, Value.int .u64 s276.2.2.2.1]]) [0] (by decide) rfl), (((((((i31.tr i55).tr i63).tr i84).tr i165).tr i176).tr i349).tr i359)⟩, h360, (h283.mono i359)⟩⟩
                · exact x276.elim
            ·
              refine FW.condF rfl c275 ?_
              refine FW.seq (FW.region ?_)
              refine FL.v (E.eql rfl rfl) ?_
              refine FL.v (E.assign (v := Value.bool (r171.1 == 3)) rfl) ?_
              refine FL.nil ?_
              rcases ifB hp with ⟨c363, hp⟩ | ⟨c363, hp⟩
              ·
                refine FW.condT rfl c363 ?_
                obtain ⟨r367, hr368, hp⟩ := bnd hp
                obtain ⟨xs400, hz401, hp⟩ := bnd hp
                refine FW.drawB (Sl H173) (fun f w => ∃ H : GH, ∃ v414 : Value, ∃ n415 : Nat, ∃ cs416 : List Value, ∃ v418 : Value, St H0 w0 H w (.box b0 92 [v418, Value.int .i64 r367.2.at_, Value.int .u64 r367.2.seed] :: .box b71 26 [Value.int .i64 s87.2.2.2.2.1, v414] :: .row 34 1 v414 n415 cs416 :: .box b21 26 [Value.int .i64 0, Value.slice none 0 0] :: L) ∧ Inc H173 H ∧ Els (up w0.heap.size H) (eL eI 1) 1 cs416 xs400 ∧ RSl H (eN .u8) 1 v418 r367.2.code ∧ f 2 = Value.pointer (some (⟨b21, 0, none⟩ : Addr)) ∧ f 3 = Value.pointer (some (⟨b71, 0, none⟩ : Addr))) (by kernel_rfl) S175.sl ?_ ?_
                ·
                  intro w364 r365
                  have S366 := S175.call r365
                  refine FB.phase [] (fun w => WAt w (Addr.add ⟨b71, 0, none⟩ 0) [Value.int .i64 s87.2.2.2.2.1]) ?_
                  refine FB.phase [10] (fun w => WAt w (Addr.add ⟨b71, 0, none⟩ 1) [v88]) ?_
                  refine FB.t (i := 0) (bs 11 1) rfl (SP.on ((S366.box_now (i := 1) rfl).sub (j := 1) (n := 1) (c := [v88]) rfl) (SP.on ((S366.box_now (i := 1) rfl).sub (j := 0) (n := 1) (c := [Value.int .i64 s87.2.2.2.2.1]) rfl) (SP.nil S366.sl))) rfl (fun w' hw' => (E.fieldAddr tf26_1 k170)) ?_
                  refine FB.p (i := 1) (bs 11 3) 0 [8, 9, 10] rfl (SP.on ((S366.box_now (i := 1) rfl).sub (j := 1) (n := 1) (c := [v88]) rfl) (SP.on ((S366.box_now (i := 1) rfl).sub (j := 0) (n := 1) (c := [Value.int .i64 s87.2.2.2.2.1]) rfl) (SP.nil S366.sl))) rfl rfl (fun w' hw' => (E.load rfl (run_load0 Tryz.isAgg24 hw' rfl))) ?_
                  refine FB.t (i := 2) (bs 11 7) rfl (SP.on ((S366.box_now (i := 1) rfl).sub (j := 1) (n := 1) (c := [v88]) rfl) (SP.on ((S366.box_now (i := 1) rfl).sub (j := 0) (n := 1) (c := [Value.int .i64 s87.2.2.2.2.1]) rfl) (SP.nil S366.sl))) rfl (fun w' hw' => (E.move k168)) ?_
                  refine FB.t (i := 3) (bs 11 15) rfl (SP.on ((S366.box_now (i := 1) rfl).sub (j := 1) (n := 1) (c := [v88]) rfl) (SP.on ((S366.box_now (i := 1) rfl).sub (j := 0) (n := 1) (c := [Value.int .i64 s87.2.2.2.2.1]) rfl) (SP.nil S366.sl))) rfl (fun w' hw' => (E.fieldAddr tf26_0 k170)) ?_
                  refine FB.p (i := 4) (bs 11 31) 1 [5, 7, 8, 9, 10] rfl (SP.on ((S366.box_now (i := 1) rfl).sub (j := 1) (n := 1) (c := [v88]) rfl) (SP.on ((S366.box_now (i := 1) rfl).sub (j := 0) (n := 1) (c := [Value.int .i64 s87.2.2.2.2.1]) rfl) (SP.nil S366.sl))) rfl rfl (fun w' hw' => (E.load rfl (run_load0 Tryz.isAgg3 hw' rfl))) ?_
                  refine FB.all2 (i := 5) (j := 6) (by kernel_rfl) ?_ ?_
                  ·
                    refine FC.call (l' := (bs 11 63)) rfl (by kernel_rfl) rfl rfl rfl (E.call Tryz.call166 (A2 rfl rfl)) (w_spec_l1Cur_clause (L := (.box b71 26 [Value.int .i64 s87.2.2.2.2.1, v88] :: .row 34 1 v88 n89 cs90 :: .box b21 26 [Value.int .i64 0, Value.slice none 0 0] :: L)) S366 (a0 := r171.2) h178 s87.2.2.2.2.1 hr368) ?_
                    rintro e w370 ⟨H369, v373, n374, cs375, v377, rfl, ⟨S371, i372⟩, els376, h378⟩
                    refine ⟨_, rfl, ?_⟩
                    have S371 : St H0 w0 H369 w370 (.row 3 1 v373 n374 cs375 :: .box b0 92 [v377, Value.int .i64 r367.2.at_, Value.int .u64 r367.2.seed] :: .box b71 26 [Value.int .i64 s87.2.2.2.2.1, v88] :: .row 34 1 v88 n89 cs90 :: .box b21 26 [Value.int .i64 0, Value.slice none 0 0] :: L) := S371
                    refine ⟨(SP.on ((S371.box_now (i := 2) rfl).sub (j := 1) (n := 1) (c := [v88]) rfl) (SP.on ((S371.box_now (i := 2) rfl).sub (j := 0) (n := 1) (c := [Value.int .i64 s87.2.2.2.2.1]) rfl) (SP.nil (Sl.of_inc i372 S371.sl)))), ?_⟩
                    refine FB.all1 (i := 6) (by kernel_rfl) ?_
                    ·
                      obtain ⟨v380, w381, run382, S383⟩ := S371.buildSlice (P := Tryz.prog) te34 [] (parts := #[]) (cells := []) rfl szs_nil fc_nil ones_nil (Nat.le_of_ble_eq_true rfl)
                      have els384 : Els (up w0.heap.size H369) eI 1 [] [] := Els.nil
                      refine FC.val (l' := (bs 11 127)) rfl (by kernel_rfl) rfl rfl rfl (E.buildSlice (B0) run382) ?_
                      refine ⟨(SP.on ((S383.box_now (i := 3) rfl).sub (j := 1) (n := 1) (c := [v88]) rfl) (SP.on ((S383.box_now (i := 3) rfl).sub (j := 0) (n := 1) (c := [Value.int .i64 s87.2.2.2.2.1]) rfl) (SP.nil (Sl.of_inc i372 S383.sl)))), ?_⟩
                      refine FB.all1 (i := 7) (by kernel_rfl) ?_
                      ·
                        obtain ⟨H385, S386, i387, h388, nv389⟩ := S383.sealRowU (i := 1) (l' := (.row 3 1 v380 0 [] :: .box b0 92 [v377, Value.int .i64 r367.2.at_, Value.int .u64 r367.2.seed] :: .box b71 26 [Value.int .i64 s87.2.2.2.2.1, v88] :: .row 34 1 v88 n89 cs90 :: .box b21 26 [Value.int .i64 0, Value.slice none 0 0] :: L)) rfl els376 (by decide) rfl
                        obtain ⟨H390, S391, i392, h393, nv394⟩ := S386.sealRowU (i := 0) (l' := (.box b0 92 [v377, Value.int .i64 r367.2.at_, Value.int .u64 r367.2.seed] :: .box b71 26 [Value.int .i64 s87.2.2.2.2.1, v88] :: .row 34 1 v88 n89 cs90 :: .box b21 26 [Value.int .i64 0, Value.slice none 0 0] :: L)) rfl (els384.mono (up_mono i387)) (by decide) rfl
                        obtain ⟨v395, w396, run397, S398⟩ := S391.buildSlice (P := Tryz.prog) te24 [v373, v380] (parts := #[(0, v373), (1, v380)]) (cells := [v373, v380]) rfl (szs_cons (cells_size h388.cells) (szs_cons (cells_size h393.cells) szs_nil)) (fc_cons h388.cells (fc_cons h393.cells fc_nil)) (ones_cons h388.one (ones_cons h393.one ones_nil)) (Nat.le_of_ble_eq_true rfl)
                        have els399 : Els (up w0.heap.size H390) (eL eI 1) 1 [v373, v380] [r367.1, []] := (Els.snoc (H := (up w0.heap.size H390)) (E := (eL eI 1)) (k := 1) (c := [v380]) (x := []) (Els.snoc (H := (up w0.heap.size H390)) (E := (eL eI 1)) (k := 1) (c := [v373]) (x := r367.1) Els.nil rfl ⟨_, rfl, (h388.mono (up_mono i392))⟩) rfl ⟨_, rfl, h393⟩)
                        refine FC.val (l' := (bs 11 255)) rfl (by kernel_rfl) rfl rfl rfl (E.buildSlice (B2 rfl rfl) run397) ?_
                        refine ⟨(SP.on ((S398.box_now (i := 2) rfl).sub (j := 1) (n := 1) (c := [v88]) rfl) (SP.on ((S398.box_now (i := 2) rfl).sub (j := 0) (n := 1) (c := [Value.int .i64 s87.2.2.2.2.1]) rfl) (SP.nil (Sl.of_inc ((i372.tr i387).tr i392) S398.sl)))), ?_⟩
                        refine FB.all1 (i := 8) (by kernel_rfl) ?_
                        ·
                          obtain ⟨v402, w405, n403, cs404, run406, S407, els408, ce409⟩ := S398.appendO (P := Tryz.prog) te24 (i := 3) (j := 0) rfl (els91.mono (up_mono (((i176.tr i372).tr i387).tr i392))) rfl els399 hz401
                          have S407 : St H0 w0 H390 w405 (.row 34 1 v395 2 [v373, v380] :: .box b0 92 [v377, Value.int .i64 r367.2.at_, Value.int .u64 r367.2.seed] :: .box b71 26 [Value.int .i64 s87.2.2.2.2.1, v88] :: .row 34 1 v402 n403 cs404 :: .box b21 26 [Value.int .i64 0, Value.slice none 0 0] :: L) := S407
                          have S410 : St H0 w0 H390 w405 (.box b0 92 [v377, Value.int .i64 r367.2.at_, Value.int .u64 r367.2.seed] :: .box b71 26 [Value.int .i64 s87.2.2.2.2.1, v88] :: .row 34 1 v402 n403 cs404 :: .box b21 26 [Value.int .i64 0, Value.slice none 0 0] :: L) := S407.drop 0
                          refine FC.val (l' := (bs 11 511)) rfl (by kernel_rfl) rfl rfl rfl (E.append rfl rfl run406) ?_
                          refine ⟨(SP.on ((S410.box_now (i := 1) rfl).sub (j := 1) (n := 1) (c := [v88]) rfl) (SP.on ((S410.box_now (i := 1) rfl).sub (j := 0) (n := 1) (c := [Value.int .i64 s87.2.2.2.2.1]) rfl) (SP.nil (Sl.of_inc ((i372.tr i387).tr i392) S410.sl)))), ?_⟩
                          refine FB.t (i := 9) (bs 11 1023) rfl (SP.on ((S410.box_now (i := 1) rfl).sub (j := 1) (n := 1) (c := [v88]) rfl) (SP.on ((S410.box_now (i := 1) rfl).sub (j := 0) (n := 1) (c := [Value.int .i64 s87.2.2.2.2.1]) rfl) (SP.nil (Sl.of_inc ((i372.tr i387).tr i392) S410.sl)))) rfl (fun w' hw' => (E.fieldAddr tf26_1 k170)) ?_
                          refine FB.all1 (i := 10) (by kernel_rfl) ?_
                          ·
                            obtain ⟨w411, run412, S413⟩ := S410.store (P := Tryz.prog) (t := 24) (i := 1) (j := 1) (cs' := [Value.int .i64 s87.2.2.2.2.1, v402]) (l' := (.box b0 92 [v377, Value.int .i64 r367.2.at_, Value.int .u64 r367.2.seed] :: .box b71 26 [Value.int .i64 s87.2.2.2.2.1, v402] :: .row 34 1 v402 n403 cs404 :: .box b21 26 [Value.int .i64 0, Value.slice none 0 0] :: L)) (v := v402) (c := [v402]) rfl Tryz.sizeOf24 (Ln.cells (S410.row_ln (i := 2) rfl)) rfl (ones_cons (Ln.one (S410.row_ln (i := 2) rfl)) ones_nil) (Nat.le_of_ble_eq_true rfl) rfl rfl
                            refine FC.act (l' := (bs 11 2047)) rfl (by kernel_rfl) rfl rfl (E.store rfl rfl run412) ?_
                            refine ⟨(SP.o (SP.on ((S413.box_now (i := 1) rfl).sub (j := 0) (n := 1) (c := [Value.int .i64 s87.2.2.2.2.1]) rfl) (SP.nil (Sl.of_inc ((i372.tr i387).tr i392) S413.sl)))), ?_⟩
                            exact FB.done (by kernel_rfl) ⟨_, _, _, _, _, S413, ((i372.tr i387).tr i392), els408, (h378.mono (i387.tr i392)), k169, k170⟩
                  ·
                    obtain ⟨v380, w381, run382, S383⟩ := S366.buildSlice (P := Tryz.prog) te34 [] (parts := #[]) (cells := []) rfl szs_nil fc_nil ones_nil (Nat.le_of_ble_eq_true rfl)
                    have els384 : Els (up w0.heap.size H173) eI 1 [] [] := Els.nil
                    refine FC.val (l' := (bs 11 95)) rfl (by kernel_rfl) rfl rfl rfl (E.buildSlice (B0) run382) ?_
                    refine ⟨(SP.on ((S383.box_now (i := 2) rfl).sub (j := 1) (n := 1) (c := [v88]) rfl) (SP.on ((S383.box_now (i := 2) rfl).sub (j := 0) (n := 1) (c := [Value.int .i64 s87.2.2.2.2.1]) rfl) (SP.nil S383.sl))), ?_⟩
                    refine FB.all1 (i := 5) (by kernel_rfl) ?_
                    ·
                      have S369 : St H0 w0 H173 w381 (.box b0 92 [v177, Value.int .i64 r171.2.at_, Value.int .u64 r171.2.seed] :: .row 3 1 v380 0 [] :: .box b71 26 [Value.int .i64 s87.2.2.2.2.1, v88] :: .row 34 1 v88 n89 cs90 :: .box b21 26 [Value.int .i64 0, Value.slice none 0 0] :: L) := S383.front 1 rfl rfl
                      refine FC.call (l' := (bs 11 127)) rfl (by kernel_rfl) rfl rfl rfl (E.call Tryz.call166 (A2 rfl rfl)) (w_spec_l1Cur_clause (L := (.row 3 1 v380 0 [] :: .box b71 26 [Value.int .i64 s87.2.2.2.2.1, v88] :: .row 34 1 v88 n89 cs90 :: .box b21 26 [Value.int .i64 0, Value.slice none 0 0] :: L)) S369 (a0 := r171.2) h178 s87.2.2.2.2.1 hr368) ?_
                      rintro e w371 ⟨H370, v374, n375, cs376, v378, rfl, ⟨S372, i373⟩, els377, h379⟩
                      refine ⟨_, rfl, ?_⟩
                      have S372 : St H0 w0 H370 w371 (.row 3 1 v374 n375 cs376 :: .box b0 92 [v378, Value.int .i64 r367.2.at_, Value.int .u64 r367.2.seed] :: .row 3 1 v380 0 [] :: .box b71 26 [Value.int .i64 s87.2.2.2.2.1, v88] :: .row 34 1 v88 n89 cs90 :: .box b21 26 [Value.int .i64 0, Value.slice none 0 0] :: L) := S372
                      refine ⟨(SP.on ((S372.box_now (i := 3) rfl).sub (j := 1) (n := 1) (c := [v88]) rfl) (SP.on ((S372.box_now (i := 3) rfl).sub (j := 0) (n := 1) (c := [Value.int .i64 s87.2.2.2.2.1]) rfl) (SP.nil (Sl.of_inc i373 S372.sl)))), ?_⟩
                      refine FB.all1 (i := 7) (by kernel_rfl) ?_
                      ·
                        obtain ⟨H385, S386, i387, h388, nv389⟩ := S372.sealRowU (i := 0) (l' := (.box b0 92 [v378, Value.int .i64 r367.2.at_, Value.int .u64 r367.2.seed] :: .row 3 1 v380 0 [] :: .box b71 26 [Value.int .i64 s87.2.2.2.2.1, v88] :: .row 34 1 v88 n89 cs90 :: .box b21 26 [Value.int .i64 0, Value.slice none 0 0] :: L)) rfl els377 (by decide) rfl
                        obtain ⟨H390, S391, i392, h393, nv394⟩ := S386.sealRowU (i := 1) (l' := (.box b0 92 [v378, Value.int .i64 r367.2.at_, Value.int .u64 r367.2.seed] :: .box b71 26 [Value.int .i64 s87.2.2.2.2.1, v88] :: .row 34 1 v88 n89 cs90 :: .box b21 26 [Value.int .i64 0, Value.slice none 0 0] :: L)) rfl (els384.mono (up_mono (i373.tr i387))) (by decide) rfl
                        obtain ⟨v395, w396, run397, S398⟩ := S391.buildSlice (P := Tryz.prog) te24 [v374, v380] (parts := #[(0, v374), (1, v380)]) (cells := [v374, v380]) rfl (szs_cons (cells_size h388.cells) (szs_cons (cells_size h393.cells) szs_nil)) (fc_cons h388.cells (fc_cons h393.cells fc_nil)) (ones_cons h388.one (ones_cons h393.one ones_nil)) (Nat.le_of_ble_eq_true rfl)
                        have els399 : Els (up w0.heap.size H390) (eL eI 1) 1 [v374, v380] [r367.1, []] := (Els.snoc (H := (up w0.heap.size H390)) (E := (eL eI 1)) (k := 1) (c := [v380]) (x := []) (Els.snoc (H := (up w0.heap.size H390)) (E := (eL eI 1)) (k := 1) (c := [v374]) (x := r367.1) Els.nil rfl ⟨_, rfl, (h388.mono (up_mono i392))⟩) rfl ⟨_, rfl, h393⟩)
                        refine FC.val (l' := (bs 11 255)) rfl (by kernel_rfl) rfl rfl rfl (E.buildSlice (B2 rfl rfl) run397) ?_
                        refine ⟨(SP.on ((S398.box_now (i := 2) rfl).sub (j := 1) (n := 1) (c := [v88]) rfl) (SP.on ((S398.box_now (i := 2) rfl).sub (j := 0) (n := 1) (c := [Value.int .i64 s87.2.2.2.2.1]) rfl) (SP.nil (Sl.of_inc ((i373.tr i387).tr i392) S398.sl)))), ?_⟩
                        refine FB.all1 (i := 8) (by kernel_rfl) ?_
                        ·
                          obtain ⟨v402, w405, n403, cs404, run406, S407, els408, ce409⟩ := S398.appendO (P := Tryz.prog) te24 (i := 3) (j := 0) rfl (els91.mono (up_mono (((i176.tr i373).tr i387).tr i392))) rfl els399 hz401
                          have S407 : St H0 w0 H390 w405 (.row 34 1 v395 2 [v374, v380] :: .box b0 92 [v378, Value.int .i64 r367.2.at_, Value.int .u64 r367.2.seed] :: .box b71 26 [Value.int .i64 s87.2.2.2.2.1, v88] :: .row 34 1 v402 n403 cs404 :: .box b21 26 [Value.int .i64 0, Value.slice none 0 0] :: L) := S407
                          have S410 : St H0 w0 H390 w405 (.box b0 92 [v378, Value.int .i64 r367.2.at_, Value.int .u64 r367.2.seed] :: .box b71 26 [Value.int .i64 s87.2.2.2.2.1, v88] :: .row 34 1 v402 n403 cs404 :: .box b21 26 [Value.int .i64 0, Value.slice none 0 0] :: L) := S407.drop 0
                          refine FC.val (l' := (bs 11 511)) rfl (by kernel_rfl) rfl rfl rfl (E.append rfl rfl run406) ?_
                          refine ⟨(SP.on ((S410.box_now (i := 1) rfl).sub (j := 1) (n := 1) (c := [v88]) rfl) (SP.on ((S410.box_now (i := 1) rfl).sub (j := 0) (n := 1) (c := [Value.int .i64 s87.2.2.2.2.1]) rfl) (SP.nil (Sl.of_inc ((i373.tr i387).tr i392) S410.sl)))), ?_⟩
                          refine FB.t (i := 9) (bs 11 1023) rfl (SP.on ((S410.box_now (i := 1) rfl).sub (j := 1) (n := 1) (c := [v88]) rfl) (SP.on ((S410.box_now (i := 1) rfl).sub (j := 0) (n := 1) (c := [Value.int .i64 s87.2.2.2.2.1]) rfl) (SP.nil (Sl.of_inc ((i373.tr i387).tr i392) S410.sl)))) rfl (fun w' hw' => (E.fieldAddr tf26_1 k170)) ?_
                          refine FB.all1 (i := 10) (by kernel_rfl) ?_
                          ·
                            obtain ⟨w411, run412, S413⟩ := S410.store (P := Tryz.prog) (t := 24) (i := 1) (j := 1) (cs' := [Value.int .i64 s87.2.2.2.2.1, v402]) (l' := (.box b0 92 [v378, Value.int .i64 r367.2.at_, Value.int .u64 r367.2.seed] :: .box b71 26 [Value.int .i64 s87.2.2.2.2.1, v402] :: .row 34 1 v402 n403 cs404 :: .box b21 26 [Value.int .i64 0, Value.slice none 0 0] :: L)) (v := v402) (c := [v402]) rfl Tryz.sizeOf24 (Ln.cells (S410.row_ln (i := 2) rfl)) rfl (ones_cons (Ln.one (S410.row_ln (i := 2) rfl)) ones_nil) (Nat.le_of_ble_eq_true rfl) rfl rfl
                            refine FC.act (l' := (bs 11 2047)) rfl (by kernel_rfl) rfl rfl (E.store rfl rfl run412) ?_
                            refine ⟨(SP.o (SP.on ((S413.box_now (i := 1) rfl).sub (j := 0) (n := 1) (c := [Value.int .i64 s87.2.2.2.2.1]) rfl) (SP.nil (Sl.of_inc ((i373.tr i387).tr i392) S413.sl)))), ?_⟩
                            exact FB.done (by kernel_rfl) ⟨_, _, _, _, _, S413, ((i373.tr i387).tr i392), els408, (h379.mono (i387.tr i392)), k169, k170⟩
                ·
                  rintro f424 w423 ⟨H420, v414, n415, cs416, v418, S421, i422, els417, h419, k425, k426⟩
                  refine FW.seq (FW.region ?_)
                  refine FL.v (E.load k426 (run_loadA Tryz.isAgg26 Tryz.sizeOf26 (S421.box_now (i := 1) rfl) rfl)) ?_
                  obtain ⟨w427, run428, S429⟩ := S421.store0 (P := Tryz.prog) (t := 26) (i := 3) (cs' := [Value.int .i64 s87.2.2.2.2.1, v414]) (l' := (.box b0 92 [v418, Value.int .i64 r367.2.at_, Value.int .u64 r367.2.seed] :: .box b71 26 [Value.int .i64 s87.2.2.2.2.1, v414] :: .row 34 1 v414 n415 cs416 :: .box b21 26 [Value.int .i64 s87.2.2.2.2.1, v414] :: L)) (v := Value.agg #[Value.int .i64 s87.2.2.2.2.1, v414]) (c := [Value.int .i64 s87.2.2.2.2.1, v414]) rfl Tryz.sizeOf26 rfl rfl (ones_cons rfl (ones_cons (Ln.one (S421.row_ln (i := 2) rfl)) ones_nil)) (Nat.le_of_ble_eq_true rfl) rfl rfl
                  refine FL.act rfl rfl (E.store k425 rfl run428) ?_
                  refine FL.nil ?_
                  refine FW.ret ?_
                  obtain ⟨H430, S431, i432, h433, nv434⟩ := S429.sealRowU (i := 2) (l' := (.box b0 92 [v418, Value.int .i64 r367.2.at_, Value.int .u64 r367.2.seed] :: .box b71 26 [Value.int .i64 s87.2.2.2.2.1, v414] :: .box b21 26 [Value.int .i64 s87.2.2.2.2.1, v414] :: L)) rfl els417 (by decide) rfl
                  obtain rfl := Option.some.inj hp
                  exact ⟨.inr rfl, resC rfl k425 (loadVar_A Tryz.isAgg26 Tryz.sizeOf26 (S431.box_now (i := 2) rfl) rfl) ⟨_, _, _, rfl, ⟨(S431.selT (a := [.box b0 92 [v418, Value.int .i64 r367.2.at_, Value.int .u64 r367.2.seed], .box b71 26 [Value.int .i64 s87.2.2.2.2.1, v414], .box b21 26 [Value.int .i64 s87.2.2.2.2.1, v414]]) (l' := [.box b0 92 [v418, Value.int .i64 r367.2.at_, Value.int .u64 r367.2.seed]]) [0] (by decide) rfl), (((((((i31.tr i55).tr i63).tr i84).tr i165).tr i176).tr i422).tr i432)⟩, h433, (h419.mono i432)⟩⟩
              ·
                refine FW.condF rfl c363 ?_
                refine FW.skip (FW.seq (FW.region ?_))
                refine FL.v (E.load k170 (run_loadA Tryz.isAgg26 Tryz.sizeOf26 (S175.box_now (i := 1) rfl) rfl)) ?_
                obtain ⟨w435, run436, S437⟩ := S175.store0 (P := Tryz.prog) (t := 26) (i := 3) (cs' := [Value.int .i64 s87.2.2.2.2.1, v88]) (l' := (.box b0 92 [v177, Value.int .i64 r171.2.at_, Value.int .u64 r171.2.seed] :: .box b71 26 [Value.int .i64 s87.2.2.2.2.1, v88] :: .row 34 1 v88 n89 cs90 :: .box b21 26 [Value.int .i64 s87.2.2.2.2.1, v88] :: L)) (v := Value.agg #[Value.int .i64 s87.2.2.2.2.1, v88]) (c := [Value.int .i64 s87.2.2.2.2.1, v88]) rfl Tryz.sizeOf26 rfl rfl (ones_cons rfl (ones_cons (Ln.one (S175.row_ln (i := 2) rfl)) ones_nil)) (Nat.le_of_ble_eq_true rfl) rfl rfl
                refine FL.act rfl rfl (E.store k169 rfl run436) ?_
                refine FL.nil ?_
                refine FW.ret ?_
                obtain ⟨H438, S439, i440, ns443, nv442⟩ := S437.sealRowN (i := 2) (l' := (.box b0 92 [v177, Value.int .i64 r171.2.at_, Value.int .u64 r171.2.seed] :: .box b71 26 [Value.int .i64 s87.2.2.2.2.1, v88] :: .box b21 26 [Value.int .i64 s87.2.2.2.2.1, v88] :: L)) rfl (els91.mono (up_mono i176)) nd92 (by decide) rfl
                have h441 := ns443.rsl
                obtain rfl := Option.some.inj hp
                exact ⟨.inr rfl, resC rfl k169 (loadVar_A Tryz.isAgg26 Tryz.sizeOf26 (S439.box_now (i := 2) rfl) rfl) ⟨_, _, _, rfl, ⟨(S439.selT (a := [.box b0 92 [v177, Value.int .i64 r171.2.at_, Value.int .u64 r171.2.seed], .box b71 26 [Value.int .i64 s87.2.2.2.2.1, v88], .box b21 26 [Value.int .i64 s87.2.2.2.2.1, v88]]) (l' := [.box b0 92 [v177, Value.int .i64 r171.2.at_, Value.int .u64 r171.2.seed]]) [0] (by decide) rfl), ((((((i31.tr i55).tr i63).tr i84).tr i165).tr i176).tr i440)⟩, h441, (h178.mono i440)⟩⟩
      · exact x87.elim

theorem w_spec_l1Least {Ha : GH} {wa : World} (hs : Sl Ha wa) (a0 : Int) (a1 : Int) :
  Calls Tryz.prog 71 #[Value.int .i64 a0, Value.int .i64 a1] wa (Sc Ha wa (Value.int .i64 (PF.spec_l1Least a0 a1))) := by
 obtain ⟨r, hp⟩ : ∃ r, (PF.spec_l1Least a0 a1) = r := ⟨_, rfl⟩
 rw [hp]
 unfold PF.spec_l1Least at hp
 have S0 := St.init hs
 refine calls_go (N := 10) (args := [Value.int .i64 a0, Value.int .i64 a1]) Tryz.func71 rfl rfl rfl ?_
 refine FW.seq (FW.region ?_)
 refine FL.v (E.assign (v := Value.int .i64 0) rfl) ?_
 refine FL.nil (FW.seq (FW.seq (FW.region ?_)))
 refine FL.v (E.move (v := Value.int .i64 a0) rfl) ?_
 refine FL.v (E.move (v := Value.int .i64 a1) rfl) ?_
 refine FL.v (E.lss rfl rfl) ?_
 refine FL.nil ?_
 rcases ifT hp with ⟨c21, hp⟩ | ⟨c21, hp⟩
 ·
  refine FW.condT rfl c21 ?_
  refine FW.seq (FW.region ?_)
  refine FL.v (E.move (v := Value.int .i64 a0) rfl) ?_
  refine FL.v (E.assign (v := Value.int .i64 a0) rfl) ?_
  refine FL.nil ?_
  refine FW.ret ?_
  obtain rfl := hp
  exact ⟨.inr rfl, res1 rfl rfl ⟨rfl, S0.back⟩⟩
 ·
  refine FW.condF rfl c21 ?_
  refine FW.skip (FW.seq (FW.region ?_))
  refine FL.v (E.move (v := Value.int .i64 a1) rfl) ?_
  refine FL.v (E.assign (v := Value.int .i64 a1) rfl) ?_
  refine FL.nil ?_
  refine FW.ret ?_
  obtain rfl := hp
  exact ⟨.inr rfl, res1 rfl rfl ⟨rfl, S0.back⟩⟩

@[reducible] def p_spec_l1Cur_assignment (H0 : GH) (w0 : World) (Ha : GH) (L : List MO) (b0 : Nat) (r : ((List Int) × l1Cur)) : Ending → World → Prop :=
  fun e w' => ∃ H' : GH, ∃ v0 : Value, ∃ n0 : Nat, ∃ c0 : List Value, ∃ v0_0r : Value, e = .returned (v0) ∧ (St H0 w0 H' w' (.row 3 1 v0 n0 c0 :: .box b0 92 [v0_0r, Value.int .i64 r.2.at_, Value.int .u64 r.2.seed] :: L) ∧ Inc Ha H') ∧ Els (up w0.heap.size H') eI 1 c0 r.1 ∧ RSl H' (eN .u8) 1 v0_0r r.2.code
theorem w_spec_l1Cur_assignment {H0 Ha : GH} {w0 wa : World} {L : List MO} {a0 : l1Cur} {b0 : Nat} {v0_0 : Value} (S0 : St H0 w0 Ha wa (.box b0 92 [v0_0, Value.int .i64 a0.at_, Value.int .u64 a0.seed] :: L)) (p0_0 : RSl Ha (eN .u8) 1 v0_0 a0.code) (a1 : Int) {r : ((List Int) × l1Cur)} (hp : (PF.spec_l1Cur_assignment a0 a1) = some r) :
    Calls Tryz.prog 188 #[Value.pointer (some (⟨b0, 0, none⟩ : Addr)), Value.int .i64 a1] wa (p_spec_l1Cur_assignment H0 w0 Ha L b0 r) := by
  unfold PF.spec_l1Cur_assignment at hp
  refine calls_go (N := 30) (args := [Value.pointer (some (⟨b0, 0, none⟩ : Addr)), Value.int .i64 a1]) Tryz.func188 rfl rfl rfl ?_
  refine FW.seq (FW.region ?_)
  refine FL.v (E.assign (v := Value.slice none 0 0) rfl) ?_
  refine FL.nil (FW.seq (FW.region ?_))
  obtain ⟨v21, w22, run23, S24⟩ := S0.buildSlice (P := Tryz.prog) te34 [] (parts := #[]) (cells := []) rfl szs_nil fc_nil ones_nil (Nat.le_of_ble_eq_true rfl)
  have els25 : Els (up w0.heap.size Ha) eI 1 [] [] := Els.nil
  refine FL.v (E.buildSlice (B0) run23) ?_
  refine FL.v (E.assign (v := v21) rfl) ?_
  refine FL.nil (FW.seq (FW.seq (FW.region ?_)))
  refine FL.v (E.assign (v := Value.int .i64 1) rfl) ?_
  refine FL.nil ?_
  obtain ⟨q26, hq, hp⟩ := bndR hp
  refine FW.block ?_
  refine FW.mono (FW.iter (S := ((List Int) × (List Int) × Int × Int × Int)) (X := Empty) (fun (s26 : ((List Int) × (List Int) × Int × Int × Int)) f w => ∃ H : GH, ∃ v87 : Value, ∃ n88 : Nat, ∃ cs89 : List Value, ∃ v91 : Value, St H0 w0 H w (.row 3 1 v87 n88 cs89 :: .box b0 92 [v91, Value.int .i64 s26.2.2.1, Value.int .u64 s26.2.2.2.1] :: L) ∧ Inc Ha H ∧ Els (up w0.heap.size H) eI 1 cs89 s26.1 ∧ RSl H (eN .u8) 1 v91 s26.2.1 ∧ f 0 = Value.pointer (some (⟨b0, 0, none⟩ : Addr)) ∧ f 1 = Value.int .i64 a1 ∧ f 5 = v87 ∧ f 6 = Value.int .i64 s26.2.2.2.2) (fun (q : Rs ((List Int) × (List Int) × Int × Int × Int) Empty) e f w => match q with | .go s26 => e = Exit.exit 0 ∧ (∃ H : GH, ∃ v87 : Value, ∃ n88 : Nat, ∃ cs89 : List Value, ∃ v91 : Value, St H0 w0 H w (.row 3 1 v87 n88 cs89 :: .box b0 92 [v91, Value.int .i64 s26.2.2.1, Value.int .u64 s26.2.2.2.1] :: L) ∧ Inc Ha H ∧ Els (up w0.heap.size H) eI 1 cs89 s26.1 ∧ RSl H (eN .u8) 1 v91 s26.2.1 ∧ f 5 = v87) | .rt x => x.elim) hq ⟨_, _, _, _, _, S24, (Inc.rfl _), els25, p0_0, rfl, rfl, rfl, rfl⟩ ?_) ?_
  ·
    clear hp hq
    rintro s26 f153 w152 ⟨H149, v87, n88, cs89, v91, S150, i151, els90, h92, k154, k155, k156, k157⟩ o205 hp
    refine FW.seq (FW.seq (FW.region ?_))
    refine FL.v (E.move k157) ?_
    refine FL.v (E.move k155) ?_
    refine FL.call rfl rfl rfl (E.call Tryz.call71 (A2 rfl rfl)) (w_spec_l1Least S150.sl a1 12) ?_
    rintro e w158 ⟨rfl, r159⟩
    refine ⟨_, rfl, ?_⟩
    have S160 := S150.call r159
    refine FL.v (E.leq rfl rfl) ?_
    refine FL.nil ?_
    rcases ifB hp with ⟨c161, hp⟩ | ⟨c161, hp⟩
    ·
      refine FW.condT rfl c161 ?_
      refine FW.skip (FW.seq (FW.block (FW.seq (FW.region ?_))))
      refine FL.v (E.move k154) ?_
      obtain ⟨r162, hr163, hp⟩ := bnd hp
      have S164 : St H0 w0 H149 w158 (.box b0 92 [v91, Value.int .i64 s26.2.2.1, Value.int .u64 s26.2.2.2.1] :: .row 3 1 v87 n88 cs89 :: L) := S160.front 1 rfl rfl
      refine FL.call rfl rfl rfl (E.call Tryz.call70 (A2 rfl rfl)) (w_spec_l1Cur_pick (L := (.row 3 1 v87 n88 cs89 :: L)) S164 (a0 := (l1Cur.mk s26.2.1 s26.2.2.1 s26.2.2.2.1)) h92 4 hr163) ?_
      rintro e w166 ⟨H165, v169, rfl, ⟨S167, i168⟩, h170⟩
      refine ⟨_, rfl, ?_⟩
      have S167 : St H0 w0 H165 w166 (.box b0 92 [v169, Value.int .i64 r162.2.at_, Value.int .u64 r162.2.seed] :: .row 3 1 v87 n88 cs89 :: L) := S167
      refine FL.nil (FW.block (FW.seq (FW.region ?_)))
      refine FL.v (E.eql rfl rfl) ?_
      refine FL.v (E.assign (v := Value.bool (r162.1 == 0)) rfl) ?_
      refine FL.nil ?_
      rcases ifB hp with ⟨c171, hp⟩ | ⟨c171, hp⟩
      ·
        refine FW.condT rfl c171 ?_
        refine FW.region ?_
        refine FL.v (E.move k156) ?_
        refine FL.v (E.move k157) ?_
        obtain ⟨v172, w173, run174, S175⟩ := S167.buildSlice (P := Tryz.prog) te34 [Value.int .i64 s26.2.2.2.2] (parts := #[(0, Value.int .i64 s26.2.2.2.2)]) (cells := [Value.int .i64 s26.2.2.2.2]) rfl (szs_cons rfl szs_nil) (fc_cons rfl fc_nil) (ones_cons rfl ones_nil) (Nat.le_of_ble_eq_true rfl)
        have els176 : Els (up w0.heap.size H165) eI 1 [Value.int .i64 s26.2.2.2.2] [s26.2.2.2.2] := (Els.snoc (H := (up w0.heap.size H165)) (E := eI) (k := 1) (c := [Value.int .i64 s26.2.2.2.2]) (x := s26.2.2.2.2) Els.nil rfl rfl)
        refine FL.v (E.buildSlice (B1 rfl) run174) ?_
        obtain ⟨xs177, hz178, hp⟩ := bnd hp
        obtain ⟨v179, w182, n180, cs181, run183, S184, els185, ce186⟩ := S175.appendO (P := Tryz.prog) te34 (i := 2) (j := 0) rfl (els90.mono (up_mono i168)) rfl els176 hz178
        have S184 : St H0 w0 H165 w182 (.row 3 1 v172 1 [Value.int .i64 s26.2.2.2.2] :: .box b0 92 [v169, Value.int .i64 r162.2.at_, Value.int .u64 r162.2.seed] :: .row 3 1 v179 n180 cs181 :: L) := S184
        have S187 : St H0 w0 H165 w182 (.box b0 92 [v169, Value.int .i64 r162.2.at_, Value.int .u64 r162.2.seed] :: .row 3 1 v179 n180 cs181 :: L) := S184.drop 0
        refine FL.v (E.append rfl rfl run183) ?_
        refine FL.v (E.assign (v := v179) rfl) ?_
        refine FL.nil (FW.region ?_)
        refine FL.v (E.move k157) ?_
        refine FL.v (E.add rfl rfl) ?_
        refine FL.v (E.assign (v := Value.int .i64 (wr (s26.2.2.2.2 + 1))) rfl) ?_
        refine FL.nil ?_
        obtain rfl := Option.some.inj hp
        exact ⟨rfl, ⟨_, _, _, _, _, (S187.selT (a := [.box b0 92 [v169, Value.int .i64 r162.2.at_, Value.int .u64 r162.2.seed], .row 3 1 v179 n180 cs181]) (l' := [.row 3 1 v179 n180 cs181, .box b0 92 [v169, Value.int .i64 r162.2.at_, Value.int .u64 r162.2.seed]]) [1, 0] (by decide) rfl), (i151.tr i168), els185, h170, k154, k155, rfl, rfl⟩⟩
      ·
        refine FW.condF rfl c171 ?_
        refine FW.seq (FW.region ?_)
        refine FL.v (E.eql rfl rfl) ?_
        refine FL.v (E.assign (v := Value.bool (r162.1 == 1)) rfl) ?_
        refine FL.nil ?_
        rcases ifB hp with ⟨c188, hp⟩ | ⟨c188, hp⟩
        ·
          refine FW.condT rfl c188 ?_
          refine FW.region ?_
          refine FL.v (E.move k156) ?_
          refine FL.v (E.move k157) ?_
          refine FL.v (E.neg rfl) ?_
          obtain ⟨v189, w190, run191, S192⟩ := S167.buildSlice (P := Tryz.prog) te34 [Value.int .i64 (wr (-s26.2.2.2.2))] (parts := #[(0, Value.int .i64 (wr (-s26.2.2.2.2)))]) (cells := [Value.int .i64 (wr (-s26.2.2.2.2))]) rfl (szs_cons rfl szs_nil) (fc_cons rfl fc_nil) (ones_cons rfl ones_nil) (Nat.le_of_ble_eq_true rfl)
          have els193 : Els (up w0.heap.size H165) eI 1 [Value.int .i64 (wr (-s26.2.2.2.2))] [(wr (-s26.2.2.2.2))] := (Els.snoc (H := (up w0.heap.size H165)) (E := eI) (k := 1) (c := [Value.int .i64 (wr (-s26.2.2.2.2))]) (x := (wr (-s26.2.2.2.2))) Els.nil rfl rfl)
          refine FL.v (E.buildSlice (B1 rfl) run191) ?_
          obtain ⟨xs194, hz195, hp⟩ := bnd hp
          obtain ⟨v196, w199, n197, cs198, run200, S201, els202, ce203⟩ := S192.appendO (P := Tryz.prog) te34 (i := 2) (j := 0) rfl (els90.mono (up_mono i168)) rfl els193 hz195
          have S201 : St H0 w0 H165 w199 (.row 3 1 v189 1 [Value.int .i64 (wr (-s26.2.2.2.2))] :: .box b0 92 [v169, Value.int .i64 r162.2.at_, Value.int .u64 r162.2.seed] :: .row 3 1 v196 n197 cs198 :: L) := S201
          have S204 : St H0 w0 H165 w199 (.box b0 92 [v169, Value.int .i64 r162.2.at_, Value.int .u64 r162.2.seed] :: .row 3 1 v196 n197 cs198 :: L) := S201.drop 0
          refine FL.v (E.append rfl rfl run200) ?_
          refine FL.v (E.assign (v := v196) rfl) ?_
          refine FL.nil (FW.region ?_)
          refine FL.v (E.move k157) ?_
          refine FL.v (E.add rfl rfl) ?_
          refine FL.v (E.assign (v := Value.int .i64 (wr (s26.2.2.2.2 + 1))) rfl) ?_
          refine FL.nil ?_
          obtain rfl := Option.some.inj hp
          exact ⟨rfl, ⟨_, _, _, _, _, (S204.selT (a := [.box b0 92 [v169, Value.int .i64 r162.2.at_, Value.int .u64 r162.2.seed], .row 3 1 v196 n197 cs198]) (l' := [.row 3 1 v196 n197 cs198, .box b0 92 [v169, Value.int .i64 r162.2.at_, Value.int .u64 r162.2.seed]]) [1, 0] (by decide) rfl), (i151.tr i168), els202, h170, k154, k155, rfl, rfl⟩⟩
        ·
          refine FW.condF rfl c188 ?_
          refine FW.skip (FW.region ?_)
          refine FL.v (E.move k157) ?_
          refine FL.v (E.add rfl rfl) ?_
          refine FL.v (E.assign (v := Value.int .i64 (wr (s26.2.2.2.2 + 1))) rfl) ?_
          refine FL.nil ?_
          obtain rfl := Option.some.inj hp
          exact ⟨rfl, ⟨_, _, _, _, _, (S167.selT (a := [.box b0 92 [v169, Value.int .i64 r162.2.at_, Value.int .u64 r162.2.seed], .row 3 1 v87 n88 cs89]) (l' := [.row 3 1 v87 n88 cs89, .box b0 92 [v169, Value.int .i64 r162.2.at_, Value.int .u64 r162.2.seed]]) [1, 0] (by decide) rfl), (i151.tr i168), (els90.mono (up_mono i168)), h170, k154, k155, k156, rfl⟩⟩
    ·
      refine FW.condF rfl c161 ?_
      refine FW.exit ?_
      obtain rfl := Option.some.inj hp
      exact ⟨nofun, rfl, ⟨_, _, _, _, _, S160, i151, els90, h92, k156⟩⟩
  ·
    clear hq
    intro e f210 w209 hD
    rcases q26 with s26 | x26
    ·
      obtain ⟨rfl, hD⟩ := hD
      obtain ⟨H206, v87, n88, cs89, v91, S207, i208, els90, h92, k211⟩ := hD
      replace hp := el_go hp
      refine FW.seq (FW.region ?_)
      refine FL.v (E.move k211) ?_
      refine FL.v (E.assign (v := v87) rfl) ?_
      refine FL.nil ?_
      refine FW.ret ?_
      obtain rfl := Option.some.inj hp
      exact ⟨.inr rfl, res1 rfl rfl ⟨_, _, _, _, _, rfl, ⟨S207, i208⟩, els90, h92⟩⟩
    · exact x26.elim

@[reducible] def p_spec_l1Cur_anyAssignment (H0 : GH) (w0 : World) (Ha : GH) (L : List MO) (b0 : Nat) (r : ((List Int) × l1Cur)) : Ending → World → Prop :=
 fun e w' => ∃ H' : GH, ∃ v0 : Value, ∃ n0 : Nat, ∃ c0 : List Value, ∃ v0_0r : Value, e = .returned (v0) ∧ (St H0 w0 H' w' (.row 3 1 v0 n0 c0 :: .box b0 92 [v0_0r, Value.int .i64 r.2.at_, Value.int .u64 r.2.seed] :: L) ∧ Inc Ha H') ∧ Els (up w0.heap.size H') eI 1 c0 r.1 ∧ RSl H' (eN .u8) 1 v0_0r r.2.code
theorem w_spec_l1Cur_anyAssignment {H0 Ha : GH} {w0 wa : World} {L : List MO} {a0 : l1Cur} {b0 : Nat} {v0_0 : Value} (S0 : St H0 w0 Ha wa (.box b0 92 [v0_0, Value.int .i64 a0.at_, Value.int .u64 a0.seed] :: L)) (p0_0 : RSl Ha (eN .u8) 1 v0_0 a0.code) (a1 : Int) {r : ((List Int) × l1Cur)} (hp : (PF.spec_l1Cur_anyAssignment a0 a1) = some r) :
  Calls Tryz.prog 89 #[Value.pointer (some (⟨b0, 0, none⟩ : Addr)), Value.int .i64 a1] wa (p_spec_l1Cur_anyAssignment H0 w0 Ha L b0 r) := by
 unfold PF.spec_l1Cur_anyAssignment at hp
 refine calls_go (N := 32) (args := [Value.pointer (some (⟨b0, 0, none⟩ : Addr)), Value.int .i64 a1]) Tryz.func89 rfl rfl rfl ?_
 refine FW.seq (FW.region ?_)
 refine FL.v (E.assign (v := Value.slice none 0 0) rfl) ?_
 refine FL.nil (FW.seq (FW.region ?_))
 refine FL.v (E.move (v := Value.pointer (some (⟨b0, 0, none⟩ : Addr))) rfl) ?_
 refine FL.v (E.move (v := Value.int .i64 a1) rfl) ?_
 obtain ⟨r21, hr22, hp⟩ := bnd hp
 refine FL.call rfl rfl rfl (E.call Tryz.call188 (A2 rfl rfl)) (w_spec_l1Cur_assignment (L := (L)) S0 (a0 := a0) p0_0 a1 hr22) ?_
 rintro e w24 ⟨H23, v27, n28, cs29, v31, rfl, ⟨S25, i26⟩, els30, h32⟩
 refine ⟨_, rfl, ?_⟩
 have S25 : St H0 w0 H23 w24 (.row 3 1 v27 n28 cs29 :: .box b0 92 [v31, Value.int .i64 r21.2.at_, Value.int .u64 r21.2.seed] :: L) := S25
 refine FL.v (E.assign (v := v27) rfl) ?_
 refine FL.nil (FW.seq (FW.seq (FW.region ?_)))
 refine FL.v (E.move (v := Value.pointer (some (⟨b0, 0, none⟩ : Addr))) rfl) ?_
 obtain ⟨r33, hr34, hp⟩ := bnd hp
 have S35 : St H0 w0 H23 w24 (.box b0 92 [v31, Value.int .i64 r21.2.at_, Value.int .u64 r21.2.seed] :: .row 3 1 v27 n28 cs29 :: L) := S25.front 1 rfl rfl
 refine FL.call rfl rfl rfl (E.call Tryz.call70 (A2 rfl rfl)) (w_spec_l1Cur_pick (L := (.row 3 1 v27 n28 cs29 :: L)) S35 (a0 := r21.2) h32 32 hr34) ?_
 rintro e w37 ⟨H36, v40, rfl, ⟨S38, i39⟩, h41⟩
 refine ⟨_, rfl, ?_⟩
 have S38 : St H0 w0 H36 w37 (.box b0 92 [v40, Value.int .i64 r33.2.at_, Value.int .u64 r33.2.seed] :: .row 3 1 v27 n28 cs29 :: L) := S38
 refine FL.nil (FW.block (FW.seq (FW.region ?_)))
 refine FL.v (E.eql rfl rfl) ?_
 refine FL.v (E.assign (v := Value.bool (r33.1 == 0)) rfl) ?_
 refine FL.nil ?_
 rcases ifB hp with ⟨c42, hp⟩ | ⟨c42, hp⟩
 ·
  refine FW.condT rfl c42 ?_
  refine FW.region ?_
  refine FL.v (E.move (v := v27) rfl) ?_
  refine FL.v (E.move (v := Value.pointer (some (⟨b0, 0, none⟩ : Addr))) rfl) ?_
  refine FL.v (E.move (v := Value.int .i64 a1) rfl) ?_
  obtain ⟨r43, hr44, hp⟩ := bnd hp
  refine FL.call rfl rfl rfl (E.call Tryz.call189 (A2 rfl rfl)) (w_spec_l1Cur_lit (L := (.row 3 1 v27 n28 cs29 :: L)) S38 (a0 := r33.2) h41 a1 hr44) ?_
  rintro e w46 ⟨H45, v49, rfl, ⟨S47, i48⟩, h50⟩
  refine ⟨_, rfl, ?_⟩
  have S47 : St H0 w0 H45 w46 (.box b0 92 [v49, Value.int .i64 r43.2.at_, Value.int .u64 r43.2.seed] :: .row 3 1 v27 n28 cs29 :: L) := S47
  obtain ⟨v51, w52, run53, S54⟩ := S47.buildSlice (P := Tryz.prog) te34 [Value.int .i64 r43.1] (parts := #[(0, Value.int .i64 r43.1)]) (cells := [Value.int .i64 r43.1]) rfl (szs_cons rfl szs_nil) (fc_cons rfl fc_nil) (ones_cons rfl ones_nil) (Nat.le_of_ble_eq_true rfl)
  have els55 : Els (up w0.heap.size H45) eI 1 [Value.int .i64 r43.1] [r43.1] := (Els.snoc (H := (up w0.heap.size H45)) (E := eI) (k := 1) (c := [Value.int .i64 r43.1]) (x := r43.1) Els.nil rfl rfl)
  refine FL.v (E.buildSlice (B1 rfl) run53) ?_
  obtain ⟨xs56, hz57, hp⟩ := bnd hp
  obtain ⟨v58, w61, n59, cs60, run62, S63, els64, ce65⟩ := S54.appendO (P := Tryz.prog) te34 (i := 2) (j := 0) rfl (els30.mono (up_mono (i39.tr i48))) rfl els55 hz57
  have S63 : St H0 w0 H45 w61 (.row 3 1 v51 1 [Value.int .i64 r43.1] :: .box b0 92 [v49, Value.int .i64 r43.2.at_, Value.int .u64 r43.2.seed] :: .row 3 1 v58 n59 cs60 :: L) := S63
  have S66 : St H0 w0 H45 w61 (.box b0 92 [v49, Value.int .i64 r43.2.at_, Value.int .u64 r43.2.seed] :: .row 3 1 v58 n59 cs60 :: L) := S63.drop 0
  refine FL.v (E.append rfl rfl run62) ?_
  refine FL.v (E.assign (v := v58) rfl) ?_
  refine FL.nil (FW.seq (FW.region ?_))
  refine FL.v (E.move (v := v58) rfl) ?_
  refine FL.v (E.assign (v := v58) rfl) ?_
  refine FL.nil ?_
  refine FW.ret ?_
  obtain rfl := Option.some.inj hp
  exact ⟨.inr rfl, res1 rfl rfl ⟨_, _, _, _, _, rfl, ⟨(S66.selT (a := [.box b0 92 [v49, Value.int .i64 r43.2.at_, Value.int .u64 r43.2.seed], .row 3 1 v58 n59 cs60]) (l' := [.row 3 1 v58 n59 cs60, .box b0 92 [v49, Value.int .i64 r43.2.at_, Value.int .u64 r43.2.seed]]) [1, 0] (by decide) rfl), ((i26.tr i39).tr i48)⟩, els64, h50⟩⟩
 ·
  refine FW.condF rfl c42 ?_
  refine FW.seq (FW.region ?_)
  refine FL.v (E.eql rfl rfl) ?_
  refine FL.v (E.assign (v := Value.bool (r33.1 == 1)) rfl) ?_
  refine FL.nil ?_
  rcases ifB hp with ⟨c67, hp⟩ | ⟨c67, hp⟩
  ·
   refine FW.condT rfl c67 ?_
   refine FW.seq (FW.region ?_)
   refine FL.v (E.move (v := v27) rfl) ?_
   refine FL.v (E.lenO te34 rfl S38 (i := 1) rfl els30 (by decide)) ?_
   refine FL.v (E.gtr rfl rfl) ?_
   refine FL.nil ?_
   rcases ifB hp with ⟨c68, hp⟩ | ⟨c68, hp⟩
   ·
    refine FW.condT rfl c68 ?_
    refine FW.region ?_
    refine FL.v (E.move (v := v27) rfl) ?_
    refine FL.v (E.move (v := Value.pointer (some (⟨b0, 0, none⟩ : Addr))) rfl) ?_
    refine FL.v (E.move (v := Value.int .i64 a1) rfl) ?_
    refine FL.v (E.add rfl rfl) ?_
    obtain ⟨v69, w70, run71, S72⟩ := S38.buildSlice (P := Tryz.prog) te34 [Value.int .i64 0, Value.int .i64 (wr (a1 + 1)), Value.int .i64 (-9223372036854775808)] (parts := #[(0, Value.int .i64 0), (1, Value.int .i64 (wr (a1 + 1))), (2, Value.int .i64 (-9223372036854775808))]) (cells := [Value.int .i64 0, Value.int .i64 (wr (a1 + 1)), Value.int .i64 (-9223372036854775808)]) rfl (szs_cons rfl (szs_cons rfl (szs_cons rfl szs_nil))) (fc_cons rfl (fc_cons rfl (fc_cons rfl fc_nil))) (ones_cons rfl (ones_cons rfl (ones_cons rfl ones_nil))) (Nat.le_of_ble_eq_true rfl)
    have els73 : Els (up w0.heap.size H36) eI 1 [Value.int .i64 0, Value.int .i64 (wr (a1 + 1)), Value.int .i64 (-9223372036854775808)] [0, (wr (a1 + 1)), (-9223372036854775808)] := (Els.snoc (H := (up w0.heap.size H36)) (E := eI) (k := 1) (c := [Value.int .i64 (-9223372036854775808)]) (x := (-9223372036854775808)) (Els.snoc (H := (up w0.heap.size H36)) (E := eI) (k := 1) (c := [Value.int .i64 (wr (a1 + 1))]) (x := (wr (a1 + 1))) (Els.snoc (H := (up w0.heap.size H36)) (E := eI) (k := 1) (c := [Value.int .i64 0]) (x := 0) Els.nil rfl rfl) rfl rfl) rfl rfl)
    refine FL.v (E.buildSlice (B3 rfl rfl rfl) run71) ?_
    obtain ⟨H74, S75, i76, h77, nv78⟩ := S72.sealRowU (i := 0) (l' := (.box b0 92 [v40, Value.int .i64 r33.2.at_, Value.int .u64 r33.2.seed] :: .row 3 1 v27 n28 cs29 :: L)) rfl els73 (by decide) rfl
    obtain ⟨r79, hr80, hp⟩ := bnd hp
    refine FL.call rfl rfl rfl (E.call Tryz.call69 (A2 rfl rfl)) (w_spec_l1Cur_among (L := (.row 3 1 v27 n28 cs29 :: L)) S75 (a0 := r33.2) (h41.mono i76) v69 [0, (wr (a1 + 1)), (-9223372036854775808)] (h77.mono upI) hr80) ?_
    rintro e w82 ⟨H81, v85, rfl, ⟨S83, i84⟩, h86⟩
    refine ⟨_, rfl, ?_⟩
    have S83 : St H0 w0 H81 w82 (.box b0 92 [v85, Value.int .i64 r79.2.at_, Value.int .u64 r79.2.seed] :: .row 3 1 v27 n28 cs29 :: L) := S83
    obtain ⟨x93, hx94, hp⟩ := bnd hp
    obtain ⟨p87, cs88, pt89, l90, at91, rel92⟩ := S83.row_at (i := 1) rfl els30 (by decide) hx94
    obtain rfl := eI_open rel92
    refine FL.v (E.indexAddr te34 rfl rfl pt89) ?_
    obtain ⟨xs98, hput99, hp⟩ := bnd hp
    obtain ⟨w95, cs101, run96, S97, els100, ce102⟩ := S83.putEls (P := Tryz.prog) (t := 3) (i := 1) rfl (els30.mono (up_mono ((i39.tr i76).tr i84))) hput99 pt89 Tryz.sizeOf3 (u := Value.int .i64 r79.1) (c := [Value.int .i64 r79.1]) rfl rfl (ones_cons rfl ones_nil) rfl
    have S97 : St H0 w0 H81 w95 (.box b0 92 [v85, Value.int .i64 r79.2.at_, Value.int .u64 r79.2.seed] :: .row 3 1 v27 n28 cs101 :: L) := S97
    refine FL.act rfl rfl (E.store rfl rfl run96) ?_
    refine FL.nil (FW.seq (FW.region ?_))
    refine FL.v (E.move (v := v27) rfl) ?_
    refine FL.v (E.assign (v := v27) rfl) ?_
    refine FL.nil ?_
    refine FW.ret ?_
    obtain rfl := Option.some.inj hp
    exact ⟨.inr rfl, res1 rfl rfl ⟨_, _, _, _, _, rfl, ⟨(S97.selT (a := [.box b0 92 [v85, Value.int .i64 r79.2.at_, Value.int .u64 r79.2.seed], .row 3 1 v27 n28 cs101]) (l' := [.row 3 1 v27 n28 cs101, .box b0 92 [v85, Value.int .i64 r79.2.at_, Value.int .u64 r79.2.seed]]) [1, 0] (by decide) rfl), (((i26.tr i39).tr i76).tr i84)⟩, els100, h86⟩⟩
   ·
    refine FW.condF rfl c68 ?_
    refine FW.skip (FW.seq (FW.region ?_))
    refine FL.v (E.move (v := v27) rfl) ?_
    refine FL.v (E.assign (v := v27) rfl) ?_
    refine FL.nil ?_
    refine FW.ret ?_
    obtain rfl := Option.some.inj hp
    exact ⟨.inr rfl, res1 rfl rfl ⟨_, _, _, _, _, rfl, ⟨(S38.selT (a := [.box b0 92 [v40, Value.int .i64 r33.2.at_, Value.int .u64 r33.2.seed], .row 3 1 v27 n28 cs29]) (l' := [.row 3 1 v27 n28 cs29, .box b0 92 [v40, Value.int .i64 r33.2.at_, Value.int .u64 r33.2.seed]]) [1, 0] (by decide) rfl), (i26.tr i39)⟩, (els30.mono (up_mono i39)), h41⟩⟩
  ·
   refine FW.condF rfl c67 ?_
   refine FW.skip (FW.seq (FW.region ?_))
   refine FL.v (E.move (v := v27) rfl) ?_
   refine FL.v (E.assign (v := v27) rfl) ?_
   refine FL.nil ?_
   refine FW.ret ?_
   obtain rfl := Option.some.inj hp
   exact ⟨.inr rfl, res1 rfl rfl ⟨_, _, _, _, _, rfl, ⟨(S38.selT (a := [.box b0 92 [v40, Value.int .i64 r33.2.at_, Value.int .u64 r33.2.seed], .row 3 1 v27 n28 cs29]) (l' := [.row 3 1 v27 n28 cs29, .box b0 92 [v40, Value.int .i64 r33.2.at_, Value.int .u64 r33.2.seed]]) [1, 0] (by decide) rfl), (i26.tr i39)⟩, (els30.mono (up_mono i39)), h41⟩⟩

@[reducible] def p_spec_DrawPropagate (Ha : GH) (wa : World) (r : (Cnf × (List Int))) : Ending → World → Prop :=
 fun e w' => ∃ H' : GH, ∃ v0_1 : Value, ∃ v1 : Value, ∃ n1 : Nat, ∃ c1 : List Value, e = .returned (Value.tuple #[Value.agg #[Value.int .i64 r.1.vars, v0_1], v1]) ∧ St Ha wa H' w' [.row 3 1 v1 n1 c1] ∧ RSl (up wa.heap.size H') (eL eI 1) 1 v0_1 r.1.clauses ∧ Els (up wa.heap.size H') eI 1 c1 r.2
theorem w_spec_DrawPropagate {Ha : GH} {wa : World} (hs : Sl Ha wa) (v0 : Value) (a0 : List Int) (p0 : RSl Ha (eN .u8) 1 v0 a0) {r : (Cnf × (List Int))} (hp : (PF.spec_DrawPropagate a0) = some r) :
  Calls Tryz.prog 15 #[v0] wa (p_spec_DrawPropagate Ha wa r) := by
 unfold PF.spec_DrawPropagate at hp
 have S0 := St.init hs
 refine calls_go (N := 27) (args := [v0]) Tryz.func15 rfl rfl rfl ?_
 refine FW.seq (FW.region ?_)
 obtain ⟨b21, w22, run23, S24⟩ := S0.alloc (P := Tryz.prog) 26 [Value.int .i64 0, Value.slice none 0 0] Tryz.zeroValue26 rfl (ones_cons rfl (ones_cons rfl ones_nil))
 refine FL.v (E.alloc run23) ?_
 refine FL.v (E.assign (v := Value.slice none 0 0) rfl) ?_
 refine FL.nil (FW.seq (FW.region ?_))
 refine FL.v (E.move (v := v0) rfl) ?_
 refine FL.v (E.build (B1 rfl) (run_build _ 92 #[(0, v0)] #[v0, Value.int .i64 0, Value.int .u64 0] (by obtain ⟨_, _, rfl⟩ := RSl.ln p0; rfl))) ?_
 obtain ⟨b25, w26, run27, S28⟩ := S24.box (P := Tryz.prog) 92 [v0, Value.int .i64 0, Value.int .u64 0] (v := Value.agg #[v0, Value.int .i64 0, Value.int .u64 0]) rfl (ones_cons p0.one (ones_cons rfl (ones_cons rfl ones_nil)))
 refine FL.v (E.box rfl run27) ?_
 refine FL.v (E.assign (v := Value.pointer (some (⟨b25, 0, none⟩ : Addr))) rfl) ?_
 refine FL.nil (FW.seq (FW.region ?_))
 refine FL.v (E.move (v := Value.pointer (some (⟨b25, 0, none⟩ : Addr))) rfl) ?_
 obtain ⟨r29, hr30, hp⟩ := bnd hp
 refine FL.call rfl rfl rfl (E.call Tryz.call67 (A1 rfl)) (w_spec_l1Cur_cnf (L := [.box b21 26 [Value.int .i64 0, Value.slice none 0 0]]) S28 (a0 := (l1Cur.mk a0 0 0)) p0 hr30) ?_
 rintro e w32 ⟨H31, v35, v37, rfl, ⟨S33, i34⟩, h36, h38⟩
 refine ⟨_, rfl, ?_⟩
 have S33 : St Ha wa H31 w32 [.box b25 92 [v37, Value.int .i64 r29.2.at_, Value.int .u64 r29.2.seed], .box b21 26 [Value.int .i64 0, Value.slice none 0 0]] := S33
 obtain ⟨b39, w40, run41, S42⟩ := S33.alloc (P := Tryz.prog) 26 [Value.int .i64 0, Value.slice none 0 0] Tryz.zeroValue26 rfl (ones_cons rfl (ones_cons rfl ones_nil))
 refine FL.v (E.alloc run41) ?_
 obtain ⟨w43, run44, S45⟩ := S42.store0 (P := Tryz.prog) (t := 26) (i := 0) (cs' := [Value.int .i64 r29.1.vars, v35]) (l' := [.box b39 26 [Value.int .i64 r29.1.vars, v35], .box b25 92 [v37, Value.int .i64 r29.2.at_, Value.int .u64 r29.2.seed], .box b21 26 [Value.int .i64 0, Value.slice none 0 0]]) (v := Value.agg #[Value.int .i64 r29.1.vars, v35]) (c := [Value.int .i64 r29.1.vars, v35]) rfl Tryz.sizeOf26 rfl rfl (ones_cons rfl (ones_cons h36.one ones_nil)) (Nat.le_of_ble_eq_true rfl) rfl rfl
 refine FL.act rfl rfl (E.store rfl rfl run44) ?_
 obtain ⟨H46, S47, i48, at49⟩ := S45.sealBox (i := 0) (l' := [.box b25 92 [v37, Value.int .i64 r29.2.at_, Value.int .u64 r29.2.seed], .box b21 26 [Value.int .i64 0, Value.slice none 0 0]]) rfl rfl
 refine FL.nil (FW.seq (FW.region ?_))
 refine FL.v (E.move (v := Value.pointer (some (⟨b25, 0, none⟩ : Addr))) rfl) ?_
 refine FL.v (E.fieldAddr tf26_0 rfl) ?_
 refine FL.v (E.load rfl (run_load1 Tryz.isAgg3 (at49.now S47.sl) rfl)) ?_
 obtain ⟨r50, hr51, hp⟩ := bnd hp
 refine FL.call rfl rfl rfl (E.call Tryz.call89 (A2 rfl rfl)) (w_spec_l1Cur_anyAssignment (L := [.box b21 26 [Value.int .i64 0, Value.slice none 0 0]]) S47 (a0 := r29.2) (h38.mono i48) r29.1.vars hr51) ?_
 rintro e w53 ⟨H52, v56, n57, cs58, v60, rfl, ⟨S54, i55⟩, els59, h61⟩
 refine ⟨_, rfl, ?_⟩
 have S54 : St Ha wa H52 w53 [.row 3 1 v56 n57 cs58, .box b25 92 [v60, Value.int .i64 r50.2.at_, Value.int .u64 r50.2.seed], .box b21 26 [Value.int .i64 0, Value.slice none 0 0]] := S54
 refine FL.v (E.assign (v := v56) rfl) ?_
 refine FL.nil (FW.seq (FW.seq (FW.region ?_)))
 refine FL.v (E.move (v := Value.pointer (some (⟨b25, 0, none⟩ : Addr))) rfl) ?_
 obtain ⟨r62, hr63, hp⟩ := bnd hp
 have S64 : St Ha wa H52 w53 [.box b25 92 [v60, Value.int .i64 r50.2.at_, Value.int .u64 r50.2.seed], .row 3 1 v56 n57 cs58, .box b21 26 [Value.int .i64 0, Value.slice none 0 0]] := S54.front 1 rfl rfl
 refine FL.call rfl rfl rfl (E.call Tryz.call68 (A2 rfl rfl)) (w_spec_l1Cur_one (L := [.row 3 1 v56 n57 cs58, .box b21 26 [Value.int .i64 0, Value.slice none 0 0]]) S64 (a0 := r50.2) h61 2 hr63) ?_
 rintro e w66 ⟨H65, v69, rfl, ⟨S67, i68⟩, h70⟩
 refine ⟨_, rfl, ?_⟩
 have S67 : St Ha wa H65 w66 [.box b25 92 [v69, Value.int .i64 r62.2.at_, Value.int .u64 r62.2.seed], .row 3 1 v56 n57 cs58, .box b21 26 [Value.int .i64 0, Value.slice none 0 0]] := S67
 refine FL.v (E.move (v := Value.bool r62.1) rfl) ?_
 refine FL.cut 4 (fun f w => ∃ H : GH, St Ha wa H w [.box b25 92 [v69, Value.int .i64 r62.2.at_, Value.int .u64 r62.2.seed], .row 3 1 v56 n57 cs58, .box b21 26 [Value.int .i64 0, Value.slice none 0 0]] ∧ Inc H65 H ∧ f 2 = Value.pointer (some (⟨b21, 0, none⟩ : Addr)) ∧ f 5 = Value.pointer (some ⟨b39, 0, none⟩) ∧ f 6 = v56 ∧ f 22 = Value.bool (bif r62.1 then (decide (1 < (len r50.1))) else false)) ?_ ?_
 ·
  rcases bcase r62.1 with c77 | c77
  ·
   refine FL.val (wF_yes rfl rfl rfl c77) rfl rfl (E.move (v := v56) rfl) ?_
   refine FL.val (wF_yes rfl rfl rfl c77) rfl rfl (E.lenO te34 rfl S67 (i := 1) rfl els59 (by decide)) ?_
   refine FL.val (wF_yes rfl rfl rfl c77) rfl rfl (E.gtr rfl rfl) ?_
   refine FL.v (E.pickT rfl c77 rfl) ?_
   exact FL.nil ⟨rfl, _, S67, (Inc.rfl _), rfl, rfl, rfl, (congrArg Value.bool (bifT c77).symm)⟩
  ·
   refine FL.skip (wF_no rfl rfl rfl c77) rfl ?_
   refine FL.skip (wF_no rfl rfl rfl c77) rfl ?_
   refine FL.skip (wF_no rfl rfl rfl c77) rfl ?_
   refine FL.v (E.pickF rfl c77 rfl) ?_
   exact FL.nil ⟨rfl, _, S67, (Inc.rfl _), rfl, rfl, rfl, (congrArg Value.bool (bifF c77).symm)⟩
 rintro f76 w75 ⟨H72, S73, i74, k78, k79, k80, k81⟩
 refine FL.nil ?_
 rcases ifB hp with ⟨c82, hp⟩ | ⟨c82, hp⟩
 ·
  refine FW.condT k81 c82 ?_
  refine FW.region ?_
  refine FL.v (E.move k80) ?_
  obtain ⟨xs83, hc84, hp⟩ := bnd hp
  obtain ⟨v85, n86, cs87, run88, S89, els90, nd91⟩ := S73.cutRow te34 (kk := .i64) (i := 1) rfl els59 hc84
  have S89 : St Ha wa H72 w75 [.box b25 92 [v69, Value.int .i64 r62.2.at_, Value.int .u64 r62.2.seed], .row 3 1 v85 n86 cs87, .box b21 26 [Value.int .i64 0, Value.slice none 0 0]] := S89
  refine FL.v (E.slice te34 rfl rfl (congrArg some rfl) rfl (run88 _)) ?_
  refine FL.v (E.assign (v := v85) rfl) ?_
  refine FL.nil (FW.seq (FW.region ?_))
  refine FL.v (E.load k79 (run_loadA Tryz.isAgg26 Tryz.sizeOf26 ((at49.mono ((i55.tr i68).tr i74)).now S89.sl) rfl)) ?_
  refine FL.v (E.move (v := v85) rfl) ?_
  obtain ⟨w92, run93, S94⟩ := S89.store0 (P := Tryz.prog) (t := 26) (i := 2) (cs' := [Value.int .i64 r29.1.vars, v35]) (l' := [.box b25 92 [v69, Value.int .i64 r62.2.at_, Value.int .u64 r62.2.seed], .row 3 1 v85 n86 cs87, .box b21 26 [Value.int .i64 r29.1.vars, v35]]) (v := Value.agg #[Value.int .i64 r29.1.vars, v35]) (c := [Value.int .i64 r29.1.vars, v35]) rfl Tryz.sizeOf26 rfl rfl (ones_cons rfl (ones_cons h36.one ones_nil)) (Nat.le_of_ble_eq_true rfl) rfl rfl
  refine FL.act rfl rfl (E.store k78 rfl run93) ?_
  obtain ⟨H95, S96, i97, at98⟩ := S94.sealBox (i := 2) (l' := [.box b25 92 [v69, Value.int .i64 r62.2.at_, Value.int .u64 r62.2.seed], .row 3 1 v85 n86 cs87]) rfl rfl
  refine FL.v (E.assign (v := v85) rfl) ?_
  refine FL.nil ?_
  refine FW.ret ?_
  obtain rfl := Option.some.inj hp
  exact ⟨.inr rfl, resC2 rfl k78 (loadVar_A Tryz.isAgg26 Tryz.sizeOf26 (at98.now S96.sl) rfl) rfl ⟨_, _, _, _, _, rfl, (S96.sel [1] (by decide) rfl), (h36.mono (up_mono ((((i48.tr i55).tr i68).tr i74).tr i97))), (els90.mono (up_mono ((i68.tr i74).tr i97)))⟩⟩
 ·
  refine FW.condF k81 c82 ?_
  refine FW.skip (FW.seq (FW.region ?_))
  refine FL.v (E.load k79 (run_loadA Tryz.isAgg26 Tryz.sizeOf26 ((at49.mono ((i55.tr i68).tr i74)).now S73.sl) rfl)) ?_
  refine FL.v (E.move k80) ?_
  obtain ⟨w99, run100, S101⟩ := S73.store0 (P := Tryz.prog) (t := 26) (i := 2) (cs' := [Value.int .i64 r29.1.vars, v35]) (l' := [.box b25 92 [v69, Value.int .i64 r62.2.at_, Value.int .u64 r62.2.seed], .row 3 1 v56 n57 cs58, .box b21 26 [Value.int .i64 r29.1.vars, v35]]) (v := Value.agg #[Value.int .i64 r29.1.vars, v35]) (c := [Value.int .i64 r29.1.vars, v35]) rfl Tryz.sizeOf26 rfl rfl (ones_cons rfl (ones_cons h36.one ones_nil)) (Nat.le_of_ble_eq_true rfl) rfl rfl
  refine FL.act rfl rfl (E.store k78 rfl run100) ?_
  obtain ⟨H102, S103, i104, at105⟩ := S101.sealBox (i := 2) (l' := [.box b25 92 [v69, Value.int .i64 r62.2.at_, Value.int .u64 r62.2.seed], .row 3 1 v56 n57 cs58]) rfl rfl
  refine FL.v (E.assign (v := v56) rfl) ?_
  refine FL.nil ?_
  refine FW.ret ?_
  obtain rfl := Option.some.inj hp
  exact ⟨.inr rfl, resC2 rfl k78 (loadVar_A Tryz.isAgg26 Tryz.sizeOf26 (at105.now S103.sl) rfl) rfl ⟨_, _, _, _, _, rfl, (S103.sel [1] (by decide) rfl), (h36.mono (up_mono ((((i48.tr i55).tr i68).tr i74).tr i104))), (els59.mono (up_mono ((i68.tr i74).tr i104)))⟩⟩

theorem w_impl_within {Ha : GH} {wa : World} (hs : Sl Ha wa) (a0 : Int) (a1 : Int) (a2 : Int) :
  Calls Tryz.prog 87 #[Value.int .i64 a0, Value.int .i64 a1, Value.int .i64 a2] wa (Sc Ha wa (Value.bool (PF.impl_within a0 a1 a2))) := by
 obtain ⟨r, hp⟩ : ∃ r, (PF.impl_within a0 a1 a2) = r := ⟨_, rfl⟩
 rw [hp]
 unfold PF.impl_within at hp
 have S0 := St.init hs
 refine calls_go (N := 15) (args := [Value.int .i64 a0, Value.int .i64 a1, Value.int .i64 a2]) Tryz.func87 rfl rfl rfl ?_
 refine FW.seq (FW.region ?_)
 refine FL.v (E.assign (v := Value.bool false) rfl) ?_
 refine FL.nil (FW.seq (FW.region ?_))
 refine FL.v (E.move (v := Value.int .i64 a0) rfl) ?_
 refine FL.v (E.move (v := Value.int .i64 a1) rfl) ?_
 refine FL.v (E.geq rfl rfl) ?_
 refine FL.v (E.move (v := Value.bool (decide (a1 ≤ a0))) rfl) ?_
 refine FL.cut 4 (fun f w => ∃ H : GH, St Ha wa H w [] ∧ Inc Ha H ∧ f 14 = Value.bool (bif (decide (a1 ≤ a0)) then (decide (a0 ≤ a2)) else false)) ?_ ?_
 ·
  rcases bcase (decide (a1 ≤ a0)) with c27 | c27
  ·
   refine FL.val (wF_yes rfl rfl rfl c27) rfl rfl (E.move (v := Value.int .i64 a0) rfl) ?_
   refine FL.val (wF_yes rfl rfl rfl c27) rfl rfl (E.move (v := Value.int .i64 a2) rfl) ?_
   refine FL.val (wF_yes rfl rfl rfl c27) rfl rfl (E.leq rfl rfl) ?_
   refine FL.v (E.pickT rfl c27 rfl) ?_
   exact FL.nil ⟨rfl, _, S0, (Inc.rfl _), (congrArg Value.bool (bifT c27).symm)⟩
  ·
   refine FL.skip (wF_no rfl rfl rfl c27) rfl ?_
   refine FL.skip (wF_no rfl rfl rfl c27) rfl ?_
   refine FL.skip (wF_no rfl rfl rfl c27) rfl ?_
   refine FL.v (E.pickF rfl c27 rfl) ?_
   exact FL.nil ⟨rfl, _, S0, (Inc.rfl _), (congrArg Value.bool (bifF c27).symm)⟩
 rintro f26 w25 ⟨H22, S23, i24, k28⟩
 refine FL.v (E.assign k28) ?_
 refine FL.nil ?_
 refine FW.ret ?_
 obtain rfl := hp
 exact ⟨.inr rfl, res1 rfl rfl ⟨rfl, S23.back⟩⟩

theorem w_impl_isLiteral {Ha : GH} {wa : World} (hs : Sl Ha wa) (a0 : Int) (a1 : Int) :
  Calls Tryz.prog 213 #[Value.int .i64 a0, Value.int .i64 a1] wa (Sc Ha wa (Value.bool (PF.impl_isLiteral a0 a1))) := by
 obtain ⟨r, hp⟩ : ∃ r, (PF.impl_isLiteral a0 a1) = r := ⟨_, rfl⟩
 rw [hp]
 unfold PF.impl_isLiteral at hp
 have S0 := St.init hs
 refine calls_go (N := 14) (args := [Value.int .i64 a0, Value.int .i64 a1]) Tryz.func213 rfl rfl rfl ?_
 refine FW.seq (FW.region ?_)
 refine FL.v (E.assign (v := Value.bool false) rfl) ?_
 refine FL.nil (FW.seq (FW.region ?_))
 refine FL.v (E.move (v := Value.int .i64 a1) rfl) ?_
 refine FL.v (E.neq rfl rfl) ?_
 refine FL.v (E.move (v := Value.bool (!(a1 == 0))) rfl) ?_
 refine FL.cut 6 (fun f w => ∃ H : GH, St Ha wa H w [] ∧ Inc Ha H ∧ f 13 = Value.bool (bif (!(a1 == 0)) then (PF.impl_within a1 (wr (-a0)) a0) else false)) ?_ ?_
 ·
  rcases bcase (!(a1 == 0)) with c30 | c30
  ·
   refine FL.val (wF_yes rfl rfl rfl c30) rfl rfl (E.move (v := Value.int .i64 a1) rfl) ?_
   refine FL.val (wF_yes rfl rfl rfl c30) rfl rfl (E.move (v := Value.int .i64 a0) rfl) ?_
   refine FL.val (wF_yes rfl rfl rfl c30) rfl rfl (E.neg rfl) ?_
   refine FL.val (wF_yes rfl rfl rfl c30) rfl rfl (E.move (v := Value.int .i64 a0) rfl) ?_
   refine FL.call (wF_yes rfl rfl rfl c30) rfl rfl (E.call Tryz.call87 (A3 rfl rfl rfl)) (w_impl_within S0.sl a1 (wr (-a0)) a0) ?_
   rintro e w31 ⟨rfl, r32⟩
   refine ⟨_, rfl, ?_⟩
   have S33 := S0.call r32
   refine FL.v (E.pickT rfl c30 rfl) ?_
   exact FL.nil ⟨rfl, _, S33, (Inc.rfl _), (congrArg Value.bool (bifT c30).symm)⟩
  ·
   refine FL.skip (wF_no rfl rfl rfl c30) rfl ?_
   refine FL.skip (wF_no rfl rfl rfl c30) rfl ?_
   refine FL.skip (wF_no rfl rfl rfl c30) rfl ?_
   refine FL.skip (wF_no rfl rfl rfl c30) rfl ?_
   refine FL.skip (wF_no rfl rfl rfl c30) rfl ?_
   refine FL.v (E.pickF rfl c30 rfl) ?_
   exact FL.nil ⟨rfl, _, S0, (Inc.rfl _), (congrArg Value.bool (bifF c30).symm)⟩
 rintro f29 w28 ⟨H25, S26, i27, k34⟩
 refine FL.v (E.assign k34) ?_
 refine FL.nil ?_
 refine FW.ret ?_
 obtain rfl := hp
 exact ⟨.inr rfl, res1 rfl rfl ⟨rfl, S26.back⟩⟩

theorem w_impl_abs {Ha : GH} {wa : World} (hs : Sl Ha wa) (a0 : Int) :
  Calls Tryz.prog 214 #[Value.int .i64 a0] wa (Sc Ha wa (Value.int .i64 (PF.impl_abs a0))) := by
 obtain ⟨r, hp⟩ : ∃ r, (PF.impl_abs a0) = r := ⟨_, rfl⟩
 rw [hp]
 unfold PF.impl_abs at hp
 have S0 := St.init hs
 refine calls_go (N := 7) (args := [Value.int .i64 a0]) Tryz.func214 rfl rfl rfl ?_
 refine FW.seq (FW.region ?_)
 refine FL.v (E.assign (v := Value.int .i64 0) rfl) ?_
 refine FL.nil (FW.seq (FW.region ?_))
 refine FL.v (E.move (v := Value.int .i64 a0) rfl) ?_
 refine FL.v (E.move (v := Value.int .i64 a0) rfl) ?_
 refine FL.v (E.neg rfl) ?_
 refine FL.v (E.max2 rfl rfl) ?_
 refine FL.v (E.assign (v := Value.int .i64 (mx a0 (wr (-a0)))) rfl) ?_
 refine FL.nil ?_
 refine FW.ret ?_
 obtain rfl := hp
 exact ⟨.inr rfl, res1 rfl rfl ⟨rfl, S0.back⟩⟩

theorem w_impl_varsOk {Ha : GH} {wa : World} (hs : Sl Ha wa) (a0 : Int) :
  Calls Tryz.prog 96 #[Value.int .i64 a0] wa (Sc Ha wa (Value.bool (PF.impl_varsOk a0))) := by
 obtain ⟨r, hp⟩ : ∃ r, (PF.impl_varsOk a0) = r := ⟨_, rfl⟩
 rw [hp]
 unfold PF.impl_varsOk at hp
 have S0 := St.init hs
 refine calls_go (N := 5) (args := [Value.int .i64 a0]) Tryz.func96 rfl rfl rfl ?_
 refine FW.seq (FW.region ?_)
 refine FL.v (E.assign (v := Value.bool false) rfl) ?_
 refine FL.nil (FW.seq (FW.region ?_))
 refine FL.v (E.move (v := Value.int .i64 a0) rfl) ?_
 refine FL.call rfl rfl rfl (E.call Tryz.call87 (A3 rfl rfl rfl)) (w_impl_within S0.sl a0 0 12) ?_
 rintro e w21 ⟨rfl, r22⟩
 refine ⟨_, rfl, ?_⟩
 have S23 := S0.call r22
 refine FL.v (E.assign (v := Value.bool (PF.impl_within a0 0 12)) rfl) ?_
 refine FL.nil ?_
 refine FW.ret ?_
 obtain rfl := hp
 exact ⟨.inr rfl, res1 rfl rfl ⟨rfl, S23.back⟩⟩

theorem w_impl_IsClause {Ha : GH} {wa : World} (hs : Sl Ha wa) (a0 : Int) (v1 : Value) (a1 : List Int) (p1 : RSl Ha eI 1 v1 a1) {r : Bool} (hp : (PF.impl_IsClause a0 a1) = some r) :
  Calls Tryz.prog 118 #[Value.int .i64 a0, v1] wa (Sc Ha wa (Value.bool r)) := by
 unfold PF.impl_IsClause at hp
 have S0 := St.init hs
 refine calls_go (N := 36) (args := [Value.int .i64 a0, v1]) Tryz.func118 rfl rfl rfl ?_
 refine FW.seq (FW.region ?_)
 refine FL.v (E.assign (v := Value.bool false) rfl) ?_
 refine FL.nil (FW.seq (FW.seq (FW.region ?_)))
 refine FL.v (E.move (v := v1) rfl) ?_
 refine FL.v (E.lenP te34 rfl p1) ?_
 refine FL.v (E.move (v := Value.int .i64 0) rfl) ?_
 refine FL.nil ?_
 obtain ⟨q22, hq, hp⟩ := bndR hp
 refine FW.block ?_
 refine FW.mono (FW.forL (S := Unit) (X := Bool) (fun (i22 : Nat) (s22 : Unit) f w => ∃ H : GH, St Ha wa H w [] ∧ Inc Ha H ∧ f 9 = Value.int .i64 ((i22 : Nat) : Int) ∧ f 0 = Value.int .i64 a0 ∧ f 1 = v1 ∧ f 7 = v1 ∧ f 8 = Value.int .i64 (len a1)) (fun q e f w => match q with | .go s22 => e = Exit.exit 0 ∧ (∃ H : GH, St Ha wa H w [] ∧ Inc Ha H ∧ f 0 = Value.int .i64 a0) | .rt x => ((e = Exit.ret) ∧ (fun e f w => (e = Exit.normal ∨ e = Exit.ret) ∧ ∀ a, Fr (δ := []) 36 a f → ∃ v, (results Tryz.f118 a.tmps).run Tryz.prog w = .ok v w ∧ (Sc Ha wa (Value.bool x)) (.returned v) w) e f w)) hq ⟨_, S0, (Inc.rfl _), rfl, rfl, rfl, rfl, rfl⟩ ?_ ?_) ?_
 ·
  clear hp hq
  rintro i22 y21 s22 f121 w120 ⟨H117, S118, i119, k122, k123, k124, k125, k126⟩ hx22 o211 hp
  refine FW.seq (FW.region ?_)
  refine FL.v (E.lssT k122 k126 (lss_len hx22)) ?_
  refine FL.nil (FW.seq ?_)
  refine FW.condT rfl rfl ?_
  refine FW.skip (FW.seq (FW.block (FW.seq (FW.region ?_))))
  refine FL.v (E.move k122) ?_
  obtain ⟨p127, cs128, pt129, l130, at131, rel132⟩ := p1.at (ix_nat hx22)
  obtain rfl := eI_open rel132
  refine FL.v (E.indexAddr te34 k125 k122 pt129) ?_
  refine FL.v (E.load rfl (run_load0 Tryz.isAgg3 ((at131.mono i119).now S118.sl) rfl)) ?_
  refine FL.v (E.assign (v := Value.int .i64 ((i22 : Nat) : Int)) rfl) ?_
  refine FL.v (E.assign (v := Value.int .i64 y21) rfl) ?_
  refine FL.nil (FW.seq ?_)
  refine FW.draw (fun w' => Run w120.heap.size H117 w120 H117 w') (by kernel_rfl) (by kernel_rfl) (run_drew S118.sl) ?_
  refine FD.val rfl rfl rfl (fun w' hw' => (E.move k123)) ?_
  refine FD.val rfl rfl rfl (fun w' hw' => (E.move (v := Value.int .i64 y21) rfl)) ?_
  refine FD.call rfl rfl rfl (fun w' hw' => (E.call Tryz.call213 (A2 rfl rfl))) (fun w' hw' => Calls.cls hw' (w_impl_isLiteral (S118.call hw').sl a0 y21)) ?_
  refine FD.val rfl rfl rfl (fun w' hw' => (E.not rfl)) ?_
  refine FD.val rfl rfl rfl (fun w' hw' => (E.move (v := Value.bool (!(PF.impl_isLiteral a0 y21))) rfl)) ?_
  obtain ⟨t164, hqt164, hp⟩ := bnd hp
  refine FD.cut 14 (fun f => f 0 = Value.int .i64 a0 ∧ f 1 = v1 ∧ f 7 = v1 ∧ f 8 = Value.int .i64 (len a1) ∧ f 9 = Value.int .i64 ((i22 : Nat) : Int) ∧ f 32 = Value.bool t164) ?_ ?_
  ·
   clear hp; have hp := hqt164; clear hqt164
   rcases ifB hp with ⟨c170, hp⟩ | ⟨c170, hp⟩
   ·
    refine FD.skip (wF_no rfl rfl rfl c170) rfl ?_
    refine FD.skip (wF_no rfl rfl rfl c170) rfl ?_
    refine FD.skip (wF_no rfl rfl rfl c170) rfl ?_
    refine FD.skip (wF_undef rfl rfl rfl) rfl ?_
    refine FD.skip (wF_undef rfl rfl rfl) rfl ?_
    refine FD.skip (wF_undef rfl rfl rfl) rfl ?_
    refine FD.skip (wF_undef rfl rfl rfl) rfl ?_
    refine FD.skip (wF_undef rfl rfl rfl) rfl ?_
    refine FD.skip (wF_undef rfl rfl rfl) rfl ?_
    refine FD.skip (wF_undef rfl rfl rfl) rfl ?_
    refine FD.skip (wF_undef rfl rfl rfl) rfl ?_
    refine FD.skip (wF_undef rfl rfl rfl) rfl ?_
    refine FD.skip (wF_no rfl rfl rfl c170) rfl ?_
    obtain rfl := Option.some.inj hp
    refine FD.val rfl rfl rfl (fun w' hw' => (E.pickT rfl c170 rfl)) ?_
    exact FD.nil ⟨k123, k124, k125, k126, k122, rfl⟩
   ·
    refine FD.val (wF_yes rfl rfl rfl c170) rfl rfl (fun w' hw' => (E.move (v := Value.int .i64 ((i22 : Nat) : Int)) rfl)) ?_
    refine FD.val (wF_yes rfl rfl rfl c170) rfl rfl (fun w' hw' => (E.gtr rfl rfl)) ?_
    refine FD.val (wF_yes rfl rfl rfl c170) rfl rfl (fun w' hw' => (E.move (v := Value.bool (decide (0 < ((i22 : Nat) : Int)))) rfl)) ?_
    obtain ⟨t179, hqt179, hp⟩ := bnd hp
    refine FD.cut 10 (fun f => f 0 = Value.int .i64 a0 ∧ f 1 = v1 ∧ f 7 = v1 ∧ f 8 = Value.int .i64 (len a1) ∧ f 9 = Value.int .i64 ((i22 : Nat) : Int) ∧ f 18 = Value.bool (!(PF.impl_isLiteral a0 y21)) ∧ f 31 = Value.bool t179) ?_ ?_
    ·
     clear hp; have hp := hqt179; clear hqt179
     rcases ifB hp with ⟨c185, hp⟩ | ⟨c185, hp⟩
     ·
      refine FD.val (wF_yes rfl rfl rfl c185) rfl rfl (fun w' hw' => (E.move (v := Value.int .i64 y21) rfl)) ?_
      refine FD.call (wF_yes rfl rfl rfl c185) rfl rfl (fun w' hw' => (E.call Tryz.call214 (A1 rfl))) (fun w' hw' => Calls.cls hw' (w_impl_abs (S118.call hw').sl y21)) ?_
      refine FD.val (wF_yes rfl rfl rfl c185) rfl rfl (fun w' hw' => (E.move k124)) ?_
      refine FD.val (wF_yes rfl rfl rfl c185) rfl rfl (fun w' hw' => (E.move (v := Value.int .i64 ((i22 : Nat) : Int)) rfl)) ?_
      refine FD.val (wF_yes rfl rfl rfl c185) rfl rfl (fun w' hw' => (E.sub rfl rfl)) ?_
      obtain ⟨x192, hx193, hp⟩ := bnd hp
      obtain ⟨p186, cs187, pt188, l189, at190, rel191⟩ := p1.at hx193
      obtain rfl := eI_open rel191
      refine FD.val (wF_yes rfl rfl rfl c185) rfl rfl (fun w' hw' => (E.indexAddr te34 rfl rfl pt188)) ?_
      refine FD.val (wF_yes rfl rfl rfl c185) rfl rfl (fun w' hw' => (E.load rfl (run_load0 Tryz.isAgg3 ((at190.mono i119).now (S118.call hw').sl) rfl))) ?_
      refine FD.call (wF_yes rfl rfl rfl c185) rfl rfl (fun w' hw' => (E.call Tryz.call214 (A1 rfl))) (fun w' hw' => Calls.cls hw' (w_impl_abs (S118.call hw').sl x192)) ?_
      refine FD.val (wF_yes rfl rfl rfl c185) rfl rfl (fun w' hw' => (E.leq rfl rfl)) ?_
      obtain rfl := Option.some.inj hp
      refine FD.val (wF_yes rfl rfl rfl c170) rfl rfl (fun w' hw' => (E.pickT rfl c185 rfl)) ?_
      exact FD.nil ⟨k123, k124, k125, k126, k122, rfl, rfl⟩
     ·
      refine FD.skip (wF_no rfl rfl rfl c185) rfl ?_
      refine FD.skip (wF_no rfl rfl rfl c185) rfl ?_
      refine FD.skip (wF_no rfl rfl rfl c185) rfl ?_
      refine FD.skip (wF_no rfl rfl rfl c185) rfl ?_
      refine FD.skip (wF_no rfl rfl rfl c185) rfl ?_
      refine FD.skip (wF_no rfl rfl rfl c185) rfl ?_
      refine FD.skip (wF_no rfl rfl rfl c185) rfl ?_
      refine FD.skip (wF_no rfl rfl rfl c185) rfl ?_
      refine FD.skip (wF_no rfl rfl rfl c185) rfl ?_
      obtain rfl := Option.some.inj hp
      refine FD.val (wF_yes rfl rfl rfl c170) rfl rfl (fun w' hw' => (E.pickF rfl c185 rfl)) ?_
      exact FD.nil ⟨k123, k124, k125, k126, k122, rfl, rfl⟩
    rintro f184 ⟨k194, k195, k196, k197, k198, k199, k200⟩
    obtain rfl := Option.some.inj hp
    refine FD.val rfl rfl rfl (fun w' hw' => (E.pickF k199 c170 k200)) ?_
    exact FD.nil ⟨k194, k195, k196, k197, k198, rfl⟩
  rintro f169 ⟨k201, k202, k203, k204, k205, k206⟩
  refine FD.nil ?_
  intro w207 r209
  have S208 := S118.call r209
  rcases ifB hp with ⟨c210, hp⟩ | ⟨c210, hp⟩
  ·
   refine FW.condT k206 c210 ?_
   refine FW.seq (FW.region ?_)
   refine FL.v (E.assign (v := Value.bool false) rfl) ?_
   refine FL.nil ?_
   refine FW.ret ?_
   obtain rfl := Option.some.inj hp
   exact ⟨nofun, rfl, ⟨.inr rfl, res1 rfl rfl ⟨rfl, S208.back⟩⟩⟩
  ·
   refine FW.condF k206 c210 ?_
   refine FW.skip (FW.region ?_)
   refine FL.v (E.add k205 rfl) ?_
   refine FL.v (E.move (v := Value.int .i64 (wr (((i22 : Nat) : Int) + 1))) rfl) ?_
   refine FL.nil ?_
   obtain rfl := Option.some.inj hp
   exact ⟨rfl, ⟨_, S208, i119, (nat_succ rfl (lt_of_get hx22) (p1.mono i119).le), k201, k202, k203, k204⟩⟩
 ·
  clear hp hq
  rintro s22 f225 w224 ⟨H221, S222, i223, k226, k227, k228, k229, k230⟩
  refine FW.seq (FW.region ?_)
  refine FL.v (E.lss k226 k230) ?_
  refine FL.nil (FW.seq ?_)
  refine FW.condF rfl dlt_len ?_
  refine FW.exit ?_
  exact ⟨nofun, rfl, ⟨_, S222, i223, k227⟩⟩
 ·
  clear hq
  intro e f216 w215 hD
  rcases q22 with s22 | x22
  ·
   obtain ⟨rfl, hD⟩ := hD
   obtain ⟨H212, S213, i214, k217⟩ := hD
   replace hp := el_go hp
   refine FW.seq (FW.region ?_)
   refine FL.v (E.move k217) ?_
   refine FL.call rfl rfl rfl (E.call Tryz.call96 (A1 rfl)) (w_impl_varsOk S213.sl a0) ?_
   rintro e w218 ⟨rfl, r219⟩
   refine ⟨_, rfl, ?_⟩
   have S220 := S213.call r219
   refine FL.v (E.assign (v := Value.bool (PF.impl_varsOk a0)) rfl) ?_
   refine FL.nil ?_
   refine FW.ret ?_
   obtain rfl := Option.some.inj hp
   exact ⟨.inr rfl, res1 rfl rfl ⟨rfl, S220.back⟩⟩
  ·
   obtain ⟨he, hL⟩ := hD
   replace hp := el_rt hp
   obtain rfl := Option.some.inj hp
   subst he
   exact hL

theorem w_impl_IsCnf {Ha : GH} {wa : World} (hs : Sl Ha wa) (a0 : Cnf) (v0_1 : Value) (p0_1 : RSl Ha (eL eI 1) 1 v0_1 a0.clauses) {r : Bool} (hp : (PF.impl_IsCnf a0) = some r) :
  Calls Tryz.prog 72 #[Value.agg #[Value.int .i64 a0.vars, v0_1]] wa (Sc Ha wa (Value.bool r)) := by
 unfold PF.impl_IsCnf at hp
 have S0 := St.init hs
 refine calls_go (N := 27) (args := [Value.agg #[Value.int .i64 a0.vars, v0_1]]) Tryz.func72 rfl rfl rfl ?_
 refine FW.seq (FW.region ?_)
 obtain ⟨b21, w22, run23, S24⟩ := S0.box (P := Tryz.prog) 26 [Value.int .i64 a0.vars, v0_1] (v := Value.agg #[Value.int .i64 a0.vars, v0_1]) rfl (ones_cons rfl (ones_cons p0_1.one ones_nil))
 refine FL.v (E.box rfl run23) ?_
 obtain ⟨H25, S26, i27, at28⟩ := S24.sealBox (i := 0) (l' := []) rfl rfl
 refine FL.v (E.assign (v := Value.bool false) rfl) ?_
 refine FL.nil (FW.seq (FW.seq (FW.region ?_)))
 refine FL.v (E.fieldAddr tf26_1 rfl) ?_
 refine FL.v (E.load rfl (run_load1 Tryz.isAgg24 (at28.now S26.sl) rfl)) ?_
 refine FL.v (E.lenP te24 rfl p0_1) ?_
 refine FL.v (E.move (v := Value.int .i64 0) rfl) ?_
 refine FL.nil ?_
 obtain ⟨q30, hq, hp⟩ := bndR hp
 refine FW.block ?_
 refine FW.mono (FW.forL (S := Unit) (X := Bool) (fun (i30 : Nat) (s30 : Unit) f w => ∃ H : GH, St Ha wa H w [] ∧ Inc H25 H ∧ f 8 = Value.int .i64 ((i30 : Nat) : Int) ∧ f 1 = Value.pointer (some ⟨b21, 0, none⟩) ∧ f 6 = v0_1 ∧ f 7 = Value.int .i64 (len a0.clauses)) (fun q e f w => match q with | .go s30 => e = Exit.exit 0 ∧ (∃ H : GH, St Ha wa H w [] ∧ Inc H25 H ∧ f 1 = Value.pointer (some ⟨b21, 0, none⟩)) | .rt x => ((e = Exit.ret) ∧ (fun e f w => (e = Exit.normal ∨ e = Exit.ret) ∧ ∀ a, Fr (δ := []) 27 a f → ∃ v, (results Tryz.f72 a.tmps).run Tryz.prog w = .ok v w ∧ (Sc Ha wa (Value.bool x)) (.returned v) w) e f w)) hq ⟨_, S26, (Inc.rfl _), rfl, rfl, rfl, rfl⟩ ?_ ?_) ?_
 ·
  clear hp hq
  rintro i30 y29 s30 f58 w57 ⟨H54, S55, i56, k59, k60, k61, k62⟩ hx30 o77 hp
  refine FW.seq (FW.region ?_)
  refine FL.v (E.lssT k59 k62 (lss_len hx30)) ?_
  refine FL.nil (FW.seq ?_)
  refine FW.condT rfl rfl ?_
  refine FW.skip (FW.seq (FW.block (FW.seq (FW.region ?_))))
  obtain ⟨p63, cs64, pt65, l66, at67, rel68⟩ := p0_1.at (ix_nat hx30)
  obtain ⟨v69, rfl, h70⟩ := eL_open rel68
  refine FL.v (E.indexAddr te24 k61 k59 pt65) ?_
  refine FL.v (E.load rfl (run_load0 Tryz.isAgg34 ((at67.mono (i27.tr i56)).now S55.sl) rfl)) ?_
  refine FL.v (E.assign (v := v69) rfl) ?_
  refine FL.nil (FW.seq (FW.region ?_))
  refine FL.v (E.fieldAddr tf26_0 k60) ?_
  refine FL.v (E.load rfl (run_load1 Tryz.isAgg3 ((at28.mono i56).now S55.sl) rfl)) ?_
  refine FL.v (E.move (v := v69) rfl) ?_
  obtain ⟨r71, hr72, hp⟩ := bnd hp
  refine FL.call rfl rfl rfl (E.call Tryz.call118 (A2 rfl rfl)) (w_impl_IsClause S55.sl a0.vars v69 y29 (h70.mono (i27.tr i56)) hr72) ?_
  rintro e w73 ⟨rfl, r74⟩
  refine ⟨_, rfl, ?_⟩
  have S75 := S55.call r74
  refine FL.v (E.not rfl) ?_
  refine FL.nil ?_
  rcases ifB hp with ⟨c76, hp⟩ | ⟨c76, hp⟩
  ·
   refine FW.condT rfl c76 ?_
   refine FW.seq (FW.region ?_)
   refine FL.v (E.assign (v := Value.bool false) rfl) ?_
   refine FL.nil ?_
   refine FW.ret ?_
   obtain rfl := Option.some.inj hp
   exact ⟨nofun, rfl, ⟨.inr rfl, res1 rfl rfl ⟨rfl, S75.back⟩⟩⟩
  ·
   refine FW.condF rfl c76 ?_
   refine FW.skip (FW.region ?_)
   refine FL.v (E.add k59 rfl) ?_
   refine FL.v (E.move (v := Value.int .i64 (wr (((i30 : Nat) : Int) + 1))) rfl) ?_
   refine FL.nil ?_
   obtain rfl := Option.some.inj hp
   exact ⟨rfl, ⟨_, S75, i56, (nat_succ rfl (lt_of_get hx30) (p0_1.mono (i27.tr i56)).le), k60, k61, k62⟩⟩
 ·
  clear hp hq
  rintro s30 f99 w98 ⟨H95, S96, i97, k100, k101, k102, k103⟩
  refine FW.seq (FW.region ?_)
  refine FL.v (E.lss k100 k103) ?_
  refine FL.nil (FW.seq ?_)
  refine FW.condF rfl dlt_len ?_
  refine FW.exit ?_
  exact ⟨nofun, rfl, ⟨_, S96, i97, k101⟩⟩
 ·
  clear hq
  intro e f82 w81 hD
  rcases q30 with s30 | x30
  ·
   obtain ⟨rfl, hD⟩ := hD
   obtain ⟨H78, S79, i80, k83⟩ := hD
   replace hp := el_go hp
   refine FW.seq (FW.region ?_)
   refine FL.v (E.fieldAddr tf26_0 k83) ?_
   refine FL.v (E.load rfl (run_load1 Tryz.isAgg3 ((at28.mono i80).now S79.sl) rfl)) ?_
   refine FL.call rfl rfl rfl (E.call Tryz.call96 (A1 rfl)) (w_impl_varsOk S79.sl a0.vars) ?_
   rintro e w84 ⟨rfl, r85⟩
   refine ⟨_, rfl, ?_⟩
   have S86 := S79.call r85
   refine FL.v (E.move (v := Value.bool (PF.impl_varsOk a0.vars)) rfl) ?_
   refine FL.cut 5 (fun f w => ∃ H : GH, St Ha wa H w [] ∧ Inc H78 H ∧ f 26 = Value.bool (bif (PF.impl_varsOk a0.vars) then (decide ((len a0.clauses) ≤ 60)) else false)) ?_ ?_
   ·
    rcases bcase (PF.impl_varsOk a0.vars) with c93 | c93
    ·
     refine FL.val (wF_yes rfl rfl rfl c93) rfl rfl (E.fieldAddr tf26_1 k83) ?_
     refine FL.val (wF_yes rfl rfl rfl c93) rfl rfl (E.load rfl (run_load1 Tryz.isAgg24 ((at28.mono i80).now S86.sl) rfl)) ?_
     refine FL.val (wF_yes rfl rfl rfl c93) rfl rfl (E.lenP te24 rfl p0_1) ?_
     refine FL.val (wF_yes rfl rfl rfl c93) rfl rfl (E.leq rfl rfl) ?_
     refine FL.v (E.pickT rfl c93 rfl) ?_
     exact FL.nil ⟨rfl, _, S86, (Inc.rfl _), (congrArg Value.bool (bifT c93).symm)⟩
    ·
     refine FL.skip (wF_no rfl rfl rfl c93) rfl ?_
     refine FL.skip (wF_no rfl rfl rfl c93) rfl ?_
     refine FL.skip (wF_no rfl rfl rfl c93) rfl ?_
     refine FL.skip (wF_no rfl rfl rfl c93) rfl ?_
     refine FL.v (E.pickF rfl c93 rfl) ?_
     exact FL.nil ⟨rfl, _, S86, (Inc.rfl _), (congrArg Value.bool (bifF c93).symm)⟩
   rintro f92 w91 ⟨H88, S89, i90, k94⟩
   refine FL.v (E.assign k94) ?_
   refine FL.nil ?_
   refine FW.ret ?_
   obtain rfl := Option.some.inj hp
   exact ⟨.inr rfl, res1 rfl rfl ⟨rfl, S89.back⟩⟩
  ·
   obtain ⟨he, hL⟩ := hD
   replace hp := el_rt hp
   obtain rfl := Option.some.inj hp
   subst he
   exact hL

theorem w_impl_IsAssignment {Ha : GH} {wa : World} (hs : Sl Ha wa) (a0 : Int) (v1 : Value) (a1 : List Int) (p1 : RSl Ha eI 1 v1 a1) {r : Bool} (hp : (PF.impl_IsAssignment a0 a1) = some r) :
  Calls Tryz.prog 90 #[Value.int .i64 a0, v1] wa (Sc Ha wa (Value.bool r)) := by
 unfold PF.impl_IsAssignment at hp
 have S0 := St.init hs
 refine calls_go (N := 8) (args := [Value.int .i64 a0, v1]) Tryz.func90 rfl rfl rfl ?_
 refine FW.seq (FW.region ?_)
 refine FL.v (E.assign (v := Value.bool false) rfl) ?_
 refine FL.nil (FW.seq (FW.region ?_))
 refine FL.v (E.move (v := Value.int .i64 a0) rfl) ?_
 refine FL.v (E.move (v := v1) rfl) ?_
 obtain ⟨r21, hr22, hp⟩ := bnd hp
 refine FL.call rfl rfl rfl (E.call Tryz.call118 (A2 rfl rfl)) (w_impl_IsClause S0.sl a0 v1 a1 p1 hr22) ?_
 rintro e w23 ⟨rfl, r24⟩
 refine ⟨_, rfl, ?_⟩
 have S25 := S0.call r24
 refine FL.v (E.assign (v := Value.bool r21) rfl) ?_
 refine FL.nil ?_
 refine FW.ret ?_
 obtain rfl := Option.some.inj hp
 exact ⟨.inr rfl, res1 rfl rfl ⟨rfl, S25.back⟩⟩

@[reducible] def p_slices_Clone_int_int (Ha : GH) (wa : World) (r : (List Int)) : Ending → World → Prop :=
 fun e w' => ∃ H' : GH, ∃ v0 : Value, ∃ n0 : Nat, ∃ c0 : List Value, e = .returned (v0) ∧ St Ha wa H' w' [.row 3 1 v0 n0 c0] ∧ Els (up wa.heap.size H') eI 1 c0 r
theorem w_slices_Clone_int_int {Ha : GH} {wa : World} (hs : Sl Ha wa) (v0 : Value) (a0 : List Int) (p0 : RSl Ha eI 1 v0 a0) {r : (List Int)} (hp : (PF.slices_Clone_int_int a0) = some r) :
  Calls Tryz.prog 75 #[v0] wa (p_slices_Clone_int_int Ha wa r) := by
 unfold PF.slices_Clone_int_int at hp
 have S0 := St.init hs
 refine calls_go (N := 8) (args := [v0]) Tryz.func75 rfl rfl rfl ?_
 refine FW.seq (FW.region ?_)
 refine FL.v (E.assign (v := Value.slice none 0 0) rfl) ?_
 refine FL.nil (FW.seq (FW.seq (FW.region ?_)))
 refine FL.v (E.move (v := v0) rfl) ?_
 obtain ⟨nb21, run22, hn23⟩ := RSl.nilTest te34 p0
 refine FL.v (run22 _ _ _ _ _ _ _ _ _ _ _ _ rfl rfl) ?_
 refine FL.nil ?_
 rcases bcase nb21 with c24 | c24
 ·
  refine FW.condT (b := nb21) rfl c24 ?_
  rw [hn23 c24, app_nil2] at hp
  refine FW.seq (FW.region ?_)
  refine FL.v (E.assign (v := Value.slice none 0 0) rfl) ?_
  refine FL.nil ?_
  refine FW.ret ?_
  obtain rfl := Option.some.inj hp
  exact ⟨.inr rfl, res1 rfl rfl ⟨_, _, _, _, rfl, (S0.nil 3 1), Els.nil⟩⟩
 ·
  refine FW.condF (b := nb21) rfl c24 ?_
  refine FW.skip (FW.seq (FW.region ?_))
  obtain ⟨v25, w26, run27, S28⟩ := S0.buildSlice (P := Tryz.prog) te34 [] (parts := #[]) (cells := []) rfl szs_nil fc_nil ones_nil (Nat.le_of_ble_eq_true rfl)
  have els29 : Els (up wa.heap.size Ha) eI 1 [] [] := Els.nil
  refine FL.v (E.buildSlice (B0) run27) ?_
  refine FL.v (E.move (v := v0) rfl) ?_
  obtain ⟨xs30, hz31, hp⟩ := bnd hp
  obtain ⟨v32, w35, n33, cs34, run36, S37, els38⟩ := S28.appendP (P := Tryz.prog) (Inc.rfl _) te34 (i := 0) rfl (els29.mono upI) p0 hz31
  have S37 : St Ha wa Ha w35 [.row 3 1 v32 n33 cs34] := S37
  have els38 : Els (up wa.heap.size Ha) eI 1 cs34 xs30 := els38.any (fun _ _ _ _ h => h)
  refine FL.v (E.append rfl rfl run36) ?_
  refine FL.v (E.assign (v := v32) rfl) ?_
  refine FL.nil ?_
  refine FW.ret ?_
  obtain rfl := Option.some.inj hp
  exact ⟨.inr rfl, res1 rfl rfl ⟨_, _, _, _, rfl, S37, els38⟩⟩

theorem w_slices_Index_int_int {Ha : GH} {wa : World} (hs : Sl Ha wa) (v0 : Value) (a0 : List Int) (p0 : RSl Ha eI 1 v0 a0) (a1 : Int) {r : Int} (hp : (PF.slices_Index_int_int a0 a1) = some r) :
  Calls Tryz.prog 169 #[v0, Value.int .i64 a1] wa (Sc Ha wa (Value.int .i64 r)) := by
 unfold PF.slices_Index_int_int at hp
 have S0 := St.init hs
 refine calls_go (N := 19) (args := [v0, Value.int .i64 a1]) Tryz.func169 rfl rfl rfl ?_
 refine FW.seq (FW.region ?_)
 refine FL.v (E.assign (v := Value.int .i64 0) rfl) ?_
 refine FL.nil (FW.seq (FW.seq (FW.region ?_)))
 refine FL.v (E.move (v := v0) rfl) ?_
 refine FL.v (E.lenP te34 rfl p0) ?_
 refine FL.v (E.move (v := Value.int .i64 0) rfl) ?_
 refine FL.nil ?_
 obtain ⟨q22, hq, hp⟩ := bndR hp
 refine FW.block ?_
 refine FW.mono (FW.forL (S := Unit) (X := Int) (fun (i22 : Nat) (s22 : Unit) f w => ∃ H : GH, St Ha wa H w [] ∧ Inc Ha H ∧ f 8 = Value.int .i64 ((i22 : Nat) : Int) ∧ f 0 = v0 ∧ f 1 = Value.int .i64 a1 ∧ f 7 = Value.int .i64 (len a0)) (fun q e f w => match q with | .go s22 => e = Exit.exit 0 ∧ (∃ H : GH, St Ha wa H w [] ∧ Inc Ha H) | .rt x => ((e = Exit.ret) ∧ (fun e f w => (e = Exit.normal ∨ e = Exit.ret) ∧ ∀ a, Fr (δ := []) 19 a f → ∃ v, (results Tryz.f169 a.tmps).run Tryz.prog w = .ok v w ∧ (Sc Ha wa (Value.int .i64 x)) (.returned v) w) e f w)) hq ⟨_, S0, (Inc.rfl _), rfl, rfl, rfl, rfl⟩ ?_ ?_) ?_
 ·
  clear hp hq
  rintro i22 y21 s22 f43 w42 ⟨H39, S40, i41, k44, k45, k46, k47⟩ hx22 o55 hp
  refine FW.seq (FW.region ?_)
  refine FL.v (E.lssT k44 k47 (lss_len hx22)) ?_
  refine FL.nil (FW.seq ?_)
  refine FW.condT rfl rfl ?_
  refine FW.skip (FW.seq (FW.block (FW.seq (FW.region ?_))))
  refine FL.v (E.move k44) ?_
  refine FL.v (E.assign (v := Value.int .i64 ((i22 : Nat) : Int)) rfl) ?_
  refine FL.nil (FW.seq (FW.region ?_))
  refine FL.v (E.move k46) ?_
  refine FL.v (E.move k45) ?_
  refine FL.v (E.move (v := Value.int .i64 ((i22 : Nat) : Int)) rfl) ?_
  obtain ⟨p48, cs49, pt50, l51, at52, rel53⟩ := p0.at (ix_nat hx22)
  obtain rfl := eI_open rel53
  refine FL.v (E.indexAddr te34 rfl rfl pt50) ?_
  refine FL.v (E.load rfl (run_load0 Tryz.isAgg3 ((at52.mono i41).now S40.sl) rfl)) ?_
  refine FL.v (E.eql rfl rfl) ?_
  refine FL.nil ?_
  rcases ifB hp with ⟨c54, hp⟩ | ⟨c54, hp⟩
  ·
   refine FW.condT rfl c54 ?_
   refine FW.seq (FW.region ?_)
   refine FL.v (E.move (v := Value.int .i64 ((i22 : Nat) : Int)) rfl) ?_
   refine FL.v (E.assign (v := Value.int .i64 ((i22 : Nat) : Int)) rfl) ?_
   refine FL.nil ?_
   refine FW.ret ?_
   obtain rfl := Option.some.inj hp
   exact ⟨nofun, rfl, ⟨.inr rfl, res1 rfl rfl ⟨rfl, S40.back⟩⟩⟩
  ·
   refine FW.condF rfl c54 ?_
   refine FW.skip (FW.region ?_)
   refine FL.v (E.add k44 rfl) ?_
   refine FL.v (E.move (v := Value.int .i64 (wr (((i22 : Nat) : Int) + 1))) rfl) ?_
   refine FL.nil ?_
   obtain rfl := Option.some.inj hp
   exact ⟨rfl, ⟨_, S40, i41, (nat_succ rfl (lt_of_get hx22) (p0.mono i41).le), k45, k46, k47⟩⟩
 ·
  clear hp hq
  rintro s22 f65 w64 ⟨H61, S62, i63, k66, k67, k68, k69⟩
  refine FW.seq (FW.region ?_)
  refine FL.v (E.lss k66 k69) ?_
  refine FL.nil (FW.seq ?_)
  refine FW.condF rfl dlt_len ?_
  refine FW.exit ?_
  exact ⟨nofun, rfl, ⟨_, S62, i63⟩⟩
 ·
  clear hq
  intro e f60 w59 hD
  rcases q22 with s22 | x22
  ·
   obtain ⟨rfl, hD⟩ := hD
   obtain ⟨H56, S57, i58⟩ := hD
   replace hp := el_go hp
   refine FW.seq (FW.region ?_)
   refine FL.v (E.assign (v := Value.int .i64 (-1)) rfl) ?_
   refine FL.nil ?_
   refine FW.ret ?_
   obtain rfl := Option.some.inj hp
   exact ⟨.inr rfl, res1 rfl rfl ⟨rfl, S57.back⟩⟩
  ·
   obtain ⟨he, hL⟩ := hD
   replace hp := el_rt hp
   obtain rfl := Option.some.inj hp
   subst he
   exact hL

theorem w_slices_Contains_int_int {Ha : GH} {wa : World} (hs : Sl Ha wa) (v0 : Value) (a0 : List Int) (p0 : RSl Ha eI 1 v0 a0) (a1 : Int) {r : Bool} (hp : (PF.slices_Contains_int_int a0 a1) = some r) :
  Calls Tryz.prog 74 #[v0, Value.int .i64 a1] wa (Sc Ha wa (Value.bool r)) := by
 unfold PF.slices_Contains_int_int at hp
 have S0 := St.init hs
 refine calls_go (N := 9) (args := [v0, Value.int .i64 a1]) Tryz.func74 rfl rfl rfl ?_
 refine FW.seq (FW.region ?_)
 refine FL.v (E.assign (v := Value.bool false) rfl) ?_
 refine FL.nil (FW.seq (FW.region ?_))
 refine FL.v (E.move (v := v0) rfl) ?_
 refine FL.v (E.move (v := Value.int .i64 a1) rfl) ?_
 obtain ⟨r21, hr22, hp⟩ := bnd hp
 refine FL.call rfl rfl rfl (E.call Tryz.call169 (A2 rfl rfl)) (w_slices_Index_int_int S0.sl v0 a0 p0 a1 hr22) ?_
 rintro e w23 ⟨rfl, r24⟩
 refine ⟨_, rfl, ?_⟩
 have S25 := S0.call r24
 refine FL.v (E.geq rfl rfl) ?_
 refine FL.v (E.assign (v := Value.bool (decide (0 ≤ r21))) rfl) ?_
 refine FL.nil ?_
 refine FW.ret ?_
 obtain rfl := Option.some.inj hp
 exact ⟨.inr rfl, res1 rfl rfl ⟨rfl, S25.back⟩⟩

theorem w_impl_clauseValue {Ha : GH} {wa : World} (hs : Sl Ha wa) (v0 : Value) (a0 : List Int) (p0 : RSl Ha eI 1 v0 a0) (v1 : Value) (a1 : List Int) (p1 : RSl Ha eI 1 v1 a1) {r : Int} (hp : (PF.impl_clauseValue a0 a1) = some r) :
  Calls Tryz.prog 103 #[v0, v1] wa (Sc Ha wa (Value.int .i64 r)) := by
 unfold PF.impl_clauseValue at hp
 have S0 := St.init hs
 refine calls_go (N := 26) (args := [v0, v1]) Tryz.func103 rfl rfl rfl ?_
 refine FW.seq (FW.region ?_)
 refine FL.v (E.assign (v := Value.int .i64 0) rfl) ?_
 refine FL.nil (FW.seq (FW.region ?_))
 refine FL.v (E.assign (v := Value.int .i64 (-1)) rfl) ?_
 refine FL.nil (FW.seq (FW.seq (FW.region ?_)))
 refine FL.v (E.move (v := v0) rfl) ?_
 refine FL.v (E.lenP te34 rfl p0) ?_
 refine FL.v (E.move (v := Value.int .i64 0) rfl) ?_
 refine FL.nil ?_
 obtain ⟨q22, hq, hp⟩ := bndR hp
 refine FW.block ?_
 refine FW.mono (FW.forL (S := Int) (X := Int) (fun (i22 : Nat) (s22 : Int) f w => ∃ H : GH, St Ha wa H w [] ∧ Inc Ha H ∧ f 10 = Value.int .i64 ((i22 : Nat) : Int) ∧ f 1 = v1 ∧ f 5 = Value.int .i64 s22 ∧ f 8 = v0 ∧ f 9 = Value.int .i64 (len a0)) (fun q e f w => match q with | .go s22 => e = Exit.exit 0 ∧ (∃ H : GH, St Ha wa H w [] ∧ Inc Ha H ∧ f 5 = Value.int .i64 s22) | .rt x => ((e = Exit.ret) ∧ (fun e f w => (e = Exit.normal ∨ e = Exit.ret) ∧ ∀ a, Fr (δ := []) 26 a f → ∃ v, (results Tryz.f103 a.tmps).run Tryz.prog w = .ok v w ∧ (Sc Ha wa (Value.int .i64 x)) (.returned v) w) e f w)) hq ⟨_, S0, (Inc.rfl _), rfl, rfl, rfl, rfl, rfl⟩ ?_ ?_) ?_
 ·
  clear hp hq
  rintro i22 y21 s22 f55 w54 ⟨H51, S52, i53, k56, k57, k58, k59, k60⟩ hx22 o79 hp
  refine FW.seq (FW.region ?_)
  refine FL.v (E.lssT k56 k60 (lss_len hx22)) ?_
  refine FL.nil (FW.seq ?_)
  refine FW.condT rfl rfl ?_
  refine FW.skip (FW.seq (FW.block (FW.seq (FW.region ?_))))
  obtain ⟨p61, cs62, pt63, l64, at65, rel66⟩ := p0.at (ix_nat hx22)
  obtain rfl := eI_open rel66
  refine FL.v (E.indexAddr te34 k59 k56 pt63) ?_
  refine FL.v (E.load rfl (run_load0 Tryz.isAgg3 ((at65.mono i53).now S52.sl) rfl)) ?_
  refine FL.v (E.assign (v := Value.int .i64 y21) rfl) ?_
  refine FL.nil (FW.block (FW.seq (FW.region ?_)))
  refine FL.v (E.move k57) ?_
  refine FL.v (E.move (v := Value.int .i64 y21) rfl) ?_
  obtain ⟨r67, hr68, hp⟩ := bnd hp
  refine FL.call rfl rfl rfl (E.call Tryz.call74 (A2 rfl rfl)) (w_slices_Contains_int_int S52.sl v1 a1 (p1.mono i53) y21 hr68) ?_
  rintro e w69 ⟨rfl, r70⟩
  refine ⟨_, rfl, ?_⟩
  have S71 := S52.call r70
  refine FL.v (E.assign (v := Value.bool r67) rfl) ?_
  refine FL.nil ?_
  rcases ifB hp with ⟨c72, hp⟩ | ⟨c72, hp⟩
  ·
   refine FW.condT rfl c72 ?_
   refine FW.seq (FW.region ?_)
   refine FL.v (E.assign (v := Value.int .i64 1) rfl) ?_
   refine FL.nil ?_
   refine FW.ret ?_
   obtain rfl := Option.some.inj hp
   exact ⟨nofun, rfl, ⟨.inr rfl, res1 rfl rfl ⟨rfl, S71.back⟩⟩⟩
  ·
   refine FW.condF rfl c72 ?_
   refine FW.seq (FW.region ?_)
   refine FL.v (E.move k57) ?_
   refine FL.v (E.move (v := Value.int .i64 y21) rfl) ?_
   refine FL.v (E.neg rfl) ?_
   obtain ⟨r73, hr74, hp⟩ := bnd hp
   refine FL.call rfl rfl rfl (E.call Tryz.call74 (A2 rfl rfl)) (w_slices_Contains_int_int S71.sl v1 a1 (p1.mono i53) (wr (-y21)) hr74) ?_
   rintro e w75 ⟨rfl, r76⟩
   refine ⟨_, rfl, ?_⟩
   have S77 := S71.call r76
   refine FL.v (E.not rfl) ?_
   refine FL.v (E.assign (v := Value.bool (!r73)) rfl) ?_
   refine FL.nil ?_
   rcases ifB hp with ⟨c78, hp⟩ | ⟨c78, hp⟩
   ·
    refine FW.condT rfl c78 ?_
    refine FW.region ?_
    refine FL.v (E.assign (v := Value.int .i64 0) rfl) ?_
    refine FL.nil (FW.region ?_)
    refine FL.v (E.add k56 rfl) ?_
    refine FL.v (E.move (v := Value.int .i64 (wr (((i22 : Nat) : Int) + 1))) rfl) ?_
    refine FL.nil ?_
    obtain rfl := Option.some.inj hp
    exact ⟨rfl, ⟨_, S77, i53, (nat_succ rfl (lt_of_get hx22) (p0.mono i53).le), k57, rfl, k59, k60⟩⟩
   ·
    refine FW.condF rfl c78 ?_
    refine FW.skip (FW.region ?_)
    refine FL.v (E.add k56 rfl) ?_
    refine FL.v (E.move (v := Value.int .i64 (wr (((i22 : Nat) : Int) + 1))) rfl) ?_
    refine FL.nil ?_
    obtain rfl := Option.some.inj hp
    exact ⟨rfl, ⟨_, S77, i53, (nat_succ rfl (lt_of_get hx22) (p0.mono i53).le), k57, k58, k59, k60⟩⟩
 ·
  clear hp hq
  rintro s22 f90 w89 ⟨H86, S87, i88, k91, k92, k93, k94, k95⟩
  refine FW.seq (FW.region ?_)
  refine FL.v (E.lss k91 k95) ?_
  refine FL.nil (FW.seq ?_)
  refine FW.condF rfl dlt_len ?_
  refine FW.exit ?_
  exact ⟨nofun, rfl, ⟨_, S87, i88, k93⟩⟩
 ·
  clear hq
  intro e f84 w83 hD
  rcases q22 with s22 | x22
  ·
   obtain ⟨rfl, hD⟩ := hD
   obtain ⟨H80, S81, i82, k85⟩ := hD
   replace hp := el_go hp
   refine FW.seq (FW.region ?_)
   refine FL.v (E.move k85) ?_
   refine FL.v (E.assign (v := Value.int .i64 s22) rfl) ?_
   refine FL.nil ?_
   refine FW.ret ?_
   obtain rfl := Option.some.inj hp
   exact ⟨.inr rfl, res1 rfl rfl ⟨rfl, S81.back⟩⟩
  ·
   obtain ⟨he, hL⟩ := hD
   replace hp := el_rt hp
   obtain rfl := Option.some.inj hp
   subst he
   exact hL

@[reducible] def p_impl_falseClauses (Ha : GH) (wa : World) (r : (List Int)) : Ending → World → Prop :=
  fun e w' => ∃ H' : GH, ∃ v0 : Value, ∃ n0 : Nat, ∃ c0 : List Value, e = .returned (v0) ∧ St Ha wa H' w' [.row 3 1 v0 n0 c0] ∧ Els (up wa.heap.size H') eI 1 c0 r
theorem w_impl_falseClauses {Ha : GH} {wa : World} (hs : Sl Ha wa) (v0 : Value) (a0 : List (List Int)) (p0 : RSl Ha (eL eI 1) 1 v0 a0) (v1 : Value) (a1 : List Int) (p1 : RSl Ha eI 1 v1 a1) {r : (List Int)} (hp : (PF.impl_falseClauses a0 a1) = some r) :
    Calls Tryz.prog 190 #[v0, v1] wa (p_impl_falseClauses Ha wa r) := by
  unfold PF.impl_falseClauses at hp
  have S0 := St.init hs
  refine calls_go (N := 25) (args := [v0, v1]) Tryz.func190 rfl rfl rfl ?_
  refine FW.seq (FW.region ?_)
  refine FL.v (E.assign (v := Value.slice none 0 0) rfl) ?_
  refine FL.nil (FW.seq (FW.region ?_))
  refine FL.v (E.assign (v := Value.slice none 0 0) rfl) ?_
  refine FL.nil (FW.seq (FW.seq (FW.region ?_)))
  refine FL.v (E.move (v := v0) rfl) ?_
  refine FL.v (E.lenP te24 rfl p0) ?_
  refine FL.v (E.move (v := Value.int .i64 0) rfl) ?_
  refine FL.nil ?_
  obtain ⟨q22, hq, hp⟩ := bndR hp
  refine FW.block ?_
  refine FW.mono (FW.forL (S := (List Int)) (X := Empty) (fun (i22 : Nat) (s22 : (List Int)) f w => ∃ H : GH, ∃ v23 : Value, ∃ n24 : Nat, ∃ cs25 : List Value, St Ha wa H w [.row 3 1 v23 n24 cs25] ∧ Inc Ha H ∧ Els (up wa.heap.size H) eI 1 cs25 s22 ∧ f 10 = Value.int .i64 ((i22 : Nat) : Int) ∧ f 1 = v1 ∧ f 5 = v23 ∧ f 8 = v0 ∧ f 9 = Value.int .i64 (len a0)) (fun (q : Rs (List Int) Empty) e f w => match q with | .go s22 => e = Exit.exit 0 ∧ (∃ H : GH, ∃ v23 : Value, ∃ n24 : Nat, ∃ cs25 : List Value, St Ha wa H w [.row 3 1 v23 n24 cs25] ∧ Inc Ha H ∧ Els (up wa.heap.size H) eI 1 cs25 s22 ∧ f 5 = v23) | .rt x => x.elim) hq ⟨_, _, _, _, (S0.nil 3 1), (Inc.rfl _), Els.nil, rfl, rfl, rfl, rfl, rfl⟩ ?_ ?_) ?_
  ·
    clear hp hq
    rintro i22 y21 s22 f71 w70 ⟨H67, v23, n24, cs25, S68, i69, els26, k72, k73, k74, k75, k76⟩ hx22 o107 hp
    refine FW.seq (FW.region ?_)
    refine FL.v (E.lssT k72 k76 (lss_len hx22)) ?_
    refine FL.nil (FW.seq ?_)
    refine FW.condT rfl rfl ?_
    refine FW.skip (FW.seq (FW.block (FW.seq (FW.region ?_))))
    refine FL.v (E.move k72) ?_
    obtain ⟨p77, cs78, pt79, l80, at81, rel82⟩ := p0.at (ix_nat hx22)
    obtain ⟨v83, rfl, h84⟩ := eL_open rel82
    refine FL.v (E.indexAddr te24 k75 k72 pt79) ?_
    refine FL.v (E.load rfl (run_load0 Tryz.isAgg34 ((at81.mono i69).now S68.sl) rfl)) ?_
    refine FL.v (E.assign (v := Value.int .i64 ((i22 : Nat) : Int)) rfl) ?_
    refine FL.v (E.assign (v := v83) rfl) ?_
    refine FL.nil (FW.seq (FW.region ?_))
    refine FL.v (E.move (v := v83) rfl) ?_
    refine FL.v (E.move k73) ?_
    obtain ⟨r85, hr86, hp⟩ := bnd hp
    refine FL.call rfl rfl rfl (E.call Tryz.call103 (A2 rfl rfl)) (w_impl_clauseValue S68.sl v83 y21 (h84.mono i69) v1 a1 (p1.mono i69) hr86) ?_
    rintro e w87 ⟨rfl, r88⟩
    refine ⟨_, rfl, ?_⟩
    have S89 := S68.call r88
    refine FL.v (E.lss rfl rfl) ?_
    refine FL.nil ?_
    rcases ifB hp with ⟨c90, hp⟩ | ⟨c90, hp⟩
    ·
      refine FW.condT rfl c90 ?_
      refine FW.region ?_
      refine FL.v (E.move k74) ?_
      refine FL.v (E.move (v := Value.int .i64 ((i22 : Nat) : Int)) rfl) ?_
      obtain ⟨v91, w92, run93, S94⟩ := S89.buildSlice (P := Tryz.prog) te34 [Value.int .i64 ((i22 : Nat) : Int)] (parts := #[(0, Value.int .i64 ((i22 : Nat) : Int))]) (cells := [Value.int .i64 ((i22 : Nat) : Int)]) rfl (szs_cons rfl szs_nil) (fc_cons rfl fc_nil) (ones_cons rfl ones_nil) (Nat.le_of_ble_eq_true rfl)
      have els95 : Els (up wa.heap.size H67) eI 1 [Value.int .i64 ((i22 : Nat) : Int)] [((i22 : Nat) : Int)] := (Els.snoc (H := (up wa.heap.size H67)) (E := eI) (k := 1) (c := [Value.int .i64 ((i22 : Nat) : Int)]) (x := ((i22 : Nat) : Int)) Els.nil rfl rfl)
      refine FL.v (E.buildSlice (B1 rfl) run93) ?_
      obtain ⟨xs96, hz97, hp⟩ := bnd hp
      obtain ⟨v98, w101, n99, cs100, run102, S103, els104, ce105⟩ := S94.appendO (P := Tryz.prog) te34 (i := 1) (j := 0) rfl els26 rfl els95 hz97
      have S103 : St Ha wa H67 w101 [.row 3 1 v91 1 [Value.int .i64 ((i22 : Nat) : Int)], .row 3 1 v98 n99 cs100] := S103
      have S106 : St Ha wa H67 w101 [.row 3 1 v98 n99 cs100] := S103.drop 0
      refine FL.v (E.append rfl rfl run102) ?_
      refine FL.v (E.assign (v := v98) rfl) ?_
      refine FL.nil (FW.region ?_)
      refine FL.v (E.add k72 rfl) ?_
      refine FL.v (E.move (v := Value.int .i64 (wr (((i22 : Nat) : Int) + 1))) rfl) ?_
      refine FL.nil ?_
      obtain rfl := Option.some.inj hp
      exact ⟨rfl, ⟨_, _, _, _, S106, i69, els104, (nat_succ rfl (lt_of_get hx22) (p0.mono i69).le), k73, rfl, k75, k76⟩⟩
    ·
      refine FW.condF rfl c90 ?_
      refine FW.skip (FW.region ?_)
      refine FL.v (E.add k72 rfl) ?_
      refine FL.v (E.move (v := Value.int .i64 (wr (((i22 : Nat) : Int) + 1))) rfl) ?_
      refine FL.nil ?_
      obtain rfl := Option.some.inj hp
      exact ⟨rfl, ⟨_, _, _, _, S89, i69, els26, (nat_succ rfl (lt_of_get hx22) (p0.mono i69).le), k73, k74, k75, k76⟩⟩
  ·
    clear hp hq
    rintro s22 f118 w117 ⟨H114, v23, n24, cs25, S115, i116, els26, k119, k120, k121, k122, k123⟩
    refine FW.seq (FW.region ?_)
    refine FL.v (E.lss k119 k123) ?_
    refine FL.nil (FW.seq ?_)
    refine FW.condF rfl dlt_len ?_
    refine FW.exit ?_
    exact ⟨nofun, rfl, ⟨_, _, _, _, S115, i116, els26, k121⟩⟩
  ·
    clear hq
    intro e f112 w111 hD
    rcases q22 with s22 | x22
    ·
      obtain ⟨rfl, hD⟩ := hD
      obtain ⟨H108, v23, n24, cs25, S109, i110, els26, k113⟩ := hD
      replace hp := el_go hp
      refine FW.seq (FW.region ?_)
      refine FL.v (E.move k113) ?_
      refine FL.v (E.assign (v := v23) rfl) ?_
      refine FL.nil ?_
      refine FW.ret ?_
      obtain rfl := Option.some.inj hp
      exact ⟨.inr rfl, res1 rfl rfl ⟨_, _, _, _, rfl, S109, els26⟩⟩
    · exact x22.elim

theorem w_slices_IndexFunc_int_int {Ha : GH} {wa : World} (hs : Sl Ha wa) (v0 : Value) (a0 : List Int) (p0 : RSl Ha eI 1 v0 a0) (v1 : Value) (a1 : Int → Option Bool) (p1 : Fn_I_to_B Tryz.prog Ha v1 a1) {r : Int} (hp : (PF.slices_IndexFunc_int_int a0 a1) = some r) :
  Calls Tryz.prog 277 #[v0, v1] wa (Sc Ha wa (Value.int .i64 r)) := by
 unfold PF.slices_IndexFunc_int_int at hp
 have S0 := St.init hs
 refine calls_go (N := 19) (args := [v0, v1]) Tryz.func277 rfl rfl rfl ?_
 refine FW.seq (FW.region ?_)
 refine FL.v (E.assign (v := Value.int .i64 0) rfl) ?_
 refine FL.nil (FW.seq (FW.seq (FW.region ?_)))
 refine FL.v (E.move (v := v0) rfl) ?_
 refine FL.v (E.lenP te34 rfl p0) ?_
 refine FL.v (E.move (v := Value.int .i64 0) rfl) ?_
 refine FL.nil ?_
 obtain ⟨q22, hq, hp⟩ := bndR hp
 refine FW.block ?_
 refine FW.mono (FW.forL (S := Unit) (X := Int) (fun (i22 : Nat) (s22 : Unit) f w => ∃ H : GH, St Ha wa H w [] ∧ Inc Ha H ∧ f 8 = Value.int .i64 ((i22 : Nat) : Int) ∧ f 0 = v0 ∧ f 1 = v1 ∧ f 7 = Value.int .i64 (len a0)) (fun q e f w => match q with | .go s22 => e = Exit.exit 0 ∧ (∃ H : GH, St Ha wa H w [] ∧ Inc Ha H) | .rt x => ((e = Exit.ret) ∧ (fun e f w => (e = Exit.normal ∨ e = Exit.ret) ∧ ∀ a, Fr (δ := []) 19 a f → ∃ v, (results Tryz.f277 a.tmps).run Tryz.prog w = .ok v w ∧ (Sc Ha wa (Value.int .i64 x)) (.returned v) w) e f w)) hq ⟨_, S0, (Inc.rfl _), rfl, rfl, rfl, rfl⟩ ?_ ?_) ?_
 ·
  clear hp hq
  rintro i22 y21 s22 f53 w52 ⟨H49, S50, i51, k54, k55, k56, k57⟩ hx22 o75 hp
  refine FW.seq (FW.region ?_)
  refine FL.v (E.lssT k54 k57 (lss_len hx22)) ?_
  refine FL.nil (FW.seq ?_)
  refine FW.condT rfl rfl ?_
  refine FW.skip (FW.seq (FW.block (FW.seq (FW.region ?_))))
  refine FL.v (E.move k54) ?_
  refine FL.v (E.assign (v := Value.int .i64 ((i22 : Nat) : Int)) rfl) ?_
  refine FL.nil (FW.seq (FW.region ?_))
  refine FL.v (E.move k56) ?_
  refine FL.v (E.move k55) ?_
  refine FL.v (E.move (v := Value.int .i64 ((i22 : Nat) : Int)) rfl) ?_
  obtain ⟨p58, cs59, pt60, l61, at62, rel63⟩ := p0.at (ix_nat hx22)
  obtain rfl := eI_open rel63
  refine FL.v (E.indexAddr te34 rfl rfl pt60) ?_
  refine FL.v (E.load rfl (run_load0 Tryz.isAgg3 ((at62.mono i51).now S50.sl) rfl)) ?_
  obtain ⟨r64, hr65, hp⟩ := bnd hp
  obtain ⟨fi69, cs70, hv71, he72, hc73⟩ := (p1.mono i51) H49 w52 (Inc.rfl _) S50.sl y21 r64 hr65
  refine FL.call rfl rfl rfl (E.callV he72 (Eq.trans rfl hv71) (appA (A1 rfl) cs70)) hc73 ?_
  rintro e w66 ⟨rfl, r67⟩
  refine ⟨_, rfl, ?_⟩
  have S68 := S50.call r67
  refine FL.nil ?_
  rcases ifB hp with ⟨c74, hp⟩ | ⟨c74, hp⟩
  ·
   refine FW.condT rfl c74 ?_
   refine FW.seq (FW.region ?_)
   refine FL.v (E.move (v := Value.int .i64 ((i22 : Nat) : Int)) rfl) ?_
   refine FL.v (E.assign (v := Value.int .i64 ((i22 : Nat) : Int)) rfl) ?_
   refine FL.nil ?_
   refine FW.ret ?_
   obtain rfl := Option.some.inj hp
   exact ⟨nofun, rfl, ⟨.inr rfl, res1 rfl rfl ⟨rfl, S68.back⟩⟩⟩
  ·
   refine FW.condF rfl c74 ?_
   refine FW.skip (FW.region ?_)
   refine FL.v (E.add k54 rfl) ?_
   refine FL.v (E.move (v := Value.int .i64 (wr (((i22 : Nat) : Int) + 1))) rfl) ?_
   refine FL.nil ?_
   obtain rfl := Option.some.inj hp
   exact ⟨rfl, ⟨_, S68, i51, (nat_succ rfl (lt_of_get hx22) (p0.mono i51).le), k55, k56, k57⟩⟩
 ·
  clear hp hq
  rintro s22 f85 w84 ⟨H81, S82, i83, k86, k87, k88, k89⟩
  refine FW.seq (FW.region ?_)
  refine FL.v (E.lss k86 k89) ?_
  refine FL.nil (FW.seq ?_)
  refine FW.condF rfl dlt_len ?_
  refine FW.exit ?_
  exact ⟨nofun, rfl, ⟨_, S82, i83⟩⟩
 ·
  clear hq
  intro e f80 w79 hD
  rcases q22 with s22 | x22
  ·
   obtain ⟨rfl, hD⟩ := hD
   obtain ⟨H76, S77, i78⟩ := hD
   replace hp := el_go hp
   refine FW.seq (FW.region ?_)
   refine FL.v (E.assign (v := Value.int .i64 (-1)) rfl) ?_
   refine FL.nil ?_
   refine FW.ret ?_
   obtain rfl := Option.some.inj hp
   exact ⟨.inr rfl, res1 rfl rfl ⟨rfl, S77.back⟩⟩
  ·
   obtain ⟨he, hL⟩ := hD
   replace hp := el_rt hp
   obtain rfl := Option.some.inj hp
   subst he
   exact hL

@[reducible] def p_slices_DeleteFunc_int_int (H0 : GH) (w0 : World) (Ha : GH) (L : List MO) (r : (List Int)) : Ending → World → Prop :=
  fun e w' => ∃ H' : GH, ∃ v0r : Value, ∃ n0r : Nat, ∃ c0r : List Value, e = .returned (v0r) ∧ (St H0 w0 H' w' (.row 3 1 v0r n0r c0r :: L) ∧ Inc Ha H') ∧ Els (up w0.heap.size H') eI 1 c0r r
theorem w_slices_DeleteFunc_int_int {H0 Ha : GH} {w0 wa : World} {L : List MO} {v0 : Value} {n0 : Nat} {k0 : List Value} (S0 : St H0 w0 Ha wa (.row 3 1 v0 n0 k0 :: L)) (a0 : List Int) (p0 : Els (up w0.heap.size Ha) eI 1 k0 a0) (v1 : Value) (a1 : Int → Option Bool) (p1 : Fn_I_to_B Tryz.prog Ha v1 a1) {r : (List Int)} (hp : (PF.slices_DeleteFunc_int_int a0 a1) = some r) :
    Calls Tryz.prog 259 #[v0, v1] wa (p_slices_DeleteFunc_int_int H0 w0 Ha L r) := by
  unfold PF.slices_DeleteFunc_int_int at hp
  refine calls_go (N := 42) (args := [v0, v1]) Tryz.func259 rfl rfl rfl ?_
  refine FW.seq (FW.region ?_)
  refine FL.v (E.assign (v := Value.slice none 0 0) rfl) ?_
  refine FL.nil (FW.seq (FW.region ?_))
  refine FL.v (E.move (v := v0) rfl) ?_
  refine FL.v (E.move (v := v1) rfl) ?_
  obtain ⟨H21, S22, i23, h24, nv25⟩ := S0.sealRowU (i := 0) (l' := L) rfl p0 (by decide) rfl
  obtain ⟨r26, hr27, hp⟩ := bnd hp
  refine FL.call rfl rfl rfl (E.call Tryz.call277 (A2 rfl rfl)) (w_slices_IndexFunc_int_int S22.sl v0 a0 (h24.mono upI) v1 a1 (p1.mono i23) hr27) ?_
  rintro e w28 ⟨rfl, r29⟩
  refine ⟨_, rfl, ?_⟩
  have r29 := Run.lend i23 S0.sl r29
  have S30 := S0.call r29
  refine FL.v (E.assign (v := Value.int .i64 r26) rfl) ?_
  refine FL.nil (FW.seq (FW.seq (FW.region ?_)))
  refine FL.v (E.move (v := Value.int .i64 r26) rfl) ?_
  refine FL.v (E.eql rfl rfl) ?_
  refine FL.nil ?_
  rcases ifB hp with ⟨c31, hp⟩ | ⟨c31, hp⟩
  ·
    refine FW.condT rfl c31 ?_
    refine FW.seq (FW.region ?_)
    refine FL.v (E.move (v := v0) rfl) ?_
    refine FL.v (E.assign (v := v0) rfl) ?_
    refine FL.nil ?_
    refine FW.ret ?_
    obtain rfl := Option.some.inj hp
    exact ⟨.inr rfl, res1 rfl rfl ⟨_, _, _, _, rfl, ⟨S30, (Inc.rfl _)⟩, p0⟩⟩
  ·
    refine FW.condF rfl c31 ?_
    refine FW.skip (FW.seq (FW.seq (FW.region ?_)))
    refine FL.v (E.move (v := Value.int .i64 r26) rfl) ?_
    refine FL.v (E.add rfl rfl) ?_
    refine FL.v (E.assign (v := Value.int .i64 (wr (r26 + 1))) rfl) ?_
    refine FL.nil ?_
    obtain ⟨q32, hq, hp⟩ := bndR hp
    refine FW.block ?_
    refine FW.mono (FW.iter (S := ((List Int) × Int × Int)) (X := Empty) (fun (s32 : ((List Int) × Int × Int)) f w => ∃ H : GH, ∃ cs78 : List Value, St H0 w0 H w (.row 3 1 v0 n0 cs78 :: L) ∧ Inc Ha H ∧ Els (up w0.heap.size H) eI 1 cs78 s32.1 ∧ f 0 = v0 ∧ f 1 = v1 ∧ f 5 = Value.int .i64 s32.2.1 ∧ f 6 = Value.int .i64 s32.2.2) (fun (q : Rs ((List Int) × Int × Int) Empty) e f w => match q with | .go s32 => e = Exit.exit 0 ∧ (∃ H : GH, ∃ cs78 : List Value, St H0 w0 H w (.row 3 1 v0 n0 cs78 :: L) ∧ Inc Ha H ∧ Els (up w0.heap.size H) eI 1 cs78 s32.1 ∧ f 0 = v0 ∧ f 5 = Value.int .i64 s32.2.1) | .rt x => x.elim) hq ⟨_, _, S30, (Inc.rfl _), p0, rfl, rfl, rfl, rfl⟩ ?_) ?_
    ·
      clear hp hq
      rintro s32 f129 w128 ⟨H125, cs78, S126, i127, els79, k130, k131, k132, k133⟩ o170 hp
      refine FW.seq (FW.seq (FW.region ?_))
      refine FL.v (E.move k133) ?_
      refine FL.v (E.move k130) ?_
      refine FL.v (E.lenO te34 rfl S126 (i := 0) rfl els79 (by decide)) ?_
      refine FL.v (E.lss rfl rfl) ?_
      refine FL.nil ?_
      rcases ifB hp with ⟨c134, hp⟩ | ⟨c134, hp⟩
      ·
        refine FW.condT rfl c134 ?_
        refine FW.skip (FW.seq (FW.block (FW.seq (FW.region ?_))))
        refine FL.v (E.move k130) ?_
        refine FL.v (E.move k133) ?_
        obtain ⟨x141, hx142, hp⟩ := bnd hp
        obtain ⟨p135, cs136, pt137, l138, at139, rel140⟩ := S126.row_at (i := 0) rfl els79 (by decide) hx142
        obtain rfl := eI_open rel140
        refine FL.v (E.indexAddr te34 rfl rfl pt137) ?_
        refine FL.v (E.load rfl (run_load0 Tryz.isAgg3 at139 rfl)) ?_
        refine FL.v (E.assign (v := Value.int .i64 x141) rfl) ?_
        refine FL.nil (FW.seq (FW.region ?_))
        refine FL.v (E.move k131) ?_
        refine FL.v (E.move (v := Value.int .i64 x141) rfl) ?_
        obtain ⟨r143, hr144, hp⟩ := bnd hp
        obtain ⟨fi148, cs149, hv150, he151, hc152⟩ := (p1.mono i127) H125 w128 (Inc.rfl _) S126.sl x141 r143 hr144
        refine FL.call rfl rfl rfl (E.callV he151 (Eq.trans rfl hv150) (appA (A1 rfl) cs149)) hc152 ?_
        rintro e w145 ⟨rfl, r146⟩
        refine ⟨_, rfl, ?_⟩
        have S147 := S126.call r146
        refine FL.v (E.not rfl) ?_
        refine FL.nil ?_
        rcases ifB hp with ⟨c153, hp⟩ | ⟨c153, hp⟩
        ·
          refine FW.condT rfl c153 ?_
          refine FW.seq (FW.region ?_)
          refine FL.v (E.move k130) ?_
          refine FL.v (E.move k132) ?_
          refine FL.v (E.move (v := Value.int .i64 x141) rfl) ?_
          obtain ⟨x160, hx161, hp⟩ := bnd hp
          obtain ⟨p154, cs155, pt156, l157, at158, rel159⟩ := S147.row_at (i := 0) rfl els79 (by decide) hx161
          obtain rfl := eI_open rel159
          refine FL.v (E.indexAddr te34 rfl rfl pt156) ?_
          obtain ⟨xs165, hput166, hp⟩ := bnd hp
          obtain ⟨w162, cs168, run163, S164, els167, ce169⟩ := S147.putEls (P := Tryz.prog) (t := 3) (i := 0) rfl els79 hput166 pt156 Tryz.sizeOf3 (u := Value.int .i64 x141) (c := [Value.int .i64 x141]) rfl rfl (ones_cons rfl ones_nil) rfl
          have S164 : St H0 w0 H125 w162 (.row 3 1 v0 n0 cs168 :: L) := S164
          refine FL.act rfl rfl (E.store rfl rfl run163) ?_
          refine FL.nil (FW.region ?_)
          refine FL.v (E.move k132) ?_
          refine FL.v (E.add rfl rfl) ?_
          refine FL.v (E.assign (v := Value.int .i64 (wr (s32.2.1 + 1))) rfl) ?_
          refine FL.nil (FW.region ?_)
          refine FL.v (E.move k133) ?_
          refine FL.v (E.add rfl rfl) ?_
          refine FL.v (E.assign (v := Value.int .i64 (wr (s32.2.2 + 1))) rfl) ?_
          refine FL.nil ?_
          obtain rfl := Option.some.inj hp
          exact ⟨rfl, ⟨_, _, S164, i127, els167, k130, k131, rfl, rfl⟩⟩
        ·
          refine FW.condF rfl c153 ?_
          refine FW.skip (FW.region ?_)
          refine FL.v (E.move k133) ?_
          refine FL.v (E.add rfl rfl) ?_
          refine FL.v (E.assign (v := Value.int .i64 (wr (s32.2.2 + 1))) rfl) ?_
          refine FL.nil ?_
          obtain rfl := Option.some.inj hp
          exact ⟨rfl, ⟨_, _, S147, i127, els79, k130, k131, k132, rfl⟩⟩
      ·
        refine FW.condF rfl c134 ?_
        refine FW.exit ?_
        obtain rfl := Option.some.inj hp
        exact ⟨nofun, rfl, ⟨_, _, S126, i127, els79, k130, k132⟩⟩
    ·
      clear hq
      intro e f175 w174 hD
      rcases q32 with s32 | x32
      ·
        obtain ⟨rfl, hD⟩ := hD
        obtain ⟨H171, cs78, S172, i173, els79, k176, k177⟩ := hD
        replace hp := el_go hp
        refine FW.seq (FW.region ?_)
        refine FL.v (E.move k176) ?_
        refine FL.v (E.move k177) ?_
        obtain ⟨xs178, hc179, hp⟩ := bnd hp
        obtain ⟨v180, run181, h182⟩ := S172.tail te34 (kk := .i64) (i := 0) rfl els79 hc179
        refine FL.v (E.slice te34 rfl (congrArg some rfl) rfl rfl (run181 _)) ?_
        obtain ⟨w183, cs184, run185, S186, els187⟩ := S172.clearTail (P := Tryz.prog) te34 (i := 0) rfl els79 h182 rfl (ones_cons rfl ones_nil)
        have S186 : St H0 w0 H171 w183 (.row 3 1 v0 n0 cs184 :: L) := S186
        refine FL.val0 rfl rfl (E.clear rfl run185) ?_
        refine FL.nil (FW.seq (FW.region ?_))
        refine FL.v (E.move k176) ?_
        refine FL.v (E.move k177) ?_
        obtain ⟨xs188, hc189, hp⟩ := bnd hp
        obtain ⟨v190, n191, cs192, run193, S194, els195, nd196⟩ := S186.cutRow te34 (kk := .i64) (i := 0) rfl els187 hc189
        have S194 : St H0 w0 H171 w183 (.row 3 1 v190 n191 cs192 :: L) := S194
        refine FL.v (E.slice te34 rfl rfl (congrArg some rfl) rfl (run193 _)) ?_
        refine FL.v (E.assign (v := v190) rfl) ?_
        refine FL.nil ?_
        refine FW.ret ?_
        obtain rfl := Option.some.inj hp
        exact ⟨.inr rfl, res1 rfl rfl ⟨_, _, _, _, rfl, ⟨S194, i173⟩, els195⟩⟩
      · exact x32.elim

theorem w_impl_openPart_1 {Ha : GH} {wa : World} (hs : Sl Ha wa) (a0 : Int) (q0 : Addr) (b0 : List Int) (u0_0 : Value) (g0_0 : RSl Ha eI 1 u0_0 b0) (c0 : CAt Ha q0 [u0_0]) {r : Bool} (hp : (PF.impl_openPart_1 a0 b0) = some r) :
  Calls Tryz.prog 278 #[Value.int .i64 a0, Value.pointer (some q0)] wa (Sc Ha wa (Value.bool r)) := by
 unfold PF.impl_openPart_1 at hp
 have S0 := St.init hs
 refine calls_go (N := 8) (args := [Value.int .i64 a0, Value.pointer (some q0)]) Tryz.func278 rfl rfl rfl ?_
 refine FW.seq (FW.region ?_)
 refine FL.v (E.assign (v := Value.bool false) rfl) ?_
 refine FL.nil (FW.seq (FW.region ?_))
 refine FL.v (E.load rfl (run_load0 Tryz.isAgg34 (c0.now S0.sl) rfl)) ?_
 refine FL.v (E.move (v := Value.int .i64 a0) rfl) ?_
 refine FL.v (E.neg rfl) ?_
 obtain ⟨r21, hr22, hp⟩ := bnd hp
 refine FL.call rfl rfl rfl (E.call Tryz.call74 (A2 rfl rfl)) (w_slices_Contains_int_int S0.sl u0_0 b0 g0_0 (wr (-a0)) hr22) ?_
 rintro e w23 ⟨rfl, r24⟩
 refine ⟨_, rfl, ?_⟩
 have S25 := S0.call r24
 refine FL.v (E.assign (v := Value.bool r21) rfl) ?_
 refine FL.nil ?_
 refine FW.ret ?_
 obtain rfl := Option.some.inj hp
 exact ⟨.inr rfl, res1 rfl rfl ⟨rfl, S25.back⟩⟩

@[reducible] def p_impl_openPart (Ha : GH) (wa : World) (r : (List Int)) : Ending → World → Prop :=
 fun e w' => ∃ H' : GH, ∃ v0 : Value, ∃ n0 : Nat, ∃ c0 : List Value, e = .returned (v0) ∧ St Ha wa H' w' [.row 3 1 v0 n0 c0] ∧ Els (up wa.heap.size H') eI 1 c0 r
theorem w_impl_openPart {Ha : GH} {wa : World} (hs : Sl Ha wa) (v0 : Value) (a0 : List Int) (p0 : RSl Ha eI 1 v0 a0) (v1 : Value) (a1 : List Int) (p1 : RSl Ha eI 1 v1 a1) {r : (List Int)} (hp : (PF.impl_openPart a0 a1) = some r) :
  Calls Tryz.prog 203 #[v0, v1] wa (p_impl_openPart Ha wa r) := by
 unfold PF.impl_openPart at hp
 have S0 := St.init hs
 refine calls_go (N := 9) (args := [v0, v1]) Tryz.func203 rfl rfl rfl ?_
 refine FW.seq (FW.region ?_)
 obtain ⟨b21, w22, run23, S24⟩ := S0.box (P := Tryz.prog) 34 [v1] (v := v1) p1.cells (ones_cons p1.one ones_nil)
 refine FL.v (E.box rfl run23) ?_
 obtain ⟨H25, S26, i27, at28⟩ := S24.sealBox (i := 0) (l' := []) rfl rfl
 refine FL.v (E.assign (v := Value.slice none 0 0) rfl) ?_
 refine FL.nil (FW.seq (FW.region ?_))
 refine FL.v (E.move (v := v0) rfl) ?_
 obtain ⟨r29, hr30, hp⟩ := bnd hp
 refine FL.call rfl rfl rfl (E.call Tryz.call75 (A1 rfl)) (w_slices_Clone_int_int S26.sl v0 a0 (p0.mono i27) hr30) ?_
 rintro e w32 ⟨H31, v35, n36, cs37, rfl, r34, els38⟩
 refine ⟨_, rfl, ?_⟩
 have els38 := els38.mono (up_le S26.size)
 have S33 := S26.join (l' := [.row 3 1 v35 n36 cs37]) r34 rfl
 refine FL.v (E.makeFunc A0 (A1 rfl)) ?_
 obtain ⟨r39, hr40, hp⟩ := bnd hp
 refine FL.call rfl rfl rfl (E.call Tryz.call259 (A2 rfl rfl)) (w_slices_DeleteFunc_int_int (L := []) S33 r29 els38 (Value.func (.func 278) #[] #[Value.pointer (some ⟨b21, 0, none⟩)]) (fun x0 => PF.impl_openPart_1 x0 a1) (fun H2 w2 hi2 hs2 x0 r hr => ⟨278, #[Value.pointer (some ⟨b21, 0, none⟩)], rfl, Tryz.call278, w_impl_openPart_1 hs2 x0 ⟨b21, 0, none⟩ a1 v1 ((p1.mono (i27.tr r34.run.inc)).mono hi2) ((at28.mono r34.run.inc).mono hi2) hr⟩) hr40) ?_
 rintro e w42 ⟨H41, v45, n46, cs47, rfl, ⟨S43, i44⟩, els48⟩
 refine ⟨_, rfl, ?_⟩
 have S43 : St Ha wa H41 w42 [.row 3 1 v45 n46 cs47] := S43
 refine FL.v (E.assign (v := v45) rfl) ?_
 refine FL.nil ?_
 refine FW.ret ?_
 obtain rfl := Option.some.inj hp
 exact ⟨.inr rfl, res1 rfl rfl ⟨_, _, _, _, rfl, S43, els48⟩⟩

theorem w_impl_unit {Ha : GH} {wa : World} (hs : Sl Ha wa) (v0 : Value) (a0 : List Int) (p0 : RSl Ha eI 1 v0 a0) (v1 : Value) (a1 : List Int) (p1 : RSl Ha eI 1 v1 a1) {r : Int} (hp : (PF.impl_unit a0 a1) = some r) :
  Calls Tryz.prog 193 #[v0, v1] wa (Sc Ha wa (Value.int .i64 r)) := by
 unfold PF.impl_unit at hp
 have S0 := St.init hs
 refine calls_go (N := 19) (args := [v0, v1]) Tryz.func193 rfl rfl rfl ?_
 refine FW.seq (FW.region ?_)
 refine FL.v (E.assign (v := Value.int .i64 0) rfl) ?_
 refine FL.nil (FW.seq (FW.seq (FW.region ?_)))
 refine FL.v (E.move (v := v0) rfl) ?_
 refine FL.v (E.move (v := v1) rfl) ?_
 obtain ⟨r21, hr22, hp⟩ := bnd hp
 refine FL.call rfl rfl rfl (E.call Tryz.call103 (A2 rfl rfl)) (w_impl_clauseValue S0.sl v0 a0 p0 v1 a1 p1 hr22) ?_
 rintro e w23 ⟨rfl, r24⟩
 refine ⟨_, rfl, ?_⟩
 have S25 := S0.call r24
 refine FL.v (E.neq rfl rfl) ?_
 refine FL.nil ?_
 rcases ifB hp with ⟨c26, hp⟩ | ⟨c26, hp⟩
 ·
  refine FW.condT rfl c26 ?_
  refine FW.seq (FW.region ?_)
  refine FL.v (E.assign (v := Value.int .i64 0) rfl) ?_
  refine FL.nil ?_
  refine FW.ret ?_
  obtain rfl := Option.some.inj hp
  exact ⟨.inr rfl, res1 rfl rfl ⟨rfl, S25.back⟩⟩
 ·
  refine FW.condF rfl c26 ?_
  refine FW.skip (FW.seq (FW.seq (FW.region ?_)))
  refine FL.v (E.move (v := v0) rfl) ?_
  refine FL.v (E.move (v := v1) rfl) ?_
  obtain ⟨r27, hr28, hp⟩ := bnd hp
  refine FL.call rfl rfl rfl (E.call Tryz.call203 (A2 rfl rfl)) (w_impl_openPart S25.sl v0 a0 p0 v1 a1 p1 hr28) ?_
  rintro e w30 ⟨H29, v33, n34, cs35, rfl, r32, els36⟩
  refine ⟨_, rfl, ?_⟩
  have els36 := els36.mono (up_le S25.size)
  have S31 := S25.join (l' := [.row 3 1 v33 n34 cs35]) r32 rfl
  refine FL.v (E.assign (v := v33) rfl) ?_
  refine FL.nil (FW.seq (FW.region ?_))
  refine FL.v (E.move (v := v33) rfl) ?_
  refine FL.v (E.lenO te34 rfl S31 (i := 0) rfl els36 (by decide)) ?_
  refine FL.v (E.eql rfl rfl) ?_
  refine FL.nil ?_
  rcases ifB hp with ⟨c37, hp⟩ | ⟨c37, hp⟩
  ·
   refine FW.condT rfl c37 ?_
   refine FW.seq (FW.region ?_)
   refine FL.v (E.move (v := v33) rfl) ?_
   obtain ⟨x44, hx45, hp⟩ := bnd hp
   obtain ⟨p38, cs39, pt40, l41, at42, rel43⟩ := S31.row_at (i := 0) rfl els36 (by decide) hx45
   obtain rfl := eI_open rel43
   refine FL.v (E.indexAddr te34 rfl rfl pt40) ?_
   refine FL.v (E.load rfl (run_load0 Tryz.isAgg3 at42 rfl)) ?_
   refine FL.v (E.assign (v := Value.int .i64 x44) rfl) ?_
   refine FL.nil ?_
   refine FW.ret ?_
   obtain rfl := Option.some.inj hp
   exact ⟨.inr rfl, res1 rfl rfl ⟨rfl, S31.back⟩⟩
  ·
   refine FW.condF rfl c37 ?_
   refine FW.skip (FW.seq (FW.region ?_))
   refine FL.v (E.assign (v := Value.int .i64 0) rfl) ?_
   refine FL.nil ?_
   refine FW.ret ?_
   obtain rfl := Option.some.inj hp
   exact ⟨.inr rfl, res1 rfl rfl ⟨rfl, S31.back⟩⟩

theorem w_impl_withoutVar_1 {Ha : GH} {wa : World} (hs : Sl Ha wa) (a0 : Int) (q0 : Addr) (b0 : Int) (c0 : CAt Ha q0 [Value.int .i64 b0]) :
  Calls Tryz.prog 260 #[Value.int .i64 a0, Value.pointer (some q0)] wa (Sc Ha wa (Value.bool (PF.impl_withoutVar_1 a0 b0))) := by
 obtain ⟨r, hp⟩ : ∃ r, (PF.impl_withoutVar_1 a0 b0) = r := ⟨_, rfl⟩
 rw [hp]
 unfold PF.impl_withoutVar_1 at hp
 have S0 := St.init hs
 refine calls_go (N := 8) (args := [Value.int .i64 a0, Value.pointer (some q0)]) Tryz.func260 rfl rfl rfl ?_
 refine FW.seq (FW.region ?_)
 refine FL.v (E.assign (v := Value.bool false) rfl) ?_
 refine FL.nil (FW.seq ?_)
 refine FW.draw (fun w' => Run wa.heap.size Ha wa Ha w') (by kernel_rfl) (by kernel_rfl) (run_drew S0.sl) ?_
 refine FD.val rfl rfl rfl (fun w' hw' => (E.move (v := Value.int .i64 a0) rfl)) ?_
 refine FD.call rfl rfl rfl (fun w' hw' => (E.call Tryz.call214 (A1 rfl))) (fun w' hw' => Calls.cls hw' (w_impl_abs (S0.call hw').sl a0)) ?_
 refine FD.val rfl rfl rfl (fun w' hw' => (E.load rfl (run_load0 Tryz.isAgg3 (c0.now (S0.call hw').sl) rfl))) ?_
 refine FD.val rfl rfl rfl (fun w' hw' => (E.eql rfl rfl)) ?_
 refine FD.val rfl rfl rfl (fun w' hw' => (E.assign (v := Value.bool ((PF.impl_abs a0) == b0)) rfl)) ?_
 refine FD.nil ?_
 intro w22 r24
 have S23 := S0.call r24
 refine FW.ret ?_
 obtain rfl := hp
 exact ⟨.inr rfl, res1 rfl rfl ⟨rfl, S23.back⟩⟩

@[reducible] def p_impl_withoutVar (Ha : GH) (wa : World) (r : (List Int)) : Ending → World → Prop :=
 fun e w' => ∃ H' : GH, ∃ v0 : Value, ∃ n0 : Nat, ∃ c0 : List Value, e = .returned (v0) ∧ St Ha wa H' w' [.row 3 1 v0 n0 c0] ∧ Els (up wa.heap.size H') eI 1 c0 r
theorem w_impl_withoutVar {Ha : GH} {wa : World} (hs : Sl Ha wa) (v0 : Value) (a0 : List Int) (p0 : RSl Ha eI 1 v0 a0) (a1 : Int) {r : (List Int)} (hp : (PF.impl_withoutVar a0 a1) = some r) :
  Calls Tryz.prog 172 #[v0, Value.int .i64 a1] wa (p_impl_withoutVar Ha wa r) := by
 unfold PF.impl_withoutVar at hp
 have S0 := St.init hs
 refine calls_go (N := 9) (args := [v0, Value.int .i64 a1]) Tryz.func172 rfl rfl rfl ?_
 refine FW.seq (FW.region ?_)
 obtain ⟨b21, w22, run23, S24⟩ := S0.box (P := Tryz.prog) 3 [Value.int .i64 a1] (v := Value.int .i64 a1) rfl (ones_cons rfl ones_nil)
 refine FL.v (E.box rfl run23) ?_
 obtain ⟨H25, S26, i27, at28⟩ := S24.sealBox (i := 0) (l' := []) rfl rfl
 refine FL.v (E.assign (v := Value.slice none 0 0) rfl) ?_
 refine FL.nil (FW.seq (FW.region ?_))
 refine FL.v (E.move (v := v0) rfl) ?_
 obtain ⟨r29, hr30, hp⟩ := bnd hp
 refine FL.call rfl rfl rfl (E.call Tryz.call75 (A1 rfl)) (w_slices_Clone_int_int S26.sl v0 a0 (p0.mono i27) hr30) ?_
 rintro e w32 ⟨H31, v35, n36, cs37, rfl, r34, els38⟩
 refine ⟨_, rfl, ?_⟩
 have els38 := els38.mono (up_le S26.size)
 have S33 := S26.join (l' := [.row 3 1 v35 n36 cs37]) r34 rfl
 refine FL.v (E.makeFunc A0 (A1 rfl)) ?_
 obtain ⟨r39, hr40, hp⟩ := bnd hp
 refine FL.call rfl rfl rfl (E.call Tryz.call259 (A2 rfl rfl)) (w_slices_DeleteFunc_int_int (L := []) S33 r29 els38 (Value.func (.func 260) #[] #[Value.pointer (some ⟨b21, 0, none⟩)]) (fun x0 => some (PF.impl_withoutVar_1 x0 a1)) (fun H2 w2 hi2 hs2 x0 r hr => ⟨260, #[Value.pointer (some ⟨b21, 0, none⟩)], rfl, Tryz.call260, by cases hr; exact w_impl_withoutVar_1 hs2 x0 ⟨b21, 0, none⟩ a1 ((at28.mono r34.run.inc).mono hi2)⟩) hr40) ?_
 rintro e w42 ⟨H41, v45, n46, cs47, rfl, ⟨S43, i44⟩, els48⟩
 refine ⟨_, rfl, ?_⟩
 have S43 : St Ha wa H41 w42 [.row 3 1 v45 n46 cs47] := S43
 refine FL.v (E.assign (v := v45) rfl) ?_
 refine FL.nil ?_
 refine FW.ret ?_
 obtain rfl := Option.some.inj hp
 exact ⟨.inr rfl, res1 rfl rfl ⟨_, _, _, _, rfl, S43, els48⟩⟩

@[reducible] def p_slices_SortFunc_int_int (H0 : GH) (w0 : World) (Ha : GH) (L : List MO) (v0 : Value) (n0 : Nat) (r : (List Int)) : Ending → World → Prop :=
 fun e w' => ∃ H' : GH, ∃ c0k : List Value, e = .returned (Value.tuple #[]) ∧ (St H0 w0 H' w' (.row 3 1 v0 n0 c0k :: L) ∧ Inc Ha H') ∧ Els (up w0.heap.size H') eI 1 c0k r
theorem w_slices_SortFunc_int_int {H0 Ha : GH} {w0 wa : World} {L : List MO} {v0 : Value} {n0 : Nat} {k0 : List Value} (S0 : St H0 w0 Ha wa (.row 3 1 v0 n0 k0 :: L)) (a0 : List Int) (p0 : Els (up w0.heap.size Ha) eI 1 k0 a0) (v1 : Value) (a1 : Int → Int → Option Int) (p1 : Fn_I_I_to_I Tryz.prog Ha v1 a1) {r : (List Int)} (hp : (PF.slices_SortFunc_int_int a0 a1) = some r) :
  Calls Tryz.prog 256 #[v0, v1] wa (p_slices_SortFunc_int_int H0 w0 Ha L v0 n0 r) := by
 refine (St.sortF (l := .row 3 1 v0 n0 k0 :: L) (i := 0) upI S0 rfl p0 (fun H2 w2 hi hs2 c x hc d y hd r hr => by cases eI_open hc; cases eI_open hd; exact p1 H2 w2 hi hs2 x y r hr) (fun p cap fv w => AnyF.slices_SortFunc_none (P := Tryz.prog) (ρ := Tryz.sort256_ren) { Tryz.sort256 with } p cap fv w) (fun α _ enc h1 cf hO g cb blk off cap d w eg hc hH hb hs => Any.slices_SortFunc Tryz.sort256 enc h1 cf hO g cb blk off cap d w eg hc hH hb hs) hp).mono ?_
 rintro e w' ⟨rfl, c', h1, h2, hq⟩
 exact ⟨_, _, rfl, ⟨h1, Inc.rfl _⟩, h2⟩

theorem w_cmp_isNaN_int {Ha : GH} {wa : World} (hs : Sl Ha wa) (a0 : Int) :
  Calls Tryz.prog 271 #[Value.int .i64 a0] wa (Sc Ha wa (Value.bool (PF.cmp_isNaN_int a0))) := by
 obtain ⟨r, hp⟩ : ∃ r, (PF.cmp_isNaN_int a0) = r := ⟨_, rfl⟩
 rw [hp]
 unfold PF.cmp_isNaN_int at hp
 have S0 := St.init hs
 refine calls_go (N := 6) (args := [Value.int .i64 a0]) Tryz.func271 rfl rfl rfl ?_
 refine FW.seq (FW.region ?_)
 refine FL.v (E.assign (v := Value.bool false) rfl) ?_
 refine FL.nil (FW.seq (FW.region ?_))
 refine FL.v (E.move (v := Value.int .i64 a0) rfl) ?_
 refine FL.v (E.move (v := Value.int .i64 a0) rfl) ?_
 refine FL.v (E.neq rfl rfl) ?_
 refine FL.v (E.assign (v := Value.bool (!(a0 == a0))) rfl) ?_
 refine FL.nil ?_
 refine FW.ret ?_
 obtain rfl := hp
 exact ⟨.inr rfl, res1 rfl rfl ⟨rfl, S0.back⟩⟩

theorem w_cmp_Compare_int {Ha : GH} {wa : World} (hs : Sl Ha wa) (a0 : Int) (a1 : Int) :
  Calls Tryz.prog 176 #[Value.int .i64 a0, Value.int .i64 a1] wa (Sc Ha wa (Value.int .i64 (PF.cmp_Compare_int a0 a1))) := by
 obtain ⟨r, hp⟩ : ∃ r, (PF.cmp_Compare_int a0 a1) = r := ⟨_, rfl⟩
 rw [hp]
 unfold PF.cmp_Compare_int at hp
 have S0 := St.init hs
 refine calls_go (N := 20) (args := [Value.int .i64 a0, Value.int .i64 a1]) Tryz.func176 rfl rfl rfl ?_
 refine FW.seq (FW.region ?_)
 refine FL.v (E.assign (v := Value.int .i64 0) rfl) ?_
 refine FL.nil (FW.seq (FW.region ?_))
 refine FL.v (E.move (v := Value.int .i64 a0) rfl) ?_
 refine FL.call rfl rfl rfl (E.call Tryz.call271 (A1 rfl)) (w_cmp_isNaN_int S0.sl a0) ?_
 rintro e w21 ⟨rfl, r22⟩
 refine ⟨_, rfl, ?_⟩
 have S23 := S0.call r22
 refine FL.v (E.assign (v := Value.bool (PF.cmp_isNaN_int a0)) rfl) ?_
 refine FL.nil (FW.seq (FW.region ?_))
 refine FL.v (E.move (v := Value.int .i64 a1) rfl) ?_
 refine FL.call rfl rfl rfl (E.call Tryz.call271 (A1 rfl)) (w_cmp_isNaN_int S23.sl a1) ?_
 rintro e w24 ⟨rfl, r25⟩
 refine ⟨_, rfl, ?_⟩
 have S26 := S23.call r25
 refine FL.v (E.assign (v := Value.bool (PF.cmp_isNaN_int a1)) rfl) ?_
 refine FL.nil (FW.seq (FW.seq (FW.region ?_)))
 refine FL.v (E.move (v := Value.bool (PF.cmp_isNaN_int a0)) rfl) ?_
 refine FL.nil ?_
 rcases ifT hp with ⟨c27, hp⟩ | ⟨c27, hp⟩
 ·
  refine FW.condT rfl c27 ?_
  refine FW.seq (FW.seq (FW.region ?_))
  refine FL.v (E.move (v := Value.bool (PF.cmp_isNaN_int a1)) rfl) ?_
  refine FL.nil ?_
  rcases ifT hp with ⟨c28, hp⟩ | ⟨c28, hp⟩
  ·
   refine FW.condT rfl c28 ?_
   refine FW.seq (FW.region ?_)
   refine FL.v (E.assign (v := Value.int .i64 0) rfl) ?_
   refine FL.nil ?_
   refine FW.ret ?_
   obtain rfl := hp
   exact ⟨.inr rfl, res1 rfl rfl ⟨rfl, S26.back⟩⟩
  ·
   refine FW.condF rfl c28 ?_
   refine FW.skip (FW.seq (FW.region ?_))
   refine FL.v (E.assign (v := Value.int .i64 (-1)) rfl) ?_
   refine FL.nil ?_
   refine FW.ret ?_
   obtain rfl := hp
   exact ⟨.inr rfl, res1 rfl rfl ⟨rfl, S26.back⟩⟩
 ·
  refine FW.condF rfl c27 ?_
  refine FW.skip (FW.seq (FW.seq (FW.region ?_)))
  refine FL.v (E.move (v := Value.bool (PF.cmp_isNaN_int a1)) rfl) ?_
  refine FL.nil ?_
  rcases ifT hp with ⟨c29, hp⟩ | ⟨c29, hp⟩
  ·
   refine FW.condT rfl c29 ?_
   refine FW.seq (FW.region ?_)
   refine FL.v (E.assign (v := Value.int .i64 1) rfl) ?_
   refine FL.nil ?_
   refine FW.ret ?_
   obtain rfl := hp
   exact ⟨.inr rfl, res1 rfl rfl ⟨rfl, S26.back⟩⟩
  ·
   refine FW.condF rfl c29 ?_
   refine FW.skip (FW.seq (FW.seq (FW.region ?_)))
   refine FL.v (E.move (v := Value.int .i64 a0) rfl) ?_
   refine FL.v (E.move (v := Value.int .i64 a1) rfl) ?_
   refine FL.v (E.lss rfl rfl) ?_
   refine FL.nil ?_
   rcases ifT hp with ⟨c30, hp⟩ | ⟨c30, hp⟩
   ·
    refine FW.condT rfl c30 ?_
    refine FW.seq (FW.region ?_)
    refine FL.v (E.assign (v := Value.int .i64 (-1)) rfl) ?_
    refine FL.nil ?_
    refine FW.ret ?_
    obtain rfl := hp
    exact ⟨.inr rfl, res1 rfl rfl ⟨rfl, S26.back⟩⟩
   ·
    refine FW.condF rfl c30 ?_
    refine FW.skip (FW.seq (FW.seq (FW.region ?_)))
    refine FL.v (E.move (v := Value.int .i64 a0) rfl) ?_
    refine FL.v (E.move (v := Value.int .i64 a1) rfl) ?_
    refine FL.v (E.gtr rfl rfl) ?_
    refine FL.nil ?_
    rcases ifT hp with ⟨c31, hp⟩ | ⟨c31, hp⟩
    ·
     refine FW.condT rfl c31 ?_
     refine FW.seq (FW.region ?_)
     refine FL.v (E.assign (v := Value.int .i64 1) rfl) ?_
     refine FL.nil ?_
     refine FW.ret ?_
     obtain rfl := hp
     exact ⟨.inr rfl, res1 rfl rfl ⟨rfl, S26.back⟩⟩
    ·
     refine FW.condF rfl c31 ?_
     refine FW.skip (FW.seq (FW.region ?_))
     refine FL.v (E.assign (v := Value.int .i64 0) rfl) ?_
     refine FL.nil ?_
     refine FW.ret ?_
     obtain rfl := hp
     exact ⟨.inr rfl, res1 rfl rfl ⟨rfl, S26.back⟩⟩

theorem w_cmp_Or_int {Ha : GH} {wa : World} (hs : Sl Ha wa) (v0 : Value) (a0 : List Int) (p0 : RSl Ha eI 1 v0 a0) {r : Int} (hp : (PF.cmp_Or_int a0) = some r) :
  Calls Tryz.prog 175 #[v0] wa (Sc Ha wa (Value.int .i64 r)) := by
 unfold PF.cmp_Or_int at hp
 have S0 := St.init hs
 refine calls_go (N := 18) (args := [v0]) Tryz.func175 rfl rfl rfl ?_
 refine FW.seq (FW.region ?_)
 refine FL.v (E.assign (v := Value.int .i64 0) rfl) ?_
 refine FL.nil (FW.seq (FW.region ?_))
 refine FL.v (E.assign (v := Value.int .i64 0) rfl) ?_
 refine FL.nil (FW.seq (FW.seq (FW.region ?_)))
 refine FL.v (E.move (v := v0) rfl) ?_
 refine FL.v (E.lenP te34 rfl p0) ?_
 refine FL.v (E.move (v := Value.int .i64 0) rfl) ?_
 refine FL.nil ?_
 obtain ⟨q22, hq, hp⟩ := bndR hp
 refine FW.block ?_
 refine FW.mono (FW.forL (S := Unit) (X := Int) (fun (i22 : Nat) (s22 : Unit) f w => ∃ H : GH, St Ha wa H w [] ∧ Inc Ha H ∧ f 8 = Value.int .i64 ((i22 : Nat) : Int) ∧ f 3 = Value.int .i64 0 ∧ f 6 = v0 ∧ f 7 = Value.int .i64 (len a0)) (fun q e f w => match q with | .go s22 => e = Exit.exit 0 ∧ (∃ H : GH, St Ha wa H w [] ∧ Inc Ha H ∧ f 3 = Value.int .i64 0) | .rt x => ((e = Exit.ret) ∧ (fun e f w => (e = Exit.normal ∨ e = Exit.ret) ∧ ∀ a, Fr (δ := []) 18 a f → ∃ v, (results Tryz.f175 a.tmps).run Tryz.prog w = .ok v w ∧ (Sc Ha wa (Value.int .i64 x)) (.returned v) w) e f w)) hq ⟨_, S0, (Inc.rfl _), rfl, rfl, rfl, rfl⟩ ?_ ?_) ?_
 ·
  clear hp hq
  rintro i22 y21 s22 f43 w42 ⟨H39, S40, i41, k44, k45, k46, k47⟩ hx22 o55 hp
  refine FW.seq (FW.region ?_)
  refine FL.v (E.lssT k44 k47 (lss_len hx22)) ?_
  refine FL.nil (FW.seq ?_)
  refine FW.condT rfl rfl ?_
  refine FW.skip (FW.seq (FW.block (FW.seq (FW.region ?_))))
  obtain ⟨p48, cs49, pt50, l51, at52, rel53⟩ := p0.at (ix_nat hx22)
  obtain rfl := eI_open rel53
  refine FL.v (E.indexAddr te34 k46 k44 pt50) ?_
  refine FL.v (E.load rfl (run_load0 Tryz.isAgg3 ((at52.mono i41).now S40.sl) rfl)) ?_
  refine FL.v (E.assign (v := Value.int .i64 y21) rfl) ?_
  refine FL.nil (FW.seq (FW.region ?_))
  refine FL.v (E.move (v := Value.int .i64 y21) rfl) ?_
  refine FL.v (E.move k45) ?_
  refine FL.v (E.neq rfl rfl) ?_
  refine FL.nil ?_
  rcases ifB hp with ⟨c54, hp⟩ | ⟨c54, hp⟩
  ·
   refine FW.condT rfl c54 ?_
   refine FW.seq (FW.region ?_)
   refine FL.v (E.move (v := Value.int .i64 y21) rfl) ?_
   refine FL.v (E.assign (v := Value.int .i64 y21) rfl) ?_
   refine FL.nil ?_
   refine FW.ret ?_
   obtain rfl := Option.some.inj hp
   exact ⟨nofun, rfl, ⟨.inr rfl, res1 rfl rfl ⟨rfl, S40.back⟩⟩⟩
  ·
   refine FW.condF rfl c54 ?_
   refine FW.skip (FW.region ?_)
   refine FL.v (E.add k44 rfl) ?_
   refine FL.v (E.move (v := Value.int .i64 (wr (((i22 : Nat) : Int) + 1))) rfl) ?_
   refine FL.nil ?_
   obtain rfl := Option.some.inj hp
   exact ⟨rfl, ⟨_, S40, i41, (nat_succ rfl (lt_of_get hx22) (p0.mono i41).le), k45, k46, k47⟩⟩
 ·
  clear hp hq
  rintro s22 f66 w65 ⟨H62, S63, i64, k67, k68, k69, k70⟩
  refine FW.seq (FW.region ?_)
  refine FL.v (E.lss k67 k70) ?_
  refine FL.nil (FW.seq ?_)
  refine FW.condF rfl dlt_len ?_
  refine FW.exit ?_
  exact ⟨nofun, rfl, ⟨_, S63, i64, k68⟩⟩
 ·
  clear hq
  intro e f60 w59 hD
  rcases q22 with s22 | x22
  ·
   obtain ⟨rfl, hD⟩ := hD
   obtain ⟨H56, S57, i58, k61⟩ := hD
   replace hp := el_go hp
   refine FW.seq (FW.region ?_)
   refine FL.v (E.move k61) ?_
   refine FL.v (E.assign (v := Value.int .i64 0) rfl) ?_
   refine FL.nil ?_
   refine FW.ret ?_
   obtain rfl := Option.some.inj hp
   exact ⟨.inr rfl, res1 rfl rfl ⟨rfl, S57.back⟩⟩
  ·
   obtain ⟨he, hL⟩ := hD
   replace hp := el_rt hp
   obtain rfl := Option.some.inj hp
   subst he
   exact hL

theorem w_impl_compareLiterals {Ha : GH} {wa : World} (hs : Sl Ha wa) (a0 : Int) (a1 : Int) {r : Int} (hp : (PF.impl_compareLiterals a0 a1) = some r) :
  Calls Tryz.prog 178 #[Value.int .i64 a0, Value.int .i64 a1] wa (Sc Ha wa (Value.int .i64 r)) := by
 unfold PF.impl_compareLiterals at hp
 have S0 := St.init hs
 refine calls_go (N := 15) (args := [Value.int .i64 a0, Value.int .i64 a1]) Tryz.func178 rfl rfl rfl ?_
 refine FW.seq (FW.region ?_)
 refine FL.v (E.assign (v := Value.int .i64 0) rfl) ?_
 refine FL.nil (FW.seq (FW.region ?_))
 refine FL.v (E.move (v := Value.int .i64 a0) rfl) ?_
 refine FL.call rfl rfl rfl (E.call Tryz.call214 (A1 rfl)) (w_impl_abs S0.sl a0) ?_
 rintro e w21 ⟨rfl, r22⟩
 refine ⟨_, rfl, ?_⟩
 have S23 := S0.call r22
 refine FL.v (E.move (v := Value.int .i64 a1) rfl) ?_
 refine FL.call rfl rfl rfl (E.call Tryz.call214 (A1 rfl)) (w_impl_abs S23.sl a1) ?_
 rintro e w24 ⟨rfl, r25⟩
 refine ⟨_, rfl, ?_⟩
 have S26 := S23.call r25
 refine FL.call rfl rfl rfl (E.call Tryz.call176 (A2 rfl rfl)) (w_cmp_Compare_int S26.sl (PF.impl_abs a0) (PF.impl_abs a1)) ?_
 rintro e w27 ⟨rfl, r28⟩
 refine ⟨_, rfl, ?_⟩
 have S29 := S26.call r28
 refine FL.v (E.move (v := Value.int .i64 a1) rfl) ?_
 refine FL.v (E.move (v := Value.int .i64 a0) rfl) ?_
 refine FL.call rfl rfl rfl (E.call Tryz.call176 (A2 rfl rfl)) (w_cmp_Compare_int S29.sl a1 a0) ?_
 rintro e w30 ⟨rfl, r31⟩
 refine ⟨_, rfl, ?_⟩
 have S32 := S29.call r31
 obtain ⟨v33, w34, run35, S36⟩ := S32.buildSlice (P := Tryz.prog) te34 [Value.int .i64 (PF.cmp_Compare_int (PF.impl_abs a0) (PF.impl_abs a1)), Value.int .i64 (PF.cmp_Compare_int a1 a0)] (parts := #[(0, Value.int .i64 (PF.cmp_Compare_int (PF.impl_abs a0) (PF.impl_abs a1))), (1, Value.int .i64 (PF.cmp_Compare_int a1 a0))]) (cells := [Value.int .i64 (PF.cmp_Compare_int (PF.impl_abs a0) (PF.impl_abs a1)), Value.int .i64 (PF.cmp_Compare_int a1 a0)]) rfl (szs_cons rfl (szs_cons rfl szs_nil)) (fc_cons rfl (fc_cons rfl fc_nil)) (ones_cons rfl (ones_cons rfl ones_nil)) (Nat.le_of_ble_eq_true rfl)
 have els37 : Els (up wa.heap.size Ha) eI 1 [Value.int .i64 (PF.cmp_Compare_int (PF.impl_abs a0) (PF.impl_abs a1)), Value.int .i64 (PF.cmp_Compare_int a1 a0)] [(PF.cmp_Compare_int (PF.impl_abs a0) (PF.impl_abs a1)), (PF.cmp_Compare_int a1 a0)] := (Els.snoc (H := (up wa.heap.size Ha)) (E := eI) (k := 1) (c := [Value.int .i64 (PF.cmp_Compare_int a1 a0)]) (x := (PF.cmp_Compare_int a1 a0)) (Els.snoc (H := (up wa.heap.size Ha)) (E := eI) (k := 1) (c := [Value.int .i64 (PF.cmp_Compare_int (PF.impl_abs a0) (PF.impl_abs a1))]) (x := (PF.cmp_Compare_int (PF.impl_abs a0) (PF.impl_abs a1))) Els.nil rfl rfl) rfl rfl)
 refine FL.v (E.buildSlice (B2 rfl rfl) run35) ?_
 obtain ⟨H38, S39, i40, h41, nv42⟩ := S36.sealRowU (i := 0) (l' := []) rfl els37 (by decide) rfl
 obtain ⟨r43, hr44, hp⟩ := bnd hp
 refine FL.call rfl rfl rfl (E.call Tryz.call175 (A1 rfl)) (w_cmp_Or_int S39.sl v33 [(PF.cmp_Compare_int (PF.impl_abs a0) (PF.impl_abs a1)), (PF.cmp_Compare_int a1 a0)] (h41.mono upI) hr44) ?_
 rintro e w45 ⟨rfl, r46⟩
 refine ⟨_, rfl, ?_⟩
 have r46 := Run.lend i40 S36.sl r46
 have S47 := S36.call r46
 refine FL.v (E.assign (v := Value.int .i64 r43) rfl) ?_
 refine FL.nil ?_
 refine FW.ret ?_
 obtain rfl := Option.some.inj hp
 exact ⟨.inr rfl, res1 rfl rfl ⟨rfl, S47.back⟩⟩

@[reducible] def p_slices_Compact_int_int (H0 : GH) (w0 : World) (Ha : GH) (L : List MO) (r : (List Int)) : Ending → World → Prop :=
 fun e w' => ∃ H' : GH, ∃ v0r : Value, ∃ n0r : Nat, ∃ c0r : List Value, e = .returned (v0r) ∧ (St H0 w0 H' w' (.row 3 1 v0r n0r c0r :: L) ∧ Inc Ha H') ∧ Els (up w0.heap.size H') eI 1 c0r r
theorem w_slices_Compact_int_int {H0 Ha : GH} {w0 wa : World} {L : List MO} {v0 : Value} {n0 : Nat} {k0 : List Value} (S0 : St H0 w0 Ha wa (.row 3 1 v0 n0 k0 :: L)) (a0 : List Int) (p0 : Els (up w0.heap.size Ha) eI 1 k0 a0) {r : (List Int)} (hp : (PF.slices_Compact_int_int a0) = some r) :
  Calls Tryz.prog 257 #[v0] wa (p_slices_Compact_int_int H0 w0 Ha L r) := by
 cases hp
 refine (St.compactF (l := .row 3 1 v0 n0 k0 :: L) (i := 0) S0 rfl p0 (enc := Value.int .i64) (fun _ => rfl) (fun _ _ _ h => by cases eI_open h; rfl) (fun _ _ => rfl) 0 (fun w => compact_none Tryz.comp257 w) (fun blk off cap d w hH hs hc => AnyE.slices_Compact Tryz.comp257 (Value.int .i64) (fun _ => rfl) (EqlAt.intD _ _ _) (NeqAt.intD _ _ _) 0 (fun w => Tryz.zeroValue3 w) blk off cap d w hH hs hc)).mono ?_
 rintro e w' ⟨v', n', c', rfl, h1, h2⟩
 exact ⟨_, _, _, _, rfl, ⟨h1, Inc.rfl _⟩, h2⟩

@[reducible] def p_impl_clause (Ha : GH) (wa : World) (r : ((List Int) × Bool)) : Ending → World → Prop :=
 fun e w' => ∃ H' : GH, ∃ v0 : Value, ∃ n0 : Nat, ∃ c0 : List Value, e = .returned (Value.tuple #[v0, Value.bool r.2]) ∧ St Ha wa H' w' [.row 3 1 v0 n0 c0] ∧ Els (up wa.heap.size H') eI 1 c0 r.1
theorem w_impl_clause {Ha : GH} {wa : World} (hs : Sl Ha wa) (v0 : Value) (a0 : List Int) (p0 : RSl Ha eI 1 v0 a0) {r : ((List Int) × Bool)} (hp : (PF.impl_clause a0) = some r) :
  Calls Tryz.prog 170 #[v0] wa (p_impl_clause Ha wa r) := by
 unfold PF.impl_clause at hp
 have S0 := St.init hs
 refine calls_go (N := 30) (args := [v0]) Tryz.func170 rfl rfl rfl ?_
 refine FW.seq (FW.region ?_)
 refine FL.v (E.assign (v := Value.slice none 0 0) rfl) ?_
 refine FL.v (E.assign (v := Value.bool false) rfl) ?_
 refine FL.nil (FW.seq (FW.region ?_))
 refine FL.v (E.move (v := v0) rfl) ?_
 obtain ⟨r21, hr22, hp⟩ := bnd hp
 refine FL.call rfl rfl rfl (E.call Tryz.call75 (A1 rfl)) (w_slices_Clone_int_int S0.sl v0 a0 p0 hr22) ?_
 rintro e w24 ⟨H23, v27, n28, cs29, rfl, r26, els30⟩
 refine ⟨_, rfl, ?_⟩
 have els30 := els30.mono (up_le S0.size)
 have S25 := S0.join (l' := [.row 3 1 v27 n28 cs29]) r26 rfl
 refine FL.v (E.assign (v := v27) rfl) ?_
 refine FL.nil (FW.seq (FW.region ?_))
 refine FL.v (E.move (v := v27) rfl) ?_
 obtain ⟨r31, hr32, hp⟩ := bnd hp
 refine FL.call rfl rfl rfl (E.call Tryz.call256 (A2 rfl rfl)) (w_slices_SortFunc_int_int (L := []) S25 r21 els30 (Value.func (.func 178) #[] #[]) (fun x0 x1 => PF.impl_compareLiterals x0 x1) (fun H2 w2 hi2 hs2 x0 x1 r hr => ⟨178, #[], rfl, Tryz.call178, w_impl_compareLiterals hs2 x0 x1  hr⟩) hr32) ?_
 rintro e w34 ⟨H33, cs37, rfl, ⟨S35, i36⟩, els38⟩
 refine ⟨_, rfl, ?_⟩
 have S35 : St Ha wa H33 w34 [.row 3 1 v27 n28 cs37] := S35
 refine FL.nil (FW.seq (FW.region ?_))
 refine FL.v (E.move (v := v27) rfl) ?_
 obtain ⟨r39, hr40, hp⟩ := bnd hp
 refine FL.call rfl rfl rfl (E.call Tryz.call257 (A1 rfl)) (w_slices_Compact_int_int (L := []) S35 r31 els38 hr40) ?_
 rintro e w42 ⟨H41, v45, n46, cs47, rfl, ⟨S43, i44⟩, els48⟩
 refine ⟨_, rfl, ?_⟩
 have S43 : St Ha wa H41 w42 [.row 3 1 v45 n46 cs47] := S43
 refine FL.v (E.assign (v := v45) rfl) ?_
 refine FL.nil (FW.seq (FW.seq (FW.region ?_)))
 refine FL.v (E.assign (v := Value.int .i64 1) rfl) ?_
 refine FL.nil ?_
 obtain ⟨q49, hq, hp⟩ := bndR hp
 refine FW.block ?_
 refine FW.mono (FW.iter (S := Int) (X := ((List Int) × Bool)) (fun (s49 : Int) f w => ∃ H : GH, St Ha wa H w [.row 3 1 v45 n46 cs47] ∧ Inc H41 H ∧ f 4 = v45 ∧ f 5 = Value.int .i64 s49) (fun q e f w => match q with | .go s49 => e = Exit.exit 0 ∧ (∃ H : GH, St Ha wa H w [.row 3 1 v45 n46 cs47] ∧ Inc H41 H ∧ f 4 = v45) | .rt x => ((e = Exit.ret) ∧ (fun e f w => (e = Exit.normal ∨ e = Exit.ret) ∧ ∀ a, Fr (δ := []) 30 a f → ∃ v, (results Tryz.f170 a.tmps).run Tryz.prog w = .ok v w ∧ (p_impl_clause Ha wa x) (.returned v) w) e f w)) hq ⟨_, S43, (Inc.rfl _), rfl, rfl⟩ ?_) ?_
 ·
  clear hp hq
  rintro s49 f83 w82 ⟨H79, S80, i81, k84, k85⟩ o108 hp
  refine FW.seq (FW.seq (FW.region ?_))
  refine FL.v (E.move k85) ?_
  refine FL.v (E.move k84) ?_
  refine FL.v (E.lenO te34 rfl S80 (i := 0) rfl els48 (by decide)) ?_
  refine FL.v (E.lss rfl rfl) ?_
  refine FL.nil ?_
  rcases ifB hp with ⟨c86, hp⟩ | ⟨c86, hp⟩
  ·
   refine FW.condT rfl c86 ?_
   refine FW.skip (FW.seq (FW.block (FW.seq ?_)))
   refine FW.draw (fun w' => Run w82.heap.size H79 w82 H79 w') (by kernel_rfl) (by kernel_rfl) (run_drew S80.sl) ?_
   refine FD.val rfl rfl rfl (fun w' hw' => (E.move k84)) ?_
   refine FD.val rfl rfl rfl (fun w' hw' => (E.move k85)) ?_
   obtain ⟨x94, hx95, hp⟩ := bnd hp
   obtain ⟨p88, cs89, pt90, l91, at92, rel93⟩ := S80.row_at (i := 0) rfl els48 (by decide) hx95
   obtain rfl := eI_open rel93
   refine FD.val rfl rfl rfl (fun w' hw' => (E.indexAddr te34 rfl rfl pt90)) ?_
   refine FD.val rfl rfl rfl (fun w' hw' => (E.load rfl (run_load0 Tryz.isAgg3 (at92.cls hw') rfl))) ?_
   refine FD.val rfl rfl rfl (fun w' hw' => (E.move k84)) ?_
   refine FD.val rfl rfl rfl (fun w' hw' => (E.move k85)) ?_
   refine FD.val rfl rfl rfl (fun w' hw' => (E.sub rfl rfl)) ?_
   obtain ⟨x102, hx103, hp⟩ := bnd hp
   obtain ⟨p96, cs97, pt98, l99, at100, rel101⟩ := S80.row_at (i := 0) rfl els48 (by decide) hx103
   obtain rfl := eI_open rel101
   refine FD.val rfl rfl rfl (fun w' hw' => (E.indexAddr te34 rfl rfl pt98)) ?_
   refine FD.val rfl rfl rfl (fun w' hw' => (E.load rfl (run_load0 Tryz.isAgg3 (at100.cls hw') rfl))) ?_
   refine FD.val rfl rfl rfl (fun w' hw' => (E.neg rfl)) ?_
   refine FD.val rfl rfl rfl (fun w' hw' => (E.eql rfl rfl)) ?_
   refine FD.nil ?_
   intro w104 r106
   have S105 := S80.call r106
   rcases ifB hp with ⟨c107, hp⟩ | ⟨c107, hp⟩
   ·
    refine FW.condT rfl c107 ?_
    refine FW.seq (FW.region ?_)
    refine FL.v (E.assign (v := Value.slice none 0 0) rfl) ?_
    refine FL.v (E.assign (v := Value.bool false) rfl) ?_
    refine FL.nil ?_
    refine FW.ret ?_
    obtain rfl := Option.some.inj hp
    exact ⟨nofun, rfl, ⟨.inr rfl, res2 rfl rfl rfl ⟨_, _, _, _, rfl, ((S105.nil 3 1).sel [0] (by decide) rfl), Els.nil⟩⟩⟩
   ·
    refine FW.condF rfl c107 ?_
    refine FW.skip (FW.region ?_)
    refine FL.v (E.move k85) ?_
    refine FL.v (E.add rfl rfl) ?_
    refine FL.v (E.assign (v := Value.int .i64 (wr (s49 + 1))) rfl) ?_
    refine FL.nil ?_
    obtain rfl := Option.some.inj hp
    exact ⟨rfl, ⟨_, S105, i81, k84, rfl⟩⟩
  ·
   refine FW.condF rfl c86 ?_
   refine FW.exit ?_
   obtain rfl := Option.some.inj hp
   exact ⟨nofun, rfl, ⟨_, S80, i81, k84⟩⟩
 ·
  clear hq
  intro e f113 w112 hD
  rcases q49 with s49 | x49
  ·
   obtain ⟨rfl, hD⟩ := hD
   obtain ⟨H109, S110, i111, k114⟩ := hD
   replace hp := el_go hp
   refine FW.seq (FW.region ?_)
   refine FL.v (E.move k114) ?_
   refine FL.v (E.assign (v := v45) rfl) ?_
   refine FL.v (E.assign (v := Value.bool true) rfl) ?_
   refine FL.nil ?_
   refine FW.ret ?_
   obtain rfl := Option.some.inj hp
   exact ⟨.inr rfl, res2 rfl rfl rfl ⟨_, _, _, _, rfl, S110, (els48.mono (up_mono i111))⟩⟩
  ·
   obtain ⟨he, hL⟩ := hD
   replace hp := el_rt hp
   obtain rfl := Option.some.inj hp
   subst he
   exact hL

@[reducible] def p_impl_mustClause (Ha : GH) (wa : World) (r : (List Int)) : Ending → World → Prop :=
 fun e w' => ∃ H' : GH, ∃ v0 : Value, ∃ n0 : Nat, ∃ c0 : List Value, e = .returned (v0) ∧ St Ha wa H' w' [.row 3 1 v0 n0 c0] ∧ Els (up wa.heap.size H') eI 1 c0 r
theorem w_impl_mustClause {Ha : GH} {wa : World} (hs : Sl Ha wa) (v0 : Value) (a0 : List Int) (p0 : RSl Ha eI 1 v0 a0) {r : (List Int)} (hp : (PF.impl_mustClause a0) = some r) :
  Calls Tryz.prog 275 #[v0] wa (p_impl_mustClause Ha wa r) := by
 unfold PF.impl_mustClause at hp
 have S0 := St.init hs
 refine calls_go (N := 11) (args := [v0]) Tryz.func275 rfl rfl rfl ?_
 refine FW.seq (FW.region ?_)
 refine FL.v (E.assign (v := Value.slice none 0 0) rfl) ?_
 refine FL.nil (FW.seq (FW.region ?_))
 refine FL.v (E.move (v := v0) rfl) ?_
 obtain ⟨r21, hr22, hp⟩ := bnd hp
 refine FL.call rfl rfl rfl (E.call Tryz.call170 (A1 rfl)) (w_impl_clause S0.sl v0 a0 p0 hr22) ?_
 rintro e w24 ⟨H23, v27, n28, cs29, rfl, r26, els30⟩
 refine ⟨_, rfl, ?_⟩
 have els30 := els30.mono (up_le S0.size)
 have S25 := S0.join (l' := [.row 3 1 v27 n28 cs29]) r26 rfl
 refine FL.v (E.move (v := Value.tuple #[v27, Value.bool r21.2]) rfl) ?_
 refine FL.v (E.extract (i := 0) rfl rfl) ?_
 refine FL.v (E.extract (i := 1) rfl rfl) ?_
 refine FL.v (E.assign (v := v27) rfl) ?_
 refine FL.v (E.assign (v := Value.bool r21.2) rfl) ?_
 refine FL.nil (FW.seq (FW.region ?_))
 refine FL.v (E.move (v := v27) rfl) ?_
 refine FL.v (E.assign (v := v27) rfl) ?_
 refine FL.nil ?_
 refine FW.ret ?_
 obtain rfl := Option.some.inj hp
 exact ⟨.inr rfl, res1 rfl rfl ⟨_, _, _, _, rfl, S25, els30⟩⟩

@[reducible] def p_impl_set (Ha : GH) (wa : World) (r : (List Int)) : Ending → World → Prop :=
 fun e w' => ∃ H' : GH, ∃ v0 : Value, ∃ n0 : Nat, ∃ c0 : List Value, e = .returned (v0) ∧ St Ha wa H' w' [.row 3 1 v0 n0 c0] ∧ Els (up wa.heap.size H') eI 1 c0 r
theorem w_impl_set {Ha : GH} {wa : World} (hs : Sl Ha wa) (v0 : Value) (a0 : List Int) (p0 : RSl Ha eI 1 v0 a0) (a1 : Int) {r : (List Int)} (hp : (PF.impl_set a0 a1) = some r) :
  Calls Tryz.prog 194 #[v0, Value.int .i64 a1] wa (p_impl_set Ha wa r) := by
 unfold PF.impl_set at hp
 have S0 := St.init hs
 refine calls_go (N := 13) (args := [v0, Value.int .i64 a1]) Tryz.func194 rfl rfl rfl ?_
 refine FW.seq (FW.region ?_)
 refine FL.v (E.assign (v := Value.slice none 0 0) rfl) ?_
 refine FL.nil (FW.seq (FW.region ?_))
 refine FL.v (E.move (v := v0) rfl) ?_
 refine FL.v (E.move (v := Value.int .i64 a1) rfl) ?_
 refine FL.call rfl rfl rfl (E.call Tryz.call214 (A1 rfl)) (w_impl_abs S0.sl a1) ?_
 rintro e w21 ⟨rfl, r22⟩
 refine ⟨_, rfl, ?_⟩
 have S23 := S0.call r22
 obtain ⟨r24, hr25, hp⟩ := bnd hp
 refine FL.call rfl rfl rfl (E.call Tryz.call172 (A2 rfl rfl)) (w_impl_withoutVar S23.sl v0 a0 p0 (PF.impl_abs a1) hr25) ?_
 rintro e w27 ⟨H26, v30, n31, cs32, rfl, r29, els33⟩
 refine ⟨_, rfl, ?_⟩
 have els33 := els33.mono (up_le S23.size)
 have S28 := S23.join (l' := [.row 3 1 v30 n31 cs32]) r29 rfl
 refine FL.v (E.move (v := Value.int .i64 a1) rfl) ?_
 obtain ⟨v34, w35, run36, S37⟩ := S28.buildSlice (P := Tryz.prog) te34 [Value.int .i64 a1] (parts := #[(0, Value.int .i64 a1)]) (cells := [Value.int .i64 a1]) rfl (szs_cons rfl szs_nil) (fc_cons rfl fc_nil) (ones_cons rfl ones_nil) (Nat.le_of_ble_eq_true rfl)
 have els38 : Els (up wa.heap.size H26) eI 1 [Value.int .i64 a1] [a1] := (Els.snoc (H := (up wa.heap.size H26)) (E := eI) (k := 1) (c := [Value.int .i64 a1]) (x := a1) Els.nil rfl rfl)
 refine FL.v (E.buildSlice (B1 rfl) run36) ?_
 obtain ⟨xs39, hz40, hp⟩ := bnd hp
 obtain ⟨v41, w44, n42, cs43, run45, S46, els47, ce48⟩ := S37.appendO (P := Tryz.prog) te34 (i := 1) (j := 0) rfl els33 rfl els38 hz40
 have S46 : St Ha wa H26 w44 [.row 3 1 v34 1 [Value.int .i64 a1], .row 3 1 v41 n42 cs43] := S46
 have S49 : St Ha wa H26 w44 [.row 3 1 v41 n42 cs43] := S46.drop 0
 refine FL.v (E.append rfl rfl run45) ?_
 obtain ⟨H50, S51, i52, h53, nv54⟩ := S49.sealRowU (i := 0) (l' := []) rfl els47 (by decide) rfl
 obtain ⟨r55, hr56, hp⟩ := bnd hp
 refine FL.call rfl rfl rfl (E.call Tryz.call275 (A1 rfl)) (w_impl_mustClause S51.sl v41 xs39 (h53.mono upI) hr56) ?_
 rintro e w58 ⟨H57, v63, n64, cs65, rfl, r60, els66⟩
 refine ⟨_, rfl, ?_⟩
 obtain ⟨H61, r60, hU62⟩ := St.lendX i52 S49.sl r60
 have els66 := els66.mono (hU62.tr (up_le S49.size))
 have S59 := S49.join (l' := [.row 3 1 v63 n64 cs65, .row 3 1 v41 n42 cs43]) r60 rfl
 refine FL.v (E.assign (v := v63) rfl) ?_
 refine FL.nil ?_
 refine FW.ret ?_
 obtain rfl := Option.some.inj hp
 exact ⟨.inr rfl, res1 rfl rfl ⟨_, _, _, _, rfl, (S59.sel [0] (by decide) rfl), els66⟩⟩

@[reducible] def p_impl_propagate (Ha : GH) (wa : World) (r : ((List Int) × (List (Int × Int)) × Bool)) : Ending → World → Prop :=
 fun e w' => ∃ H' : GH, ∃ v0 : Value, ∃ v1 : Value, ∃ n1 : Nat, ∃ c1 : List Value, e = .returned (Value.tuple #[v0, v1, Value.bool r.2.2]) ∧ St Ha wa H' w' [.row 47 2 v1 n1 c1] ∧ RSl (up wa.heap.size H') eI 1 v0 r.1 ∧ Els (up wa.heap.size H') eI2 2 c1 r.2.1
set_option maxHeartbeats 4000000 in
theorem w_impl_propagate {Ha : GH} {wa : World} (hs : Sl Ha wa) (v0 : Value) (a0 : List (List Int)) (p0 : RSl Ha (eL eI 1) 1 v0 a0) (v1 : Value) (a1 : List Int) (p1 : RSl Ha eI 1 v1 a1) {r : ((List Int) × (List (Int × Int)) × Bool)} (hp : (PF.impl_propagate a0 a1) = some r) :
  Calls Tryz.prog 91 #[v0, v1] wa (p_impl_propagate Ha wa r) := by
 unfold PF.impl_propagate at hp
 have S0 := St.init hs
 refine calls_go (N := 41) (args := [v0, v1]) Tryz.func91 rfl rfl rfl ?_
 refine FW.seq (FW.region ?_)
 obtain ⟨b21, w22, run23, S24⟩ := S0.box (P := Tryz.prog) 34 [v1] (v := v1) p1.cells (ones_cons p1.one ones_nil)
 refine FL.v (E.box rfl run23) ?_
 refine FL.v (E.assign (v := Value.slice none 0 0) rfl) ?_
 refine FL.v (E.assign (v := Value.slice none 0 0) rfl) ?_
 refine FL.v (E.assign (v := Value.bool false) rfl) ?_
 refine FL.nil (FW.seq (FW.region ?_))
 refine FL.v (E.load rfl (run_load0 Tryz.isAgg34 (S24.box_now (i := 0) rfl) rfl)) ?_
 obtain ⟨r25, hr26, hp⟩ := bnd hp
 refine FL.call rfl rfl rfl (E.call Tryz.call75 (A1 rfl)) (w_slices_Clone_int_int S24.sl v1 a1 p1 hr26) ?_
 rintro e w28 ⟨H27, v31, n32, cs33, rfl, r30, els34⟩
 refine ⟨_, rfl, ?_⟩
 have els34 := els34.mono (up_le S24.size)
 have S29 := S24.join (l' := [.row 3 1 v31 n32 cs33, .box b21 34 [v1]]) r30 rfl
 obtain ⟨w35, run36, S37⟩ := S29.store0 (P := Tryz.prog) (t := 34) (i := 1) (cs' := [v31]) (l' := [.row 3 1 v31 n32 cs33, .box b21 34 [v31]]) (v := v31) (c := [v31]) rfl Tryz.sizeOf34 (Ln.cells (S29.row_ln (i := 0) rfl)) rfl (ones_cons (Ln.one (S29.row_ln (i := 0) rfl)) ones_nil) (Nat.le_of_ble_eq_true rfl) rfl rfl
 refine FL.act rfl rfl (E.store rfl rfl run36) ?_
 refine FL.nil (FW.seq (FW.region ?_))
 refine FL.v (E.assign (v := Value.slice none 0 0) rfl) ?_
 refine FL.nil ?_
 obtain ⟨H38, S39, i40, h41, nv42⟩ := S37.sealRowU (i := 0) (l' := [.box b21 34 [v31]]) rfl els34 (by decide) rfl
 obtain ⟨q43, hq, hp⟩ := bndR hp
 refine FW.block ?_
 refine FW.mono (FW.iter (S := ((List Int) × (List (Int × Int)))) (X := ((List Int) × (List (Int × Int)) × Bool)) (fun (s43 : ((List Int) × (List (Int × Int)))) f w => ∃ H : GH, ∃ v169 : Value, ∃ v171 : Value, ∃ n172 : Nat, ∃ cs173 : List Value, St Ha wa H w [.box b21 34 [v169], .row 47 2 v171 n172 cs173] ∧ Inc H38 H ∧ RSl (up wa.heap.size H) eI 1 v169 s43.1 ∧ Els (up wa.heap.size H) eI2 2 cs173 s43.2 ∧ f 0 = v0 ∧ f 3 = Value.pointer (some (⟨b21, 0, none⟩ : Addr)) ∧ f 7 = v171) (fun q e f w => match q with | .go s43 => e = Exit.exit 0 ∧ (∃ H : GH, ∃ v169 : Value, ∃ v171 : Value, ∃ n172 : Nat, ∃ cs173 : List Value, St Ha wa H w [.box b21 34 [v169], .row 47 2 v171 n172 cs173] ∧ Inc H38 H ∧ RSl (up wa.heap.size H) eI 1 v169 s43.1 ∧ Els (up wa.heap.size H) eI2 2 cs173 s43.2 ∧ f 4 = Value.slice none 0 0 ∧ f 5 = Value.slice none 0 0 ∧ f 6 = Value.bool false) | .rt x => ((e = Exit.ret) ∧ (fun e f w => (e = Exit.normal ∨ e = Exit.ret) ∧ ∀ a, Fr (δ := []) 41 a f → ∃ v, (results Tryz.f91 a.tmps).run Tryz.prog w = .ok v w ∧ (p_impl_propagate Ha wa x) (.returned v) w) e f w)) hq ⟨_, _, _, _, _, ((S39.nil 47 2).sel [1, 0] (by decide) rfl), (Inc.rfl _), h41, Els.nil, rfl, rfl, rfl⟩ ?_) ?_
 ·
  clear hp hq
  rintro s43 f300 w299 ⟨H296, v169, v171, n172, cs173, S297, i298, h170, els174, k301, k302, k303⟩ o497 hp
  refine FW.block (FW.seq (FW.seq (FW.region ?_)))
  refine FL.v (E.move k301) ?_
  refine FL.v (E.load k302 (run_load0 Tryz.isAgg34 (S297.box_now (i := 0) rfl) rfl)) ?_
  obtain ⟨r304, hr305, hp⟩ := bnd hp
  refine FL.call rfl rfl rfl (E.call Tryz.call190 (A2 rfl rfl)) (w_impl_falseClauses S297.sl v0 a0 (p0.mono ((r30.run.inc.tr i40).tr i298)) v169 s43.1 (h170.mono upI) hr305) ?_
  rintro e w307 ⟨H306, v310, n311, cs312, rfl, r309, els313⟩
  refine ⟨_, rfl, ?_⟩
  have els313 := els313.mono (up_le S297.size)
  have S308 := S297.join (l' := [.row 3 1 v310 n311 cs312, .box b21 34 [v169], .row 47 2 v171 n172 cs173]) r309 rfl
  refine FL.v (E.lenO te34 rfl S308 (i := 0) rfl els313 (by decide)) ?_
  refine FL.v (E.gtr rfl rfl) ?_
  refine FL.nil ?_
  rcases ifB hp with ⟨c314, hp⟩ | ⟨c314, hp⟩
  ·
   refine FW.condT rfl c314 ?_
   refine FW.seq (FW.region ?_)
   refine FL.v (E.load k302 (run_load0 Tryz.isAgg34 (S308.box_now (i := 1) rfl) rfl)) ?_
   refine FL.v (E.move k303) ?_
   refine FL.v (E.assign (v := v169) rfl) ?_
   refine FL.v (E.assign (v := v171) rfl) ?_
   refine FL.v (E.assign (v := Value.bool true) rfl) ?_
   refine FL.nil ?_
   refine FW.ret ?_
   obtain rfl := Option.some.inj hp
   exact ⟨nofun, rfl, ⟨.inr rfl, res3 rfl rfl rfl rfl ⟨_, _, _, _, _, rfl, (S308.sel [2] (by decide) rfl), (h170.mono (up_mono r309.run.inc)), (els174.mono (up_mono r309.run.inc))⟩⟩⟩
  ·
   refine FW.condF rfl c314 ?_
   refine FW.skip (FW.seq (FW.region ?_))
   refine FL.v (E.move k301) ?_
   refine FL.v (E.makeFunc A0 (A1 k302)) ?_
   obtain ⟨s360, hq360, hp⟩ := bnd hp
   obtain ⟨R360, hR360⟩ : ∃ R360 : Int → Ending → World → Prop, R360 = (fun s360 e w => ∃ H : GH, e = Ending.returned (Value.int .i64 s360) ∧ St Ha wa H w [.row 3 1 v310 n311 cs312, .box b21 34 [v169], .row 47 2 v171 n172 cs173] ∧ Inc H306 H) := ⟨_, rfl⟩
   have hc360 : Calls Tryz.prog 191 #[v0, Value.func (.func 192) #[] #[Value.pointer (some (⟨b21, 0, none⟩ : Addr))]] w307 (R360 s360) := by
    clear hp; have hp := hq360; clear hq360
    refine calls_go (N := 19) (args := [v0, Value.func (.func 192) #[] #[Value.pointer (some (⟨b21, 0, none⟩ : Addr))]]) Tryz.func191 rfl rfl rfl ?_
    refine FW.seq (FW.region ?_)
    refine FL.v (E.assign (v := Value.int .i64 0) rfl) ?_
    refine FL.nil (FW.seq (FW.seq (FW.region ?_)))
    refine FL.v (E.move (v := v0) rfl) ?_
    refine FL.v (E.lenP te24 rfl p0) ?_
    refine FL.v (E.move (v := Value.int .i64 0) rfl) ?_
    refine FL.nil ?_
    obtain ⟨q362, hq, hp⟩ := bndR hp
    refine FW.block ?_
    refine FW.mono (FW.forL (S := Unit) (X := Int) (fun (i362 : Nat) (s362 : Unit) f w => ∃ H : GH, St Ha wa H w [.row 3 1 v310 n311 cs312, .box b21 34 [v169], .row 47 2 v171 n172 cs173] ∧ Inc H306 H ∧ f 8 = Value.int .i64 ((i362 : Nat) : Int) ∧ f 0 = v0 ∧ f 1 = Value.func (.func 192) #[] #[Value.pointer (some (⟨b21, 0, none⟩ : Addr))] ∧ f 7 = Value.int .i64 (len a0)) (fun q e f w => match q with | .go s362 => e = Exit.exit 0 ∧ (∃ H : GH, St Ha wa H w [.row 3 1 v310 n311 cs312, .box b21 34 [v169], .row 47 2 v171 n172 cs173] ∧ Inc H306 H) | .rt x => ((e = Exit.ret) ∧ (fun e f w => (e = Exit.normal ∨ e = Exit.ret) ∧ ∀ a, Fr (δ := []) 19 a f → ∃ v, (results Tryz.f191 a.tmps).run Tryz.prog w = .ok v w ∧ R360 x (.returned v) w) e f w)) hq ⟨_, S308, (Inc.rfl _), rfl, rfl, rfl, rfl⟩ ?_ ?_) ?_
    ·
     clear hp hq
     rintro i362 y361 s362 f396 w395 ⟨H392, S393, i394, k397, k398, k399, k400⟩ hx362 o426 hp
     refine FW.seq (FW.region ?_)
     refine FL.v (E.lssT k397 k400 (lss_len hx362)) ?_
     refine FL.nil (FW.seq ?_)
     refine FW.condT rfl rfl ?_
     refine FW.skip (FW.seq (FW.block (FW.seq (FW.region ?_))))
     refine FL.v (E.move k397) ?_
     refine FL.v (E.assign (v := Value.int .i64 ((i362 : Nat) : Int)) rfl) ?_
     refine FL.nil (FW.seq (FW.region ?_))
     refine FL.v (E.move k399) ?_
     refine FL.v (E.move k398) ?_
     refine FL.v (E.move (v := Value.int .i64 ((i362 : Nat) : Int)) rfl) ?_
     obtain ⟨p401, cs402, pt403, l404, at405, rel406⟩ := p0.at (ix_nat hx362)
     obtain ⟨v407, rfl, h408⟩ := eL_open rel406
     refine FL.v (E.indexAddr te24 rfl rfl pt403) ?_
     refine FL.v (E.load rfl (run_load0 Tryz.isAgg34 ((at405.mono ((((r30.run.inc.tr i40).tr i298).tr r309.run.inc).tr i394)).now S393.sl) rfl)) ?_
     obtain ⟨s414, hq414, hp⟩ := bnd hp
     obtain ⟨R414, hR414⟩ : ∃ R414 : Bool → Ending → World → Prop, R414 = (fun s414 e w => ∃ H : GH, e = Ending.returned (Value.bool s414) ∧ St Ha wa H w [.row 3 1 v310 n311 cs312, .box b21 34 [v169], .row 47 2 v171 n172 cs173] ∧ Inc H392 H) := ⟨_, rfl⟩
     have hc414 : Calls Tryz.prog 192 #[v407, Value.pointer (some (⟨b21, 0, none⟩ : Addr))] w395 (R414 s414) := by
      clear hp; have hp := hq414; clear hq414
      refine calls_go (N := 8) (args := [v407, Value.pointer (some (⟨b21, 0, none⟩ : Addr))]) Tryz.func192 rfl rfl rfl ?_
      refine FW.seq (FW.region ?_)
      refine FL.v (E.assign (v := Value.bool false) rfl) ?_
      refine FL.nil (FW.seq (FW.region ?_))
      refine FL.v (E.move (v := v407) rfl) ?_
      refine FL.v (E.load rfl (run_load0 Tryz.isAgg34 (S393.box_now (i := 1) rfl) rfl)) ?_
      obtain ⟨r415, hr416, hp⟩ := bnd hp
      refine FL.call rfl rfl rfl (E.call Tryz.call193 (A2 rfl rfl)) (w_impl_unit S393.sl v407 y361 (h408.mono ((((r30.run.inc.tr i40).tr i298).tr r309.run.inc).tr i394)) v169 s43.1 (h170.mono (upI.tr (r309.run.inc.tr i394))) hr416) ?_
      rintro e w417 ⟨rfl, r418⟩
      refine ⟨_, rfl, ?_⟩
      have S419 := S393.call r418
      refine FL.v (E.neq rfl rfl) ?_
      refine FL.v (E.assign (v := Value.bool (!(r415 == 0))) rfl) ?_
      refine FL.nil ?_
      refine FW.ret ?_
      obtain rfl := Option.some.inj hp
      exact ⟨.inr rfl, res1 rfl rfl (by rw [hR414]; exact ⟨_, rfl, S419, (Inc.rfl _)⟩)⟩
     clear hq414
     refine FL.call rfl rfl rfl (E.callV Tryz.call192 rfl (appA (A1 rfl) #[Value.pointer (some (⟨b21, 0, none⟩ : Addr))])) hc414 ?_
     intro e w423 hQ414
     rw [hR414] at hQ414
     obtain ⟨H420, rfl, S421, i422⟩ := hQ414
     refine ⟨_, rfl, ?_⟩
     refine FL.nil ?_
     rcases ifB hp with ⟨c425, hp⟩ | ⟨c425, hp⟩
     ·
      refine FW.condT rfl c425 ?_
      refine FW.seq (FW.region ?_)
      refine FL.v (E.move (v := Value.int .i64 ((i362 : Nat) : Int)) rfl) ?_
      refine FL.v (E.assign (v := Value.int .i64 ((i362 : Nat) : Int)) rfl) ?_
      refine FL.nil ?_
      refine FW.ret ?_
      obtain rfl := Option.some.inj hp
      exact ⟨nofun, rfl, ⟨.inr rfl, res1 rfl rfl (by rw [hR360]; exact ⟨_, rfl, S421, (i394.tr i422)⟩)⟩⟩
     ·
      refine FW.condF rfl c425 ?_
      refine FW.skip (FW.region ?_)
      refine FL.v (E.add k397 rfl) ?_
      refine FL.v (E.move (v := Value.int .i64 (wr (((i362 : Nat) : Int) + 1))) rfl) ?_
      refine FL.nil ?_
      obtain rfl := Option.some.inj hp
      exact ⟨rfl, ⟨_, S421, (i394.tr i422), (nat_succ rfl (lt_of_get hx362) (p0.mono (((((r30.run.inc.tr i40).tr i298).tr r309.run.inc).tr i394).tr i422)).le), k398, k399, k400⟩⟩
    ·
     clear hp hq
     rintro s362 f436 w435 ⟨H432, S433, i434, k437, k438, k439, k440⟩
     refine FW.seq (FW.region ?_)
     refine FL.v (E.lss k437 k440) ?_
     refine FL.nil (FW.seq ?_)
     refine FW.condF rfl dlt_len ?_
     refine FW.exit ?_
     exact ⟨nofun, rfl, ⟨_, S433, i434⟩⟩
    ·
     clear hq
     intro e f431 w430 hD
     rcases q362 with s362 | x362
     ·
      obtain ⟨rfl, hD⟩ := hD
      obtain ⟨H427, S428, i429⟩ := hD
      replace hp := el_go hp
      refine FW.seq (FW.region ?_)
      refine FL.v (E.assign (v := Value.int .i64 (-1)) rfl) ?_
      refine FL.nil ?_
      refine FW.ret ?_
      obtain rfl := Option.some.inj hp
      exact ⟨.inr rfl, res1 rfl rfl (by rw [hR360]; exact ⟨_, rfl, S428, i429⟩)⟩
     ·
      obtain ⟨he, hL⟩ := hD
      replace hp := el_rt hp
      obtain rfl := Option.some.inj hp
      subst he
      exact hL
   clear hq360
   refine FL.call rfl rfl rfl (E.call Tryz.call191 (A2 rfl rfl)) hc360 ?_
   intro e w444 hQ360
   rw [hR360] at hQ360
   obtain ⟨H441, rfl, S442, i443⟩ := hQ360
   refine ⟨_, rfl, ?_⟩
   refine FL.v (E.assign (v := Value.int .i64 s360) rfl) ?_
   refine FL.nil (FW.seq (FW.seq (FW.region ?_)))
   refine FL.v (E.move (v := Value.int .i64 s360) rfl) ?_
   refine FL.v (E.lss rfl rfl) ?_
   refine FL.nil ?_
   rcases ifB hp with ⟨c446, hp⟩ | ⟨c446, hp⟩
   ·
    refine FW.condT rfl c446 ?_
    refine FW.seq (FW.region ?_)
    refine FL.v (E.load k302 (run_load0 Tryz.isAgg34 (S442.box_now (i := 1) rfl) rfl)) ?_
    refine FL.v (E.move k303) ?_
    refine FL.v (E.assign (v := v169) rfl) ?_
    refine FL.v (E.assign (v := v171) rfl) ?_
    refine FL.v (E.assign (v := Value.bool false) rfl) ?_
    refine FL.nil ?_
    refine FW.ret ?_
    obtain rfl := Option.some.inj hp
    exact ⟨nofun, rfl, ⟨.inr rfl, res3 rfl rfl rfl rfl ⟨_, _, _, _, _, rfl, (S442.sel [2] (by decide) rfl), (h170.mono (up_mono (r309.run.inc.tr i443))), (els174.mono (up_mono (r309.run.inc.tr i443)))⟩⟩⟩
   ·
    refine FW.condF rfl c446 ?_
    refine FW.skip (FW.seq ?_)
    refine FW.draw (fun w' => Run w444.heap.size H441 w444 H441 w') (by kernel_rfl) (by kernel_rfl) (run_drew S442.sl) ?_
    refine FD.val rfl rfl rfl (fun w' hw' => (E.move k301)) ?_
    refine FD.val rfl rfl rfl (fun w' hw' => (E.move (v := Value.int .i64 s360) rfl)) ?_
    obtain ⟨x454, hx455, hp⟩ := bnd hp
    obtain ⟨p448, cs449, pt450, l451, at452, rel453⟩ := p0.at hx455
    obtain ⟨v456, rfl, h457⟩ := eL_open rel453
    refine FD.val rfl rfl rfl (fun w' hw' => (E.indexAddr te24 rfl rfl pt450)) ?_
    refine FD.val rfl rfl rfl (fun w' hw' => (E.load rfl (run_load0 Tryz.isAgg34 ((at452.mono ((((r30.run.inc.tr i40).tr i298).tr r309.run.inc).tr i443)).now (S442.call hw').sl) rfl))) ?_
    refine FD.val rfl rfl rfl (fun w' hw' => (E.load k302 (run_load0 Tryz.isAgg34 ((S442.call hw').box_now (i := 1) rfl) rfl))) ?_
    obtain ⟨r458, hr459, hp⟩ := bnd hp
    refine FD.call rfl rfl rfl (fun w' hw' => (E.call Tryz.call193 (A2 rfl rfl))) (fun w' hw' => Calls.cls hw' (w_impl_unit (S442.call hw').sl v456 x454 (h457.mono ((((r30.run.inc.tr i40).tr i298).tr r309.run.inc).tr i443)) v169 s43.1 (h170.mono (upI.tr (r309.run.inc.tr i443))) hr459)) ?_
    refine FD.val rfl rfl rfl (fun w' hw' => (E.assign (v := Value.int .i64 r458) rfl)) ?_
    refine FD.nil ?_
    intro w460 r462
    have S461 := S442.call r462
    refine FW.seq (FW.region ?_)
    refine FL.v (E.load k302 (run_load0 Tryz.isAgg34 (S461.box_now (i := 1) rfl) rfl)) ?_
    refine FL.v (E.move (v := Value.int .i64 r458) rfl) ?_
    obtain ⟨r463, hr464, hp⟩ := bnd hp
    refine FL.call rfl rfl rfl (E.call Tryz.call194 (A2 rfl rfl)) (w_impl_set S461.sl v169 s43.1 (h170.mono (upI.tr (r309.run.inc.tr i443))) r458 hr464) ?_
    rintro e w466 ⟨H465, v469, n470, cs471, rfl, r468, els472⟩
    refine ⟨_, rfl, ?_⟩
    have els472 := els472.mono (up_le S461.size)
    have S467 := S461.join (l' := [.row 3 1 v469 n470 cs471, .row 3 1 v310 n311 cs312, .box b21 34 [v169], .row 47 2 v171 n172 cs173]) r468 rfl
    obtain ⟨w473, run474, S475⟩ := S467.store0 (P := Tryz.prog) (t := 34) (i := 2) (cs' := [v469]) (l' := [.row 3 1 v469 n470 cs471, .row 3 1 v310 n311 cs312, .box b21 34 [v469], .row 47 2 v171 n172 cs173]) (v := v469) (c := [v469]) rfl Tryz.sizeOf34 (Ln.cells (S467.row_ln (i := 0) rfl)) rfl (ones_cons (Ln.one (S467.row_ln (i := 0) rfl)) ones_nil) (Nat.le_of_ble_eq_true rfl) rfl rfl
    refine FL.act rfl rfl (E.store k302 rfl run474) ?_
    refine FL.nil (FW.region ?_)
    refine FL.v (E.move k303) ?_
    refine FL.v (E.move (v := Value.int .i64 r458) rfl) ?_
    refine FL.v (E.move (v := Value.int .i64 s360) rfl) ?_
    refine FL.v (E.build (B2 rfl rfl) (run_build _ 47 #[(0, Value.int .i64 r458), (1, Value.int .i64 s360)] #[Value.int .i64 r458, Value.int .i64 s360] (by rfl))) ?_
    obtain ⟨v476, w477, run478, S479⟩ := S475.buildSlice (P := Tryz.prog) te44 [Value.agg #[Value.int .i64 r458, Value.int .i64 s360]] (parts := #[(0, Value.agg #[Value.int .i64 r458, Value.int .i64 s360])]) (cells := [Value.int .i64 r458, Value.int .i64 s360]) rfl (szs_cons rfl szs_nil) (fc_cons rfl fc_nil) (ones_cons rfl (ones_cons rfl ones_nil)) (Nat.le_of_ble_eq_true rfl)
    have els480 : Els (up wa.heap.size H465) eI2 2 [Value.int .i64 r458, Value.int .i64 s360] [(r458, s360)] := (Els.snoc (H := (up wa.heap.size H465)) (E := eI2) (k := 2) (c := [Value.int .i64 r458, Value.int .i64 s360]) (x := (r458, s360)) Els.nil rfl rfl)
    refine FL.v (E.buildSlice (B1 rfl) run478) ?_
    obtain ⟨xs481, hz482, hp⟩ := bnd hp
    obtain ⟨v483, w486, n484, cs485, run487, S488, els489, ce490⟩ := S479.appendO (P := Tryz.prog) te44 (i := 4) (j := 0) rfl (els174.mono (up_mono ((r309.run.inc.tr i443).tr r468.run.inc))) rfl els480 hz482
    have S488 : St Ha wa H465 w486 [.row 47 2 v476 1 [Value.int .i64 r458, Value.int .i64 s360], .row 3 1 v469 n470 cs471, .row 3 1 v310 n311 cs312, .box b21 34 [v469], .row 47 2 v483 n484 cs485] := S488
    have S491 : St Ha wa H465 w486 [.row 3 1 v469 n470 cs471, .row 3 1 v310 n311 cs312, .box b21 34 [v469], .row 47 2 v483 n484 cs485] := S488.drop 0
    refine FL.v (E.append rfl rfl run487) ?_
    refine FL.v (E.assign (v := v483) rfl) ?_
    refine FL.nil ?_
    obtain ⟨H492, S493, i494, h495, nv496⟩ := S491.sealRowU (i := 0) (l' := [.row 3 1 v310 n311 cs312, .box b21 34 [v469], .row 47 2 v483 n484 cs485]) rfl els472 (by decide) rfl
    obtain rfl := Option.some.inj hp
    exact ⟨rfl, ⟨_, _, _, _, _, (S493.sel [1, 2] (by decide) rfl), ((((i298.tr r309.run.inc).tr i443).tr r468.run.inc).tr i494), h495, (els489.mono (up_mono i494)), k301, k302, rfl⟩⟩
 ·
  clear hq
  intro e f502 w501 hD
  rcases q43 with s43 | x43
  ·
   obtain ⟨rfl, hD⟩ := hD
   obtain ⟨H498, v169, v171, n172, cs173, S499, i500, h170, els174, k503, k504, k505⟩ := hD
   replace hp := el_go hp
   obtain rfl := Option.some.inj hp
   exact ⟨.inl rfl, res3 rfl k503 k504 k505 ⟨_, _, _, _, _, rfl, ((S499.nil 47 2).sel [0] (by decide) rfl), (RSl.nil _ _ _), Els.nil⟩⟩
  ·
   obtain ⟨he, hL⟩ := hD
   replace hp := el_rt hp
   obtain rfl := Option.some.inj hp
   subst he
   exact hL

@[reducible] def p_impl_Propagate (Ha : GH) (wa : World) (r : ((List Int) × Bool × Bool)) : Ending → World → Prop :=
 fun e w' => ∃ H' : GH, ∃ v0 : Value, e = .returned (Value.tuple #[v0, Value.bool r.2.1, Value.bool r.2.2]) ∧ Run wa.heap.size Ha wa H' w' ∧ RSl (up wa.heap.size H') eI 1 v0 r.1
theorem w_impl_Propagate {Ha : GH} {wa : World} (hs : Sl Ha wa) (a0 : Cnf) (v0_1 : Value) (p0_1 : RSl Ha (eL eI 1) 1 v0_1 a0.clauses) (v1 : Value) (a1 : List Int) (p1 : RSl Ha eI 1 v1 a1) {r : ((List Int) × Bool × Bool)} (hp : (PF.impl_Propagate a0 a1) = some r) :
  Calls Tryz.prog 16 #[Value.agg #[Value.int .i64 a0.vars, v0_1], v1] wa (p_impl_Propagate Ha wa r) := by
 unfold PF.impl_Propagate at hp
 have S0 := St.init hs
 refine calls_go (N := 30) (args := [Value.agg #[Value.int .i64 a0.vars, v0_1], v1]) Tryz.func16 rfl rfl rfl ?_
 refine FW.seq (FW.region ?_)
 obtain ⟨b21, w22, run23, S24⟩ := S0.box (P := Tryz.prog) 26 [Value.int .i64 a0.vars, v0_1] (v := Value.agg #[Value.int .i64 a0.vars, v0_1]) rfl (ones_cons rfl (ones_cons p0_1.one ones_nil))
 refine FL.v (E.box rfl run23) ?_
 obtain ⟨H25, S26, i27, at28⟩ := S24.sealBox (i := 0) (l' := []) rfl rfl
 refine FL.v (E.assign (v := Value.slice none 0 0) rfl) ?_
 refine FL.v (E.assign (v := Value.bool false) rfl) ?_
 refine FL.v (E.assign (v := Value.bool false) rfl) ?_
 refine FL.nil (FW.seq (FW.seq (FW.region ?_)))
 refine FL.v (E.load rfl (run_loadA Tryz.isAgg26 Tryz.sizeOf26 (at28.now S26.sl) rfl)) ?_
 obtain ⟨r29, hr30, hp⟩ := bnd hp
 refine FL.call rfl rfl rfl (E.call Tryz.call72 (A1 rfl)) (w_impl_IsCnf S26.sl a0 v0_1 (p0_1.mono i27) hr30) ?_
 rintro e w31 ⟨rfl, r32⟩
 refine ⟨_, rfl, ?_⟩
 have S33 := S26.call r32
 refine FL.v (E.not rfl) ?_
 refine FL.v (E.move (v := Value.bool (!r29)) rfl) ?_
 obtain ⟨t39, hqt39, hp⟩ := bnd hp
 refine FL.cut 6 (fun f w => ∃ H : GH, St Ha wa H w [] ∧ Inc H25 H ∧ f 1 = v1 ∧ f 2 = Value.pointer (some ⟨b21, 0, none⟩) ∧ f 19 = Value.bool t39) ?_ ?_
 ·
  clear hp; have hp := hqt39; clear hqt39
  rcases ifB hp with ⟨c45, hp⟩ | ⟨c45, hp⟩
  ·
   refine FL.skip (wF_no rfl rfl rfl c45) rfl ?_
   refine FL.skip (wF_no rfl rfl rfl c45) rfl ?_
   refine FL.skip (wF_no rfl rfl rfl c45) rfl ?_
   refine FL.skip (wF_no rfl rfl rfl c45) rfl ?_
   refine FL.skip (wF_no rfl rfl rfl c45) rfl ?_
   obtain rfl := Option.some.inj hp
   refine FL.v (E.pickT rfl c45 rfl) ?_
   exact FL.nil ⟨rfl, _, S33, (Inc.rfl _), rfl, rfl, rfl⟩
  ·
   refine FL.val (wF_yes rfl rfl rfl c45) rfl rfl (E.fieldAddr tf26_0 rfl) ?_
   refine FL.val (wF_yes rfl rfl rfl c45) rfl rfl (E.load rfl (run_load1 Tryz.isAgg3 (at28.now S33.sl) rfl)) ?_
   refine FL.val (wF_yes rfl rfl rfl c45) rfl rfl (E.move (v := v1) rfl) ?_
   obtain ⟨r46, hr47, hp⟩ := bnd hp
   refine FL.call (wF_yes rfl rfl rfl c45) rfl rfl (E.call Tryz.call90 (A2 rfl rfl)) (w_impl_IsAssignment S33.sl a0.vars v1 a1 (p1.mono i27) hr47) ?_
   rintro e w48 ⟨rfl, r49⟩
   refine ⟨_, rfl, ?_⟩
   have S50 := S33.call r49
   refine FL.val (wF_yes rfl rfl rfl c45) rfl rfl (E.not rfl) ?_
   obtain rfl := Option.some.inj hp
   refine FL.v (E.pickF rfl c45 rfl) ?_
   exact FL.nil ⟨rfl, _, S50, (Inc.rfl _), rfl, rfl, rfl⟩
 rintro f44 w43 ⟨H40, S41, i42, k51, k52, k53⟩
 refine FL.nil ?_
 rcases ifB hp with ⟨c54, hp⟩ | ⟨c54, hp⟩
 ·
  refine FW.condT k53 c54 ?_
  refine FW.seq (FW.region ?_)
  refine FL.v (E.assign (v := Value.slice none 0 0) rfl) ?_
  refine FL.v (E.assign (v := Value.bool false) rfl) ?_
  refine FL.v (E.assign (v := Value.bool false) rfl) ?_
  refine FL.nil ?_
  refine FW.ret ?_
  obtain rfl := Option.some.inj hp
  exact ⟨.inr rfl, res3 rfl rfl rfl rfl ⟨_, _, rfl, S41.run, (RSl.nil _ _ _)⟩⟩
 ·
  refine FW.condF k53 c54 ?_
  refine FW.skip (FW.seq (FW.region ?_))
  refine FL.v (E.fieldAddr tf26_1 k52) ?_
  refine FL.v (E.load rfl (run_load1 Tryz.isAgg24 ((at28.mono i42).now S41.sl) rfl)) ?_
  refine FL.v (E.move k51) ?_
  obtain ⟨r55, hr56, hp⟩ := bnd hp
  refine FL.call rfl rfl rfl (E.call Tryz.call91 (A2 rfl rfl)) (w_impl_propagate S41.sl v0_1 a0.clauses (p0_1.mono (i27.tr i42)) v1 a1 (p1.mono (i27.tr i42)) hr56) ?_
  rintro e w58 ⟨H57, v61, v64, n65, cs66, rfl, r60, h62, els67⟩
  refine ⟨_, rfl, ?_⟩
  have nv63 : New H40 [v61] := New.of_up S41.sl h62.dom
  have h62 := h62.mono (up_le S41.size)
  have els67 := els67.mono (up_le S41.size)
  have S59 := S41.join (l' := [.row 47 2 v64 n65 cs66]) r60 rfl
  refine FL.v (E.move (v := Value.tuple #[v61, v64, Value.bool r55.2.2]) rfl) ?_
  refine FL.v (E.extract (i := 0) rfl rfl) ?_
  refine FL.v (E.extract (i := 1) rfl rfl) ?_
  refine FL.v (E.extract (i := 2) rfl rfl) ?_
  refine FL.v (E.assign (v := v61) rfl) ?_
  refine FL.v (E.assign (v := v64) rfl) ?_
  refine FL.v (E.assign (v := Value.bool r55.2.2) rfl) ?_
  refine FL.nil (FW.seq (FW.region ?_))
  refine FL.v (E.move (v := v61) rfl) ?_
  refine FL.v (E.move (v := Value.bool r55.2.2) rfl) ?_
  refine FL.v (E.assign (v := v61) rfl) ?_
  refine FL.v (E.assign (v := Value.bool r55.2.2) rfl) ?_
  refine FL.v (E.assign (v := Value.bool true) rfl) ?_
  refine FL.nil ?_
  refine FW.ret ?_
  obtain rfl := Option.some.inj hp
  exact ⟨.inr rfl, res3 rfl rfl rfl rfl ⟨_, _, rfl, S59.run, h62⟩⟩

theorem w_spec_l3Good {Ha : GH} {wa : World} (hs : Sl Ha wa) (a0 : Int) (v1 : Value) (a1 : List Int) (p1 : RSl Ha eI 1 v1 a1) {r : Bool} (hp : (PF.spec_l3Good a0 a1) = some r) :
  Calls Tryz.prog 195 #[Value.int .i64 a0, v1] wa (Sc Ha wa (Value.bool r)) := by
 unfold PF.spec_l3Good at hp
 have S0 := St.init hs
 refine calls_go (N := 8) (args := [Value.int .i64 a0, v1]) Tryz.func195 rfl rfl rfl ?_
 refine FW.seq (FW.region ?_)
 refine FL.v (E.assign (v := Value.bool false) rfl) ?_
 refine FL.nil (FW.seq (FW.region ?_))
 refine FL.v (E.move (v := Value.int .i64 a0) rfl) ?_
 refine FL.v (E.move (v := v1) rfl) ?_
 obtain ⟨r21, hr22, hp⟩ := bnd hp
 refine FL.call rfl rfl rfl (E.call Tryz.call180 (A2 rfl rfl)) (w_spec_l2Clause S0.sl a0 v1 a1 p1 hr22) ?_
 rintro e w23 ⟨rfl, r24⟩
 refine ⟨_, rfl, ?_⟩
 have S25 := S0.call r24
 refine FL.v (E.assign (v := Value.bool r21) rfl) ?_
 refine FL.nil ?_
 refine FW.ret ?_
 obtain rfl := Option.some.inj hp
 exact ⟨.inr rfl, res1 rfl rfl ⟨rfl, S25.back⟩⟩

theorem w_spec_l3Asked {Ha : GH} {wa : World} (hs : Sl Ha wa) (a0 : Cnf) (v0_1 : Value) (p0_1 : RSl Ha (eL eI 1) 1 v0_1 a0.clauses) (v1 : Value) (a1 : List Int) (p1 : RSl Ha eI 1 v1 a1) {r : Bool} (hp : (PF.spec_l3Asked a0 a1) = some r) :
  Calls Tryz.prog 92 #[Value.agg #[Value.int .i64 a0.vars, v0_1], v1] wa (Sc Ha wa (Value.bool r)) := by
 unfold PF.spec_l3Asked at hp
 have S0 := St.init hs
 refine calls_go (N := 13) (args := [Value.agg #[Value.int .i64 a0.vars, v0_1], v1]) Tryz.func92 rfl rfl rfl ?_
 refine FW.seq (FW.region ?_)
 obtain ⟨b21, w22, run23, S24⟩ := S0.box (P := Tryz.prog) 26 [Value.int .i64 a0.vars, v0_1] (v := Value.agg #[Value.int .i64 a0.vars, v0_1]) rfl (ones_cons rfl (ones_cons p0_1.one ones_nil))
 refine FL.v (E.box rfl run23) ?_
 obtain ⟨H25, S26, i27, at28⟩ := S24.sealBox (i := 0) (l' := []) rfl rfl
 refine FL.v (E.assign (v := Value.bool false) rfl) ?_
 refine FL.nil (FW.seq (FW.region ?_))
 refine FL.v (E.load rfl (run_loadA Tryz.isAgg26 Tryz.sizeOf26 (at28.now S26.sl) rfl)) ?_
 obtain ⟨r29, hr30, hp⟩ := bnd hp
 refine FL.call rfl rfl rfl (E.call Tryz.call81 (A1 rfl)) (w_spec_l2Good S26.sl a0 v0_1 (p0_1.mono i27) hr30) ?_
 rintro e w31 ⟨rfl, r32⟩
 refine ⟨_, rfl, ?_⟩
 have S33 := S26.call r32
 refine FL.v (E.move (v := Value.bool r29) rfl) ?_
 obtain ⟨t39, hqt39, hp⟩ := bnd hp
 refine FL.cut 5 (fun f w => ∃ H : GH, St Ha wa H w [] ∧ Inc H25 H ∧ f 12 = Value.bool t39) ?_ ?_
 ·
  clear hp; have hp := hqt39; clear hqt39
  rcases ifB hp with ⟨c45, hp⟩ | ⟨c45, hp⟩
  ·
   refine FL.val (wF_yes rfl rfl rfl c45) rfl rfl (E.fieldAddr tf26_0 rfl) ?_
   refine FL.val (wF_yes rfl rfl rfl c45) rfl rfl (E.load rfl (run_load1 Tryz.isAgg3 (at28.now S33.sl) rfl)) ?_
   refine FL.val (wF_yes rfl rfl rfl c45) rfl rfl (E.move (v := v1) rfl) ?_
   obtain ⟨r46, hr47, hp⟩ := bnd hp
   refine FL.call (wF_yes rfl rfl rfl c45) rfl rfl (E.call Tryz.call195 (A2 rfl rfl)) (w_spec_l3Good S33.sl a0.vars v1 a1 (p1.mono i27) hr47) ?_
   rintro e w48 ⟨rfl, r49⟩
   refine ⟨_, rfl, ?_⟩
   have S50 := S33.call r49
   obtain rfl := Option.some.inj hp
   refine FL.v (E.pickT rfl c45 rfl) ?_
   exact FL.nil ⟨rfl, _, S50, (Inc.rfl _), rfl⟩
  ·
   refine FL.skip (wF_no rfl rfl rfl c45) rfl ?_
   refine FL.skip (wF_no rfl rfl rfl c45) rfl ?_
   refine FL.skip (wF_no rfl rfl rfl c45) rfl ?_
   refine FL.skip (wF_no rfl rfl rfl c45) rfl ?_
   obtain rfl := Option.some.inj hp
   refine FL.v (E.pickF rfl c45 rfl) ?_
   exact FL.nil ⟨rfl, _, S33, (Inc.rfl _), rfl⟩
 rintro f44 w43 ⟨H40, S41, i42, k51⟩
 refine FL.v (E.assign k51) ?_
 refine FL.nil ?_
 refine FW.ret ?_
 obtain rfl := Option.some.inj hp
 exact ⟨.inr rfl, res1 rfl rfl ⟨rfl, S41.back⟩⟩

theorem w_spec_l3Value {Ha : GH} {wa : World} (hs : Sl Ha wa) (v0 : Value) (a0 : List Int) (p0 : RSl Ha eI 1 v0 a0) (v1 : Value) (a1 : List Int) (p1 : RSl Ha eI 1 v1 a1) {r : Int} (hp : (PF.spec_l3Value a0 a1) = some r) :
  Calls Tryz.prog 105 #[v0, v1] wa (Sc Ha wa (Value.int .i64 r)) := by
 unfold PF.spec_l3Value at hp
 have S0 := St.init hs
 refine calls_go (N := 28) (args := [v0, v1]) Tryz.func105 rfl rfl rfl ?_
 refine FW.seq (FW.region ?_)
 refine FL.v (E.assign (v := Value.int .i64 0) rfl) ?_
 refine FL.nil (FW.seq (FW.region ?_))
 refine FL.v (E.assign (v := Value.int .i64 (-1)) rfl) ?_
 refine FL.nil (FW.seq (FW.seq (FW.region ?_)))
 refine FL.v (E.assign (v := Value.int .i64 0) rfl) ?_
 refine FL.nil ?_
 obtain ⟨q22, hq, hp⟩ := bndR hp
 refine FW.block ?_
 refine FW.mono (FW.forL (S := Int) (X := Int) (fun (i22 : Nat) (s22 : Int) f w => ∃ H : GH, St Ha wa H w [] ∧ Inc Ha H ∧ f 6 = Value.int .i64 ((i22 : Nat) : Int) ∧ f 0 = v0 ∧ f 1 = v1 ∧ f 5 = Value.int .i64 s22) (fun q e f w => match q with | .go s22 => e = Exit.exit 0 ∧ (∃ H : GH, St Ha wa H w [] ∧ Inc Ha H ∧ f 5 = Value.int .i64 s22) | .rt x => ((e = Exit.ret) ∧ (fun e f w => (e = Exit.normal ∨ e = Exit.ret) ∧ ∀ a, Fr (δ := []) 28 a f → ∃ v, (results Tryz.f105 a.tmps).run Tryz.prog w = .ok v w ∧ (Sc Ha wa (Value.int .i64 x)) (.returned v) w) e f w)) hq ⟨_, S0, (Inc.rfl _), rfl, rfl, rfl, rfl⟩ ?_ ?_) ?_
 ·
  clear hp hq
  rintro i22 y21 s22 f60 w59 ⟨H56, S57, i58, k61, k62, k63, k64⟩ hx22 o89 hp
  refine FW.seq (FW.seq (FW.region ?_))
  refine FL.v (E.move k61) ?_
  refine FL.v (E.move k62) ?_
  refine FL.v (E.lenP te34 rfl p0) ?_
  refine FL.v (E.lssT rfl rfl (lss_len hx22)) ?_
  refine FL.nil ?_
  refine FW.condT rfl rfl ?_
  refine FW.skip (FW.seq (FW.block (FW.seq (FW.seq (FW.region ?_)))))
  refine FL.v (E.move k63) ?_
  refine FL.v (E.move k62) ?_
  refine FL.v (E.move k61) ?_
  obtain ⟨p65, cs66, pt67, l68, at69, rel70⟩ := p0.at (ix_nat hx22)
  obtain rfl := eI_open rel70
  refine FL.v (E.indexAddr te34 rfl rfl pt67) ?_
  refine FL.v (E.load rfl (run_load0 Tryz.isAgg3 ((at69.mono i58).now S57.sl) rfl)) ?_
  obtain ⟨r71, hr72, hp⟩ := bnd hp
  refine FL.call rfl rfl rfl (E.call Tryz.call83 (A2 rfl rfl)) (w_spec_l2Has S57.sl v1 a1 (p1.mono i58) y21 hr72) ?_
  rintro e w73 ⟨rfl, r74⟩
  refine ⟨_, rfl, ?_⟩
  have S75 := S57.call r74
  refine FL.nil ?_
  rcases ifB hp with ⟨c76, hp⟩ | ⟨c76, hp⟩
  ·
   refine FW.condT rfl c76 ?_
   refine FW.seq (FW.region ?_)
   refine FL.v (E.assign (v := Value.int .i64 1) rfl) ?_
   refine FL.nil ?_
   refine FW.ret ?_
   obtain rfl := Option.some.inj hp
   exact ⟨nofun, rfl, ⟨.inr rfl, res1 rfl rfl ⟨rfl, S75.back⟩⟩⟩
  ·
   refine FW.condF rfl c76 ?_
   refine FW.skip (FW.seq (FW.region ?_))
   refine FL.v (E.move k63) ?_
   refine FL.v (E.move k62) ?_
   refine FL.v (E.move k61) ?_
   obtain ⟨p77, cs78, pt79, l80, at81, rel82⟩ := p0.at (ix_nat hx22)
   obtain rfl := eI_open rel82
   refine FL.v (E.indexAddr te34 rfl rfl pt79) ?_
   refine FL.v (E.load rfl (run_load0 Tryz.isAgg3 ((at81.mono i58).now S75.sl) rfl)) ?_
   refine FL.v (E.neg rfl) ?_
   obtain ⟨r83, hr84, hp⟩ := bnd hp
   refine FL.call rfl rfl rfl (E.call Tryz.call83 (A2 rfl rfl)) (w_spec_l2Has S75.sl v1 a1 (p1.mono i58) (wr (-y21)) hr84) ?_
   rintro e w85 ⟨rfl, r86⟩
   refine ⟨_, rfl, ?_⟩
   have S87 := S75.call r86
   refine FL.v (E.not rfl) ?_
   refine FL.nil ?_
   rcases ifB hp with ⟨c88, hp⟩ | ⟨c88, hp⟩
   ·
    refine FW.condT rfl c88 ?_
    refine FW.region ?_
    refine FL.v (E.assign (v := Value.int .i64 0) rfl) ?_
    refine FL.nil (FW.region ?_)
    refine FL.v (E.move k61) ?_
    refine FL.v (E.add rfl rfl) ?_
    refine FL.v (E.assign (v := Value.int .i64 (wr (((i22 : Nat) : Int) + 1))) rfl) ?_
    refine FL.nil ?_
    obtain rfl := Option.some.inj hp
    exact ⟨rfl, ⟨_, S87, i58, (nat_succ rfl (lt_of_get hx22) (p0.mono i58).le), k62, k63, rfl⟩⟩
   ·
    refine FW.condF rfl c88 ?_
    refine FW.skip (FW.region ?_)
    refine FL.v (E.move k61) ?_
    refine FL.v (E.add rfl rfl) ?_
    refine FL.v (E.assign (v := Value.int .i64 (wr (((i22 : Nat) : Int) + 1))) rfl) ?_
    refine FL.nil ?_
    obtain rfl := Option.some.inj hp
    exact ⟨rfl, ⟨_, S87, i58, (nat_succ rfl (lt_of_get hx22) (p0.mono i58).le), k62, k63, k64⟩⟩
 ·
  clear hp hq
  rintro s22 f100 w99 ⟨H96, S97, i98, k101, k102, k103, k104⟩
  refine FW.seq (FW.seq (FW.region ?_))
  refine FL.v (E.move k101) ?_
  refine FL.v (E.move k102) ?_
  refine FL.v (E.lenP te34 rfl p0) ?_
  refine FL.v (E.lss rfl rfl) ?_
  refine FL.nil ?_
  refine FW.condF rfl dlt_len ?_
  refine FW.exit ?_
  exact ⟨nofun, rfl, ⟨_, S97, i98, k104⟩⟩
 ·
  clear hq
  intro e f94 w93 hD
  rcases q22 with s22 | x22
  ·
   obtain ⟨rfl, hD⟩ := hD
   obtain ⟨H90, S91, i92, k95⟩ := hD
   replace hp := el_go hp
   refine FW.seq (FW.region ?_)
   refine FL.v (E.move k95) ?_
   refine FL.v (E.assign (v := Value.int .i64 s22) rfl) ?_
   refine FL.nil ?_
   refine FW.ret ?_
   obtain rfl := Option.some.inj hp
   exact ⟨.inr rfl, res1 rfl rfl ⟨rfl, S91.back⟩⟩
  ·
   obtain ⟨he, hL⟩ := hD
   replace hp := el_rt hp
   obtain rfl := Option.some.inj hp
   subst he
   exact hL

theorem w_spec_l3CnfValue {Ha : GH} {wa : World} (hs : Sl Ha wa) (a0 : Cnf) (v0_1 : Value) (p0_1 : RSl Ha (eL eI 1) 1 v0_1 a0.clauses) (v1 : Value) (a1 : List Int) (p1 : RSl Ha eI 1 v1 a1) {r : Int} (hp : (PF.spec_l3CnfValue a0 a1) = some r) :
    Calls Tryz.prog 197 #[Value.agg #[Value.int .i64 a0.vars, v0_1], v1] wa (Sc Ha wa (Value.int .i64 r)) := by
  unfold PF.spec_l3CnfValue at hp
  have S0 := St.init hs
  refine calls_go (N := 24) (args := [Value.agg #[Value.int .i64 a0.vars, v0_1], v1]) Tryz.func197 rfl rfl rfl ?_
  refine FW.seq (FW.region ?_)
  obtain ⟨b21, w22, run23, S24⟩ := S0.box (P := Tryz.prog) 26 [Value.int .i64 a0.vars, v0_1] (v := Value.agg #[Value.int .i64 a0.vars, v0_1]) rfl (ones_cons rfl (ones_cons p0_1.one ones_nil))
  refine FL.v (E.box rfl run23) ?_
  obtain ⟨H25, S26, i27, at28⟩ := S24.sealBox (i := 0) (l' := []) rfl rfl
  refine FL.v (E.assign (v := Value.int .i64 0) rfl) ?_
  refine FL.nil (FW.seq (FW.region ?_))
  refine FL.v (E.assign (v := Value.int .i64 1) rfl) ?_
  refine FL.nil (FW.seq (FW.seq (FW.region ?_)))
  refine FL.v (E.assign (v := Value.int .i64 0) rfl) ?_
  refine FL.nil ?_
  obtain ⟨q29, hq, hp⟩ := bndR hp
  refine FW.block ?_
  refine FW.mono (FW.iter (S := (Int × Int)) (X := Empty) (fun (s29 : (Int × Int)) f w => ∃ H : GH, St Ha wa H w [] ∧ Inc H25 H ∧ f 1 = v1 ∧ f 2 = Value.pointer (some ⟨b21, 0, none⟩) ∧ f 5 = Value.int .i64 s29.1 ∧ f 6 = Value.int .i64 s29.2) (fun (q : Rs (Int × Int) Empty) e f w => match q with | .go s29 => e = Exit.exit 0 ∧ (∃ H : GH, St Ha wa H w [] ∧ Inc H25 H ∧ f 5 = Value.int .i64 s29.1) | .rt x => x.elim) hq ⟨_, S26, (Inc.rfl _), rfl, rfl, rfl, rfl⟩ ?_) ?_
  ·
    clear hp hq
    rintro s29 f62 w61 ⟨H58, S59, i60, k63, k64, k65, k66⟩ o86 hp
    refine FW.seq (FW.seq (FW.region ?_))
    refine FL.v (E.move k66) ?_
    refine FL.v (E.fieldAddr tf26_1 k64) ?_
    refine FL.v (E.load rfl (run_load1 Tryz.isAgg24 ((at28.mono i60).now S59.sl) rfl)) ?_
    refine FL.v (E.lenP te24 rfl p0_1) ?_
    refine FL.v (E.lss rfl rfl) ?_
    refine FL.nil ?_
    rcases ifB hp with ⟨c67, hp⟩ | ⟨c67, hp⟩
    ·
      refine FW.condT rfl c67 ?_
      refine FW.skip (FW.seq (FW.block (FW.region ?_)))
      refine FL.v (E.move k65) ?_
      refine FL.v (E.fieldAddr tf26_1 k64) ?_
      refine FL.v (E.load rfl (run_load1 Tryz.isAgg24 ((at28.mono i60).now S59.sl) rfl)) ?_
      refine FL.v (E.move k66) ?_
      obtain ⟨x74, hx75, hp⟩ := bnd hp
      obtain ⟨p68, cs69, pt70, l71, at72, rel73⟩ := p0_1.at hx75
      obtain ⟨v76, rfl, h77⟩ := eL_open rel73
      refine FL.v (E.indexAddr te24 rfl rfl pt70) ?_
      refine FL.v (E.load rfl (run_load0 Tryz.isAgg34 ((at72.mono (i27.tr i60)).now S59.sl) rfl)) ?_
      refine FL.v (E.move k63) ?_
      obtain ⟨r78, hr79, hp⟩ := bnd hp
      refine FL.call rfl rfl rfl (E.call Tryz.call105 (A2 rfl rfl)) (w_spec_l3Value S59.sl v76 x74 (h77.mono (i27.tr i60)) v1 a1 (p1.mono (i27.tr i60)) hr79) ?_
      rintro e w80 ⟨rfl, r81⟩
      refine ⟨_, rfl, ?_⟩
      have S82 := S59.call r81
      refine FL.call rfl rfl rfl (E.call Tryz.call71 (A2 rfl rfl)) (w_spec_l1Least S82.sl s29.1 r78) ?_
      rintro e w83 ⟨rfl, r84⟩
      refine ⟨_, rfl, ?_⟩
      have S85 := S82.call r84
      refine FL.v (E.assign (v := Value.int .i64 (PF.spec_l1Least s29.1 r78)) rfl) ?_
      refine FL.nil (FW.region ?_)
      refine FL.v (E.move k66) ?_
      refine FL.v (E.add rfl rfl) ?_
      refine FL.v (E.assign (v := Value.int .i64 (wr (s29.2 + 1))) rfl) ?_
      refine FL.nil ?_
      obtain rfl := Option.some.inj hp
      exact ⟨rfl, ⟨_, S85, i60, k63, k64, rfl, rfl⟩⟩
    ·
      refine FW.condF rfl c67 ?_
      refine FW.exit ?_
      obtain rfl := Option.some.inj hp
      exact ⟨nofun, rfl, ⟨_, S59, i60, k65⟩⟩
  ·
    clear hq
    intro e f91 w90 hD
    rcases q29 with s29 | x29
    ·
      obtain ⟨rfl, hD⟩ := hD
      obtain ⟨H87, S88, i89, k92⟩ := hD
      replace hp := el_go hp
      refine FW.seq (FW.region ?_)
      refine FL.v (E.move k92) ?_
      refine FL.v (E.assign (v := Value.int .i64 s29.1) rfl) ?_
      refine FL.nil ?_
      refine FW.ret ?_
      obtain rfl := Option.some.inj hp
      exact ⟨.inr rfl, res1 rfl rfl ⟨rfl, S88.back⟩⟩
    · exact x29.elim

@[reducible] def p_spec_l3Left (Ha : GH) (wa : World) (r : (List Int)) : Ending → World → Prop :=
  fun e w' => ∃ H' : GH, ∃ v0 : Value, ∃ n0 : Nat, ∃ c0 : List Value, e = .returned (v0) ∧ St Ha wa H' w' [.row 3 1 v0 n0 c0] ∧ Els (up wa.heap.size H') eI 1 c0 r
theorem w_spec_l3Left {Ha : GH} {wa : World} (hs : Sl Ha wa) (v0 : Value) (a0 : List Int) (p0 : RSl Ha eI 1 v0 a0) (v1 : Value) (a1 : List Int) (p1 : RSl Ha eI 1 v1 a1) {r : (List Int)} (hp : (PF.spec_l3Left a0 a1) = some r) :
    Calls Tryz.prog 276 #[v0, v1] wa (p_spec_l3Left Ha wa r) := by
  unfold PF.spec_l3Left at hp
  have S0 := St.init hs
  refine calls_go (N := 30) (args := [v0, v1]) Tryz.func276 rfl rfl rfl ?_
  refine FW.seq (FW.region ?_)
  refine FL.v (E.assign (v := Value.slice none 0 0) rfl) ?_
  refine FL.nil (FW.seq (FW.region ?_))
  obtain ⟨v21, w22, run23, S24⟩ := S0.buildSlice (P := Tryz.prog) te34 [] (parts := #[]) (cells := []) rfl szs_nil fc_nil ones_nil (Nat.le_of_ble_eq_true rfl)
  have els25 : Els (up wa.heap.size Ha) eI 1 [] [] := Els.nil
  refine FL.v (E.buildSlice (B0) run23) ?_
  refine FL.v (E.assign (v := v21) rfl) ?_
  refine FL.nil (FW.seq (FW.seq (FW.region ?_)))
  refine FL.v (E.assign (v := Value.int .i64 0) rfl) ?_
  refine FL.nil ?_
  obtain ⟨q27, hq, hp⟩ := bndR hp
  refine FW.block ?_
  refine FW.mono (FW.forL (S := (List Int)) (X := Empty) (fun (i27 : Nat) (s27 : (List Int)) f w => ∃ H : GH, ∃ v28 : Value, ∃ n29 : Nat, ∃ cs30 : List Value, St Ha wa H w [.row 3 1 v28 n29 cs30] ∧ Inc Ha H ∧ Els (up wa.heap.size H) eI 1 cs30 s27 ∧ f 6 = Value.int .i64 ((i27 : Nat) : Int) ∧ f 0 = v0 ∧ f 1 = v1 ∧ f 5 = v28) (fun (q : Rs (List Int) Empty) e f w => match q with | .go s27 => e = Exit.exit 0 ∧ (∃ H : GH, ∃ v28 : Value, ∃ n29 : Nat, ∃ cs30 : List Value, St Ha wa H w [.row 3 1 v28 n29 cs30] ∧ Inc Ha H ∧ Els (up wa.heap.size H) eI 1 cs30 s27 ∧ f 5 = v28) | .rt x => x.elim) hq ⟨_, _, _, _, S24, (Inc.rfl _), els25, rfl, rfl, rfl, rfl⟩ ?_ ?_) ?_
  ·
    clear hp hq
    rintro i27 y26 s27 f79 w78 ⟨H75, v28, n29, cs30, S76, i77, els31, k80, k81, k82, k83⟩ hx27 o118 hp
    refine FW.seq (FW.seq (FW.region ?_))
    refine FL.v (E.move k80) ?_
    refine FL.v (E.move k81) ?_
    refine FL.v (E.lenP te34 rfl p0) ?_
    refine FL.v (E.lssT rfl rfl (lss_len hx27)) ?_
    refine FL.nil ?_
    refine FW.condT rfl rfl ?_
    refine FW.skip (FW.seq (FW.block (FW.seq (FW.region ?_))))
    refine FL.v (E.move k82) ?_
    refine FL.v (E.move k81) ?_
    refine FL.v (E.move k80) ?_
    obtain ⟨p84, cs85, pt86, l87, at88, rel89⟩ := p0.at (ix_nat hx27)
    obtain rfl := eI_open rel89
    refine FL.v (E.indexAddr te34 rfl rfl pt86) ?_
    refine FL.v (E.load rfl (run_load0 Tryz.isAgg3 ((at88.mono i77).now S76.sl) rfl)) ?_
    refine FL.v (E.neg rfl) ?_
    obtain ⟨r90, hr91, hp⟩ := bnd hp
    refine FL.call rfl rfl rfl (E.call Tryz.call83 (A2 rfl rfl)) (w_spec_l2Has S76.sl v1 a1 (p1.mono i77) (wr (-y26)) hr91) ?_
    rintro e w92 ⟨rfl, r93⟩
    refine ⟨_, rfl, ?_⟩
    have S94 := S76.call r93
    refine FL.v (E.not rfl) ?_
    refine FL.nil ?_
    rcases ifB hp with ⟨c95, hp⟩ | ⟨c95, hp⟩
    ·
      refine FW.condT rfl c95 ?_
      refine FW.region ?_
      refine FL.v (E.move k83) ?_
      refine FL.v (E.move k81) ?_
      refine FL.v (E.move k80) ?_
      obtain ⟨p96, cs97, pt98, l99, at100, rel101⟩ := p0.at (ix_nat hx27)
      obtain rfl := eI_open rel101
      refine FL.v (E.indexAddr te34 rfl rfl pt98) ?_
      refine FL.v (E.load rfl (run_load0 Tryz.isAgg3 ((at100.mono i77).now S94.sl) rfl)) ?_
      obtain ⟨v102, w103, run104, S105⟩ := S94.buildSlice (P := Tryz.prog) te34 [Value.int .i64 y26] (parts := #[(0, Value.int .i64 y26)]) (cells := [Value.int .i64 y26]) rfl (szs_cons rfl szs_nil) (fc_cons rfl fc_nil) (ones_cons rfl ones_nil) (Nat.le_of_ble_eq_true rfl)
      have els106 : Els (up wa.heap.size H75) eI 1 [Value.int .i64 y26] [y26] := (Els.snoc (H := (up wa.heap.size H75)) (E := eI) (k := 1) (c := [Value.int .i64 y26]) (x := y26) Els.nil rfl rfl)
      refine FL.v (E.buildSlice (B1 rfl) run104) ?_
      obtain ⟨xs107, hz108, hp⟩ := bnd hp
      obtain ⟨v109, w112, n110, cs111, run113, S114, els115, ce116⟩ := S105.appendO (P := Tryz.prog) te34 (i := 1) (j := 0) rfl els31 rfl els106 hz108
      have S114 : St Ha wa H75 w112 [.row 3 1 v102 1 [Value.int .i64 y26], .row 3 1 v109 n110 cs111] := S114
      have S117 : St Ha wa H75 w112 [.row 3 1 v109 n110 cs111] := S114.drop 0
      refine FL.v (E.append rfl rfl run113) ?_
      refine FL.v (E.assign (v := v109) rfl) ?_
      refine FL.nil (FW.region ?_)
      refine FL.v (E.move k80) ?_
      refine FL.v (E.add rfl rfl) ?_
      refine FL.v (E.assign (v := Value.int .i64 (wr (((i27 : Nat) : Int) + 1))) rfl) ?_
      refine FL.nil ?_
      obtain rfl := Option.some.inj hp
      exact ⟨rfl, ⟨_, _, _, _, S117, i77, els115, (nat_succ rfl (lt_of_get hx27) (p0.mono i77).le), k81, k82, rfl⟩⟩
    ·
      refine FW.condF rfl c95 ?_
      refine FW.skip (FW.region ?_)
      refine FL.v (E.move k80) ?_
      refine FL.v (E.add rfl rfl) ?_
      refine FL.v (E.assign (v := Value.int .i64 (wr (((i27 : Nat) : Int) + 1))) rfl) ?_
      refine FL.nil ?_
      obtain rfl := Option.some.inj hp
      exact ⟨rfl, ⟨_, _, _, _, S94, i77, els31, (nat_succ rfl (lt_of_get hx27) (p0.mono i77).le), k81, k82, k83⟩⟩
  ·
    clear hp hq
    rintro s27 f129 w128 ⟨H125, v28, n29, cs30, S126, i127, els31, k130, k131, k132, k133⟩
    refine FW.seq (FW.seq (FW.region ?_))
    refine FL.v (E.move k130) ?_
    refine FL.v (E.move k131) ?_
    refine FL.v (E.lenP te34 rfl p0) ?_
    refine FL.v (E.lss rfl rfl) ?_
    refine FL.nil ?_
    refine FW.condF rfl dlt_len ?_
    refine FW.exit ?_
    exact ⟨nofun, rfl, ⟨_, _, _, _, S126, i127, els31, k133⟩⟩
  ·
    clear hq
    intro e f123 w122 hD
    rcases q27 with s27 | x27
    ·
      obtain ⟨rfl, hD⟩ := hD
      obtain ⟨H119, v28, n29, cs30, S120, i121, els31, k124⟩ := hD
      replace hp := el_go hp
      refine FW.seq (FW.region ?_)
      refine FL.v (E.move k124) ?_
      refine FL.v (E.assign (v := v28) rfl) ?_
      refine FL.nil ?_
      refine FW.ret ?_
      obtain rfl := Option.some.inj hp
      exact ⟨.inr rfl, res1 rfl rfl ⟨_, _, _, _, rfl, S120, els31⟩⟩
    · exact x27.elim

theorem w_spec_l3Unit {Ha : GH} {wa : World} (hs : Sl Ha wa) (v0 : Value) (a0 : List Int) (p0 : RSl Ha eI 1 v0 a0) (v1 : Value) (a1 : List Int) (p1 : RSl Ha eI 1 v1 a1) {r : Int} (hp : (PF.spec_l3Unit a0 a1) = some r) :
  Calls Tryz.prog 198 #[v0, v1] wa (Sc Ha wa (Value.int .i64 r)) := by
 unfold PF.spec_l3Unit at hp
 have S0 := St.init hs
 refine calls_go (N := 21) (args := [v0, v1]) Tryz.func198 rfl rfl rfl ?_
 refine FW.seq (FW.region ?_)
 refine FL.v (E.assign (v := Value.int .i64 0) rfl) ?_
 refine FL.nil (FW.seq (FW.region ?_))
 refine FL.v (E.move (v := v0) rfl) ?_
 refine FL.v (E.move (v := v1) rfl) ?_
 obtain ⟨r21, hr22, hp⟩ := bnd hp
 refine FL.call rfl rfl rfl (E.call Tryz.call276 (A2 rfl rfl)) (w_spec_l3Left S0.sl v0 a0 p0 v1 a1 p1 hr22) ?_
 rintro e w24 ⟨H23, v27, n28, cs29, rfl, r26, els30⟩
 refine ⟨_, rfl, ?_⟩
 have els30 := els30.mono (up_le S0.size)
 have S25 := S0.join (l' := [.row 3 1 v27 n28 cs29]) r26 rfl
 refine FL.v (E.assign (v := v27) rfl) ?_
 refine FL.nil (FW.seq (FW.seq (FW.region ?_)))
 refine FL.v (E.move (v := v0) rfl) ?_
 refine FL.v (E.move (v := v1) rfl) ?_
 obtain ⟨r31, hr32, hp⟩ := bnd hp
 refine FL.call rfl rfl rfl (E.call Tryz.call105 (A2 rfl rfl)) (w_spec_l3Value S25.sl v0 a0 (p0.mono r26.run.inc) v1 a1 (p1.mono r26.run.inc) hr32) ?_
 rintro e w33 ⟨rfl, r34⟩
 refine ⟨_, rfl, ?_⟩
 have S35 := S25.call r34
 refine FL.v (E.neq rfl rfl) ?_
 refine FL.v (E.move (v := Value.bool (!(r31 == 0))) rfl) ?_
 refine FL.cut 4 (fun f w => ∃ H : GH, St Ha wa H w [.row 3 1 v27 n28 cs29] ∧ Inc H23 H ∧ f 5 = v27 ∧ f 17 = Value.bool (bif (!(r31 == 0)) then true else (!((len r21) == 1)))) ?_ ?_
 ·
  rcases bcase (!(r31 == 0)) with c42 | c42
  ·
   refine FL.skip (wF_no rfl rfl rfl c42) rfl ?_
   refine FL.skip (wF_no rfl rfl rfl c42) rfl ?_
   refine FL.skip (wF_no rfl rfl rfl c42) rfl ?_
   refine FL.v (E.pickT rfl c42 rfl) ?_
   exact FL.nil ⟨rfl, _, S35, (Inc.rfl _), rfl, (congrArg Value.bool (bifT c42).symm)⟩
  ·
   refine FL.val (wF_yes rfl rfl rfl c42) rfl rfl (E.move (v := v27) rfl) ?_
   refine FL.val (wF_yes rfl rfl rfl c42) rfl rfl (E.lenO te34 rfl S35 (i := 0) rfl els30 (by decide)) ?_
   refine FL.val (wF_yes rfl rfl rfl c42) rfl rfl (E.neq rfl rfl) ?_
   refine FL.v (E.pickF rfl c42 rfl) ?_
   exact FL.nil ⟨rfl, _, S35, (Inc.rfl _), rfl, (congrArg Value.bool (bifF c42).symm)⟩
 rintro f41 w40 ⟨H37, S38, i39, k43, k44⟩
 refine FL.nil ?_
 rcases ifB hp with ⟨c45, hp⟩ | ⟨c45, hp⟩
 ·
  refine FW.condT k44 c45 ?_
  refine FW.seq (FW.region ?_)
  refine FL.v (E.assign (v := Value.int .i64 0) rfl) ?_
  refine FL.nil ?_
  refine FW.ret ?_
  obtain rfl := Option.some.inj hp
  exact ⟨.inr rfl, res1 rfl rfl ⟨rfl, S38.back⟩⟩
 ·
  refine FW.condF k44 c45 ?_
  refine FW.skip (FW.seq (FW.region ?_))
  refine FL.v (E.move k43) ?_
  obtain ⟨x52, hx53, hp⟩ := bnd hp
  obtain ⟨p46, cs47, pt48, l49, at50, rel51⟩ := S38.row_at (i := 0) rfl els30 (by decide) hx53
  obtain rfl := eI_open rel51
  refine FL.v (E.indexAddr te34 rfl rfl pt48) ?_
  refine FL.v (E.load rfl (run_load0 Tryz.isAgg3 at50 rfl)) ?_
  refine FL.v (E.assign (v := Value.int .i64 x52) rfl) ?_
  refine FL.nil ?_
  refine FW.ret ?_
  obtain rfl := Option.some.inj hp
  exact ⟨.inr rfl, res1 rfl rfl ⟨rfl, S38.back⟩⟩

@[reducible] def p_spec_l3Set (Ha : GH) (wa : World) (r : (List Int)) : Ending → World → Prop :=
 fun e w' => ∃ H' : GH, ∃ v0 : Value, ∃ n0 : Nat, ∃ c0 : List Value, e = .returned (v0) ∧ St Ha wa H' w' [.row 3 1 v0 n0 c0] ∧ Els (up wa.heap.size H') eI 1 c0 r
theorem w_spec_l3Set {Ha : GH} {wa : World} (hs : Sl Ha wa) (v0 : Value) (a0 : List Int) (p0 : RSl Ha eI 1 v0 a0) (a1 : Int) {r : (List Int)} (hp : (PF.spec_l3Set a0 a1) = some r) :
  Calls Tryz.prog 199 #[v0, Value.int .i64 a1] wa (p_spec_l3Set Ha wa r) := by
 unfold PF.spec_l3Set at hp
 have S0 := St.init hs
 refine calls_go (N := 11) (args := [v0, Value.int .i64 a1]) Tryz.func199 rfl rfl rfl ?_
 refine FW.seq (FW.region ?_)
 refine FL.v (E.assign (v := Value.slice none 0 0) rfl) ?_
 refine FL.nil (FW.seq (FW.region ?_))
 refine FL.v (E.move (v := v0) rfl) ?_
 refine FL.v (E.move (v := Value.int .i64 a1) rfl) ?_
 refine FL.call rfl rfl rfl (E.call Tryz.call243 (A1 rfl)) (w_spec_l2Var S0.sl a1) ?_
 rintro e w21 ⟨rfl, r22⟩
 refine ⟨_, rfl, ?_⟩
 have S23 := S0.call r22
 obtain ⟨r24, hr25, hp⟩ := bnd hp
 refine FL.call rfl rfl rfl (E.call Tryz.call185 (A2 rfl rfl)) (w_spec_l2Without S23.sl v0 a0 p0 (PF.spec_l2Var a1) hr25) ?_
 rintro e w27 ⟨H26, v30, n31, cs32, rfl, r29, els33⟩
 refine ⟨_, rfl, ?_⟩
 have els33 := els33.mono (up_le S23.size)
 have S28 := S23.join (l' := [.row 3 1 v30 n31 cs32]) r29 rfl
 refine FL.v (E.move (v := Value.int .i64 a1) rfl) ?_
 obtain ⟨H34, S35, i36, h37, nv38⟩ := S28.sealRowU (i := 0) (l' := []) rfl els33 (by decide) rfl
 obtain ⟨r39, hr40, hp⟩ := bnd hp
 refine FL.call rfl rfl rfl (E.call Tryz.call255 (A2 rfl rfl)) (w_spec_l2Put S35.sl v30 r24 (h37.mono upI) a1 hr40) ?_
 rintro e w42 ⟨H41, v47, n48, cs49, rfl, r44, els50⟩
 refine ⟨_, rfl, ?_⟩
 obtain ⟨H45, r44, hU46⟩ := St.lendX i36 S28.sl r44
 have els50 := els50.mono (hU46.tr (up_le S28.size))
 have S43 := S28.join (l' := [.row 3 1 v47 n48 cs49, .row 3 1 v30 n31 cs32]) r44 rfl
 refine FL.v (E.assign (v := v47) rfl) ?_
 refine FL.nil ?_
 refine FW.ret ?_
 obtain rfl := Option.some.inj hp
 exact ⟨.inr rfl, res1 rfl rfl ⟨_, _, _, _, rfl, (S43.sel [0] (by decide) rfl), els50⟩⟩

@[reducible] def p_spec_l3Steps (Ha : GH) (wa : World) (r : ((List (Int × Int)) × (List Int) × Bool)) : Ending → World → Prop :=
  fun e w' => ∃ H' : GH, ∃ v0 : Value, ∃ n0 : Nat, ∃ c0 : List Value, ∃ v1 : Value, ∃ n1 : Nat, ∃ c1 : List Value, e = .returned (Value.tuple #[v0, v1, Value.bool r.2.2]) ∧ St Ha wa H' w' [.row 47 2 v0 n0 c0, .row 3 1 v1 n1 c1] ∧ Els (up wa.heap.size H') eI2 2 c0 r.1 ∧ Els (up wa.heap.size H') eI 1 c1 r.2.1
theorem w_spec_l3Steps {Ha : GH} {wa : World} (hs : Sl Ha wa) (a0 : Cnf) (v0_1 : Value) (p0_1 : RSl Ha (eL eI 1) 1 v0_1 a0.clauses) (v1 : Value) (a1 : List Int) (p1 : RSl Ha eI 1 v1 a1) {r : ((List (Int × Int)) × (List Int) × Bool)} (hp : (PF.spec_l3Steps a0 a1) = some r) :
    Calls Tryz.prog 93 #[Value.agg #[Value.int .i64 a0.vars, v0_1], v1] wa (p_spec_l3Steps Ha wa r) := by
  unfold PF.spec_l3Steps at hp
  have S0 := St.init hs
  refine calls_go (N := 58) (args := [Value.agg #[Value.int .i64 a0.vars, v0_1], v1]) Tryz.func93 rfl rfl rfl ?_
  refine FW.seq (FW.region ?_)
  obtain ⟨b21, w22, run23, S24⟩ := S0.box (P := Tryz.prog) 26 [Value.int .i64 a0.vars, v0_1] (v := Value.agg #[Value.int .i64 a0.vars, v0_1]) rfl (ones_cons rfl (ones_cons p0_1.one ones_nil))
  refine FL.v (E.box rfl run23) ?_
  obtain ⟨H25, S26, i27, at28⟩ := S24.sealBox (i := 0) (l' := []) rfl rfl
  refine FL.v (E.assign (v := Value.slice none 0 0) rfl) ?_
  refine FL.v (E.assign (v := Value.slice none 0 0) rfl) ?_
  refine FL.v (E.assign (v := Value.bool false) rfl) ?_
  refine FL.nil (FW.seq (FW.region ?_))
  obtain ⟨v29, w30, run31, S32⟩ := S26.buildSlice (P := Tryz.prog) te44 [] (parts := #[]) (cells := []) rfl szs_nil fc_nil ones_nil (Nat.le_of_ble_eq_true rfl)
  have els33 : Els (up wa.heap.size H25) eI2 2 [] [] := Els.nil
  refine FL.v (E.buildSlice (B0) run31) ?_
  refine FL.v (E.move (v := v1) rfl) ?_
  obtain ⟨r34, hr35, hp⟩ := bnd hp
  refine FL.call rfl rfl rfl (E.call Tryz.call196 (A1 rfl)) (w_spec_l1Own S32.sl v1 a1 (p1.mono i27) hr35) ?_
  rintro e w37 ⟨H36, v40, n41, cs42, rfl, r39, els43⟩
  refine ⟨_, rfl, ?_⟩
  have els43 := els43.mono (up_le S32.size)
  have S38 := S32.join (l' := [.row 3 1 v40 n41 cs42, .row 47 2 v29 0 []]) r39 rfl
  refine FL.v (E.assign (v := v29) rfl) ?_
  refine FL.v (E.assign (v := v40) rfl) ?_
  refine FL.nil (FW.seq ?_)
  obtain ⟨q44, hq, hp⟩ := bndR hp
  refine FW.block ?_
  refine FW.mono (FW.iter (S := ((List (Int × Int)) × (List Int))) (X := ((List (Int × Int)) × (List Int) × Bool)) (fun (s44 : ((List (Int × Int)) × (List Int))) f w => ∃ H : GH, ∃ v178 : Value, ∃ n179 : Nat, ∃ cs180 : List Value, ∃ v182 : Value, ∃ n183 : Nat, ∃ cs184 : List Value, St Ha wa H w [.row 47 2 v178 n179 cs180, .row 3 1 v182 n183 cs184] ∧ Inc H36 H ∧ Els (up wa.heap.size H) eI2 2 cs180 s44.1 ∧ Els (up wa.heap.size H) eI 1 cs184 s44.2 ∧ f 2 = Value.pointer (some ⟨b21, 0, none⟩) ∧ f 7 = v178 ∧ f 8 = v182) (fun q e f w => match q with | .go s44 => e = Exit.exit 0 ∧ (∃ H : GH, ∃ v178 : Value, ∃ n179 : Nat, ∃ cs180 : List Value, ∃ v182 : Value, ∃ n183 : Nat, ∃ cs184 : List Value, St Ha wa H w [.row 47 2 v178 n179 cs180, .row 3 1 v182 n183 cs184] ∧ Inc H36 H ∧ Els (up wa.heap.size H) eI2 2 cs180 s44.1 ∧ Els (up wa.heap.size H) eI 1 cs184 s44.2 ∧ f 7 = v178 ∧ f 8 = v182) | .rt x => ((e = Exit.ret) ∧ (fun e f w => (e = Exit.normal ∨ e = Exit.ret) ∧ ∀ a, Fr (δ := []) 58 a f → ∃ v, (results Tryz.f93 a.tmps).run Tryz.prog w = .ok v w ∧ (p_spec_l3Steps Ha wa x) (.returned v) w) e f w)) hq ⟨_, _, _, _, _, _, _, (S38.sel [1, 0] (by decide) rfl), (Inc.rfl _), (els33.mono (up_mono r39.run.inc)), els43, rfl, rfl, rfl⟩ ?_) ?_
  ·
    clear hp hq
    rintro s44 f315 w314 ⟨H311, v178, n179, cs180, v182, n183, cs184, S312, i313, els181, els185, k316, k317, k318⟩ o459 hp
    refine FW.seq (FW.seq (FW.region ?_))
    refine FL.v (E.load k316 (run_loadA Tryz.isAgg26 Tryz.sizeOf26 ((at28.mono (r39.run.inc.tr i313)).now S312.sl) rfl)) ?_
    refine FL.v (E.move k318) ?_
    obtain ⟨H319, S320, i321, h322, nv323⟩ := S312.sealRowU (i := 1) (l' := [.row 47 2 v178 n179 cs180]) rfl els185 (by decide) rfl
    obtain ⟨r324, hr325, hp⟩ := bnd hp
    refine FL.call rfl rfl rfl (E.call Tryz.call197 (A2 rfl rfl)) (w_spec_l3CnfValue S320.sl a0 v0_1 (p0_1.mono (((i27.tr r39.run.inc).tr i313).tr i321)) v182 s44.2 (h322.mono upI) hr325) ?_
    rintro e w326 ⟨rfl, r327⟩
    refine ⟨_, rfl, ?_⟩
    have r327 := Run.lend i321 S312.sl r327
    have S328 := S312.call r327
    refine FL.v (E.geq rfl rfl) ?_
    refine FL.nil ?_
    rcases ifB hp with ⟨c329, hp⟩ | ⟨c329, hp⟩
    ·
      refine FW.condT rfl c329 ?_
      refine FW.skip (FW.block (FW.seq (FW.region ?_)))
      refine FL.v (E.assign (v := Value.int .i64 (-1)) rfl) ?_
      refine FL.nil (FW.seq (FW.seq (FW.region ?_)))
      refine FL.v (E.fieldAddr tf26_1 k316) ?_
      refine FL.v (E.load rfl (run_load1 Tryz.isAgg24 ((at28.mono (r39.run.inc.tr i313)).now S328.sl) rfl)) ?_
      refine FL.v (E.lenP te24 rfl p0_1) ?_
      refine FL.v (E.sub rfl rfl) ?_
      refine FL.v (E.assign (v := Value.int .i64 (wr ((len a0.clauses) - 1))) rfl) ?_
      refine FL.nil ?_
      obtain ⟨q330, hq, hp⟩ := bndR hp
      refine FW.block ?_
      refine FW.mono (FW.iter (S := (Int × Int)) (X := Empty) (fun (s330 : (Int × Int)) f w => ∃ H : GH, St Ha wa H w [.row 47 2 v178 n179 cs180, .row 3 1 v182 n183 cs184] ∧ Inc H311 H ∧ f 2 = Value.pointer (some ⟨b21, 0, none⟩) ∧ f 7 = v178 ∧ f 8 = v182 ∧ f 9 = Value.int .i64 s330.1 ∧ f 10 = Value.int .i64 s330.2) (fun (q : Rs (Int × Int) Empty) e f w => match q with | .go s330 => e = Exit.exit 2 ∧ (∃ H : GH, St Ha wa H w [.row 47 2 v178 n179 cs180, .row 3 1 v182 n183 cs184] ∧ Inc H311 H ∧ f 2 = Value.pointer (some ⟨b21, 0, none⟩) ∧ f 7 = v178 ∧ f 8 = v182 ∧ f 9 = Value.int .i64 s330.1) | .rt x => x.elim) hq ⟨_, S328, (Inc.rfl _), k316, k317, k318, rfl, rfl⟩ ?_) ?_
      ·
        clear hp hq
        rintro s330 f367 w366 ⟨H363, S364, i365, k368, k369, k370, k371, k372⟩ o395 hp
        refine FW.seq (FW.seq (FW.region ?_))
        refine FL.v (E.move k372) ?_
        refine FL.v (E.geq rfl rfl) ?_
        refine FL.nil ?_
        rcases ifB hp with ⟨c373, hp⟩ | ⟨c373, hp⟩
        ·
          refine FW.condT rfl c373 ?_
          refine FW.skip (FW.seq (FW.block (FW.seq (FW.region ?_))))
          refine FL.v (E.fieldAddr tf26_1 k368) ?_
          refine FL.v (E.load rfl (run_load1 Tryz.isAgg24 ((at28.mono ((r39.run.inc.tr i313).tr i365)).now S364.sl) rfl)) ?_
          refine FL.v (E.move k372) ?_
          obtain ⟨x380, hx381, hp⟩ := bnd hp
          obtain ⟨p374, cs375, pt376, l377, at378, rel379⟩ := p0_1.at hx381
          obtain ⟨v382, rfl, h383⟩ := eL_open rel379
          refine FL.v (E.indexAddr te24 rfl rfl pt376) ?_
          refine FL.v (E.load rfl (run_load0 Tryz.isAgg34 ((at378.mono (((i27.tr r39.run.inc).tr i313).tr i365)).now S364.sl) rfl)) ?_
          refine FL.v (E.move k370) ?_
          obtain ⟨H384, S385, i386, h387, nv388⟩ := S364.sealRowU (i := 1) (l' := [.row 47 2 v178 n179 cs180]) rfl (els185.mono (up_mono i365)) (by decide) rfl
          obtain ⟨r389, hr390, hp⟩ := bnd hp
          refine FL.call rfl rfl rfl (E.call Tryz.call198 (A2 rfl rfl)) (w_spec_l3Unit S385.sl v382 x380 (h383.mono ((((i27.tr r39.run.inc).tr i313).tr i365).tr i386)) v182 s44.2 (h387.mono upI) hr390) ?_
          rintro e w391 ⟨rfl, r392⟩
          refine ⟨_, rfl, ?_⟩
          have r392 := Run.lend i386 S364.sl r392
          have S393 := S364.call r392
          refine FL.v (E.neq rfl rfl) ?_
          refine FL.nil ?_
          rcases ifB hp with ⟨c394, hp⟩ | ⟨c394, hp⟩
          ·
            refine FW.condT rfl c394 ?_
            refine FW.region ?_
            refine FL.v (E.move k372) ?_
            refine FL.v (E.assign (v := Value.int .i64 s330.2) rfl) ?_
            refine FL.nil (FW.region ?_)
            refine FL.v (E.move k372) ?_
            refine FL.v (E.sub rfl rfl) ?_
            refine FL.v (E.assign (v := Value.int .i64 (wr (s330.2 - 1))) rfl) ?_
            refine FL.nil ?_
            obtain rfl := Option.some.inj hp
            exact ⟨rfl, ⟨_, S393, i365, k368, k369, k370, rfl, rfl⟩⟩
          ·
            refine FW.condF rfl c394 ?_
            refine FW.skip (FW.region ?_)
            refine FL.v (E.move k372) ?_
            refine FL.v (E.sub rfl rfl) ?_
            refine FL.v (E.assign (v := Value.int .i64 (wr (s330.2 - 1))) rfl) ?_
            refine FL.nil ?_
            obtain rfl := Option.some.inj hp
            exact ⟨rfl, ⟨_, S393, i365, k368, k369, k370, k371, rfl⟩⟩
        ·
          refine FW.condF rfl c373 ?_
          refine FW.exit ?_
          obtain rfl := Option.some.inj hp
          exact ⟨nofun, rfl, ⟨_, S364, i365, k368, k369, k370, k371⟩⟩
      ·
        clear hq
        intro e f400 w399 hD
        rcases q330 with s330 | x330
        ·
          obtain ⟨rfl, hD⟩ := hD
          obtain ⟨H396, S397, i398, k401, k402, k403, k404⟩ := hD
          replace hp := el_go hp
          refine FW.seq (FW.seq (FW.region ?_))
          refine FL.v (E.move k404) ?_
          refine FL.v (E.lss rfl rfl) ?_
          refine FL.nil ?_
          rcases ifB hp with ⟨c405, hp⟩ | ⟨c405, hp⟩
          ·
            refine FW.condT rfl c405 ?_
            refine FW.seq (FW.region ?_)
            refine FL.v (E.move k402) ?_
            refine FL.v (E.move k403) ?_
            refine FL.v (E.assign (v := v178) rfl) ?_
            refine FL.v (E.assign (v := v182) rfl) ?_
            refine FL.v (E.assign (v := Value.bool false) rfl) ?_
            refine FL.nil ?_
            refine FW.ret ?_
            obtain rfl := Option.some.inj hp
            exact ⟨nofun, rfl, ⟨.inr rfl, res3 rfl rfl rfl rfl ⟨_, _, _, _, _, _, _, rfl, S397, (els181.mono (up_mono i398)), (els185.mono (up_mono i398))⟩⟩⟩
          ·
            refine FW.condF rfl c405 ?_
            refine FW.skip (FW.seq (FW.region ?_))
            refine FL.v (E.fieldAddr tf26_1 k401) ?_
            refine FL.v (E.load rfl (run_load1 Tryz.isAgg24 ((at28.mono ((r39.run.inc.tr i313).tr i398)).now S397.sl) rfl)) ?_
            refine FL.v (E.move k404) ?_
            obtain ⟨x412, hx413, hp⟩ := bnd hp
            obtain ⟨p406, cs407, pt408, l409, at410, rel411⟩ := p0_1.at hx413
            obtain ⟨v414, rfl, h415⟩ := eL_open rel411
            refine FL.v (E.indexAddr te24 rfl rfl pt408) ?_
            refine FL.v (E.load rfl (run_load0 Tryz.isAgg34 ((at410.mono (((i27.tr r39.run.inc).tr i313).tr i398)).now S397.sl) rfl)) ?_
            refine FL.v (E.move k403) ?_
            obtain ⟨H416, S417, i418, h419, nv420⟩ := S397.sealRowU (i := 1) (l' := [.row 47 2 v178 n179 cs180]) rfl (els185.mono (up_mono i398)) (by decide) rfl
            obtain ⟨r421, hr422, hp⟩ := bnd hp
            refine FL.call rfl rfl rfl (E.call Tryz.call198 (A2 rfl rfl)) (w_spec_l3Unit S417.sl v414 x412 (h415.mono ((((i27.tr r39.run.inc).tr i313).tr i398).tr i418)) v182 s44.2 (h419.mono upI) hr422) ?_
            rintro e w423 ⟨rfl, r424⟩
            refine ⟨_, rfl, ?_⟩
            have r424 := Run.lend i418 S397.sl r424
            have S425 := S397.call r424
            refine FL.v (E.assign (v := Value.int .i64 r421) rfl) ?_
            refine FL.nil (FW.seq (FW.region ?_))
            refine FL.v (E.move k402) ?_
            refine FL.v (E.move (v := Value.int .i64 r421) rfl) ?_
            refine FL.v (E.move k404) ?_
            refine FL.v (E.build (B2 rfl rfl) (run_build _ 47 #[(0, Value.int .i64 r421), (1, Value.int .i64 s330.1)] #[Value.int .i64 r421, Value.int .i64 s330.1] (by rfl))) ?_
            obtain ⟨v426, w427, run428, S429⟩ := S425.buildSlice (P := Tryz.prog) te44 [Value.agg #[Value.int .i64 r421, Value.int .i64 s330.1]] (parts := #[(0, Value.agg #[Value.int .i64 r421, Value.int .i64 s330.1])]) (cells := [Value.int .i64 r421, Value.int .i64 s330.1]) rfl (szs_cons rfl szs_nil) (fc_cons rfl fc_nil) (ones_cons rfl (ones_cons rfl ones_nil)) (Nat.le_of_ble_eq_true rfl)
            have els430 : Els (up wa.heap.size H396) eI2 2 [Value.int .i64 r421, Value.int .i64 s330.1] [(r421, s330.1)] := (Els.snoc (H := (up wa.heap.size H396)) (E := eI2) (k := 2) (c := [Value.int .i64 r421, Value.int .i64 s330.1]) (x := (r421, s330.1)) Els.nil rfl rfl)
            refine FL.v (E.buildSlice (B1 rfl) run428) ?_
            obtain ⟨xs431, hz432, hp⟩ := bnd hp
            obtain ⟨v433, w436, n434, cs435, run437, S438, els439, ce440⟩ := S429.appendO (P := Tryz.prog) te44 (i := 1) (j := 0) rfl (els181.mono (up_mono i398)) rfl els430 hz432
            have S438 : St Ha wa H396 w436 [.row 47 2 v426 1 [Value.int .i64 r421, Value.int .i64 s330.1], .row 47 2 v433 n434 cs435, .row 3 1 v182 n183 cs184] := S438
            have S441 : St Ha wa H396 w436 [.row 47 2 v433 n434 cs435, .row 3 1 v182 n183 cs184] := S438.drop 0
            refine FL.v (E.append rfl rfl run437) ?_
            refine FL.v (E.assign (v := v433) rfl) ?_
            refine FL.nil (FW.region ?_)
            refine FL.v (E.move k403) ?_
            refine FL.v (E.move (v := Value.int .i64 r421) rfl) ?_
            obtain ⟨H442, S443, i444, h445, nv446⟩ := S441.sealRowU (i := 1) (l' := [.row 47 2 v433 n434 cs435]) rfl (els185.mono (up_mono i398)) (by decide) rfl
            obtain ⟨r447, hr448, hp⟩ := bnd hp
            refine FL.call rfl rfl rfl (E.call Tryz.call199 (A2 rfl rfl)) (w_spec_l3Set S443.sl v182 s44.2 (h445.mono upI) r421 hr448) ?_
            rintro e w450 ⟨H449, v455, n456, cs457, rfl, r452, els458⟩
            refine ⟨_, rfl, ?_⟩
            obtain ⟨H453, r452, hU454⟩ := St.lendX i444 S441.sl r452
            have els458 := els458.mono (hU454.tr (up_le S441.size))
            have S451 := S441.join (l' := [.row 3 1 v455 n456 cs457, .row 47 2 v433 n434 cs435, .row 3 1 v182 n183 cs184]) r452 rfl
            refine FL.v (E.assign (v := v455) rfl) ?_
            refine FL.nil ?_
            obtain rfl := Option.some.inj hp
            exact ⟨rfl, ⟨_, _, _, _, _, _, _, (S451.sel [1, 0] (by decide) rfl), ((i313.tr i398).tr r452.run.inc), (els439.mono (up_mono r452.run.inc)), els458, k401, rfl, rfl⟩⟩
        · exact x330.elim
    ·
      refine FW.condF rfl c329 ?_
      refine FW.exit ?_
      obtain rfl := Option.some.inj hp
      exact ⟨nofun, rfl, ⟨_, _, _, _, _, _, _, S328, i313, els181, els185, k317, k318⟩⟩
  ·
    clear hq
    intro e f464 w463 hD
    rcases q44 with s44 | x44
    ·
      obtain ⟨rfl, hD⟩ := hD
      obtain ⟨H460, v178, n179, cs180, v182, n183, cs184, S461, i462, els181, els185, k465, k466⟩ := hD
      replace hp := el_go hp
      refine FW.seq (FW.region ?_)
      refine FL.v (E.move k465) ?_
      refine FL.v (E.move k466) ?_
      refine FL.v (E.assign (v := v178) rfl) ?_
      refine FL.v (E.assign (v := v182) rfl) ?_
      refine FL.v (E.assign (v := Value.bool true) rfl) ?_
      refine FL.nil ?_
      refine FW.ret ?_
      obtain rfl := Option.some.inj hp
      exact ⟨.inr rfl, res3 rfl rfl rfl rfl ⟨_, _, _, _, _, _, _, rfl, S461, els181, els185⟩⟩
    ·
      obtain ⟨he, hL⟩ := hD
      replace hp := el_rt hp
      obtain rfl := Option.some.inj hp
      subst he
      exact hL

end Go.Proofs
