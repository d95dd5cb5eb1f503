/- Part of the walks and plain laws behind the claim: it proves helpers, under no condition beyond their own. -/
import Derived.Test.YtdkkikkmnfjgiaaGreatEmWk1
set_option linter.unusedVariables false
set_option maxRecDepth 100000
namespace Go.Proofs
open Go.Mr Go.Pu Go.PF Go.RowKit

@[reducible] def p_spec_l1Cur_anyClause (H0 : GH) (w0 : World) (Ha : GH) (L : List MO) (b0 : Nat) (r : ((List Int) × l1Cur)) : Ending → World → Prop :=
 fun e w' => ∃ H' : GH, ∃ v0 : Value, ∃ n0 : Nat, ∃ c0 : List Value, ∃ v0_0r : Value, e = .returned (v0) ∧ (St H0 w0 H' w' (.row 3 1 v0 n0 c0 :: .box b0 92 [v0_0r, Value.int .i64 r.2.at_, Value.int .u64 r.2.seed] :: L) ∧ Inc Ha H') ∧ Els (up w0.heap.size H') eI 1 c0 r.1 ∧ RSl H' (eN .u8) 1 v0_0r r.2.code
theorem w_spec_l1Cur_anyClause {H0 Ha : GH} {w0 wa : World} {L : List MO} {a0 : l1Cur} {b0 : Nat} {v0_0 : Value} (S0 : St H0 w0 Ha wa (.box b0 92 [v0_0, Value.int .i64 a0.at_, Value.int .u64 a0.seed] :: L)) (p0_0 : RSl Ha (eN .u8) 1 v0_0 a0.code) (a1 : Int) {r : ((List Int) × l1Cur)} (hp : (PF.spec_l1Cur_anyClause a0 a1) = some r) :
  Calls Tryz.prog 167 #[Value.pointer (some (⟨b0, 0, none⟩ : Addr)), Value.int .i64 a1] wa (p_spec_l1Cur_anyClause H0 w0 Ha L b0 r) := by
 unfold PF.spec_l1Cur_anyClause at hp
 refine calls_go (N := 52) (args := [Value.pointer (some (⟨b0, 0, none⟩ : Addr)), Value.int .i64 a1]) Tryz.func167 rfl rfl rfl ?_
 refine FW.seq (FW.region ?_)
 refine FL.v (E.assign (v := Value.slice none 0 0) rfl) ?_
 refine FL.nil (FW.seq (FW.region ?_))
 refine FL.v (E.move (v := Value.pointer (some (⟨b0, 0, none⟩ : Addr))) rfl) ?_
 refine FL.v (E.move (v := Value.int .i64 a1) rfl) ?_
 obtain ⟨r21, hr22, hp⟩ := bnd hp
 refine FL.call rfl rfl rfl (E.call Tryz.call166 (A2 rfl rfl)) (w_spec_l1Cur_clause (L := (L)) S0 (a0 := a0) p0_0 a1 hr22) ?_
 rintro e w24 ⟨H23, v27, n28, cs29, v31, rfl, ⟨S25, i26⟩, els30, h32⟩
 refine ⟨_, rfl, ?_⟩
 have S25 : St H0 w0 H23 w24 (.row 3 1 v27 n28 cs29 :: .box b0 92 [v31, Value.int .i64 r21.2.at_, Value.int .u64 r21.2.seed] :: L) := S25
 refine FL.v (E.assign (v := v27) rfl) ?_
 refine FL.nil (FW.seq (FW.seq (FW.region ?_)))
 refine FL.v (E.move (v := Value.pointer (some (⟨b0, 0, none⟩ : Addr))) rfl) ?_
 obtain ⟨r33, hr34, hp⟩ := bnd hp
 have S35 : St H0 w0 H23 w24 (.box b0 92 [v31, Value.int .i64 r21.2.at_, Value.int .u64 r21.2.seed] :: .row 3 1 v27 n28 cs29 :: L) := S25.front 1 rfl rfl
 refine FL.call rfl rfl rfl (E.call Tryz.call70 (A2 rfl rfl)) (w_spec_l1Cur_pick (L := (.row 3 1 v27 n28 cs29 :: L)) S35 (a0 := r21.2) h32 32 hr34) ?_
 rintro e w37 ⟨H36, v40, rfl, ⟨S38, i39⟩, h41⟩
 refine ⟨_, rfl, ?_⟩
 have S38 : St H0 w0 H36 w37 (.box b0 92 [v40, Value.int .i64 r33.2.at_, Value.int .u64 r33.2.seed] :: .row 3 1 v27 n28 cs29 :: L) := S38
 refine FL.nil (FW.block (FW.seq (FW.region ?_)))
 refine FL.v (E.eql rfl rfl) ?_
 refine FL.v (E.assign (v := Value.bool (r33.1 == 0)) rfl) ?_
 refine FL.nil ?_
 rcases ifB hp with ⟨c42, hp⟩ | ⟨c42, hp⟩
 ·
  refine FW.condT rfl c42 ?_
  refine FW.region ?_
  refine FL.v (E.move (v := v27) rfl) ?_
  refine FL.v (E.move (v := Value.pointer (some (⟨b0, 0, none⟩ : Addr))) rfl) ?_
  refine FL.v (E.move (v := Value.int .i64 a1) rfl) ?_
  obtain ⟨r43, hr44, hp⟩ := bnd hp
  refine FL.call rfl rfl rfl (E.call Tryz.call189 (A2 rfl rfl)) (w_spec_l1Cur_lit (L := (.row 3 1 v27 n28 cs29 :: L)) S38 (a0 := r33.2) h41 a1 hr44) ?_
  rintro e w46 ⟨H45, v49, rfl, ⟨S47, i48⟩, h50⟩
  refine ⟨_, rfl, ?_⟩
  have S47 : St H0 w0 H45 w46 (.box b0 92 [v49, Value.int .i64 r43.2.at_, Value.int .u64 r43.2.seed] :: .row 3 1 v27 n28 cs29 :: L) := S47
  obtain ⟨v51, w52, run53, S54⟩ := S47.buildSlice (P := Tryz.prog) te34 [Value.int .i64 r43.1] (parts := #[(0, Value.int .i64 r43.1)]) (cells := [Value.int .i64 r43.1]) rfl (szs_cons rfl szs_nil) (fc_cons rfl fc_nil) (ones_cons rfl ones_nil) (Nat.le_of_ble_eq_true rfl)
  have els55 : Els (up w0.heap.size H45) eI 1 [Value.int .i64 r43.1] [r43.1] := (Els.snoc (H := (up w0.heap.size H45)) (E := eI) (k := 1) (c := [Value.int .i64 r43.1]) (x := r43.1) Els.nil rfl rfl)
  refine FL.v (E.buildSlice (B1 rfl) run53) ?_
  obtain ⟨xs56, hz57, hp⟩ := bnd hp
  obtain ⟨v58, w61, n59, cs60, run62, S63, els64, ce65⟩ := S54.appendO (P := Tryz.prog) te34 (i := 2) (j := 0) rfl (els30.mono (up_mono (i39.tr i48))) rfl els55 hz57
  have S63 : St H0 w0 H45 w61 (.row 3 1 v51 1 [Value.int .i64 r43.1] :: .box b0 92 [v49, Value.int .i64 r43.2.at_, Value.int .u64 r43.2.seed] :: .row 3 1 v58 n59 cs60 :: L) := S63
  have S66 : St H0 w0 H45 w61 (.box b0 92 [v49, Value.int .i64 r43.2.at_, Value.int .u64 r43.2.seed] :: .row 3 1 v58 n59 cs60 :: L) := S63.drop 0
  refine FL.v (E.append rfl rfl run62) ?_
  refine FL.v (E.assign (v := v58) rfl) ?_
  refine FL.nil (FW.seq (FW.region ?_))
  refine FL.v (E.move (v := v58) rfl) ?_
  refine FL.v (E.assign (v := v58) rfl) ?_
  refine FL.nil ?_
  refine FW.ret ?_
  obtain rfl := Option.some.inj hp
  exact ⟨.inr rfl, res1 rfl rfl ⟨_, _, _, _, _, rfl, ⟨(S66.selT (a := [.box b0 92 [v49, Value.int .i64 r43.2.at_, Value.int .u64 r43.2.seed], .row 3 1 v58 n59 cs60]) (l' := [.row 3 1 v58 n59 cs60, .box b0 92 [v49, Value.int .i64 r43.2.at_, Value.int .u64 r43.2.seed]]) [1, 0] (by decide) rfl), ((i26.tr i39).tr i48)⟩, els64, h50⟩⟩
 ·
  refine FW.condF rfl c42 ?_
  refine FW.seq (FW.region ?_)
  refine FL.v (E.eql rfl rfl) ?_
  refine FL.v (E.assign (v := Value.bool (r33.1 == 1)) rfl) ?_
  refine FL.nil ?_
  rcases ifB hp with ⟨c67, hp⟩ | ⟨c67, hp⟩
  ·
   refine FW.condT rfl c67 ?_
   refine FW.seq (FW.region ?_)
   refine FL.v (E.move (v := v27) rfl) ?_
   refine FL.v (E.lenO te34 rfl S38 (i := 1) rfl els30 (by decide)) ?_
   refine FL.v (E.gtr rfl rfl) ?_
   refine FL.nil ?_
   rcases ifB hp with ⟨c68, hp⟩ | ⟨c68, hp⟩
   ·
    refine FW.condT rfl c68 ?_
    refine FW.region ?_
    refine FL.v (E.move (v := v27) rfl) ?_
    refine FL.v (E.move (v := Value.pointer (some (⟨b0, 0, none⟩ : Addr))) rfl) ?_
    refine FL.v (E.move (v := Value.int .i64 a1) rfl) ?_
    refine FL.v (E.add rfl rfl) ?_
    refine FL.v (E.move (v := Value.int .i64 a1) rfl) ?_
    refine FL.v (E.neg rfl) ?_
    refine FL.v (E.sub rfl rfl) ?_
    obtain ⟨v69, w70, run71, S72⟩ := S38.buildSlice (P := Tryz.prog) te34 [Value.int .i64 0, Value.int .i64 (wr (a1 + 1)), Value.int .i64 (wr ((wr (-a1)) - 1)), Value.int .i64 (-9223372036854775808)] (parts := #[(0, Value.int .i64 0), (1, Value.int .i64 (wr (a1 + 1))), (2, Value.int .i64 (wr ((wr (-a1)) - 1))), (3, Value.int .i64 (-9223372036854775808))]) (cells := [Value.int .i64 0, Value.int .i64 (wr (a1 + 1)), Value.int .i64 (wr ((wr (-a1)) - 1)), Value.int .i64 (-9223372036854775808)]) rfl (szs_cons rfl (szs_cons rfl (szs_cons rfl (szs_cons rfl szs_nil)))) (fc_cons rfl (fc_cons rfl (fc_cons rfl (fc_cons rfl fc_nil)))) (ones_cons rfl (ones_cons rfl (ones_cons rfl (ones_cons rfl ones_nil)))) (Nat.le_of_ble_eq_true rfl)
    have els73 : Els (up w0.heap.size H36) eI 1 [Value.int .i64 0, Value.int .i64 (wr (a1 + 1)), Value.int .i64 (wr ((wr (-a1)) - 1)), Value.int .i64 (-9223372036854775808)] [0, (wr (a1 + 1)), (wr ((wr (-a1)) - 1)), (-9223372036854775808)] := (Els.snoc (H := (up w0.heap.size H36)) (E := eI) (k := 1) (c := [Value.int .i64 (-9223372036854775808)]) (x := (-9223372036854775808)) (Els.snoc (H := (up w0.heap.size H36)) (E := eI) (k := 1) (c := [Value.int .i64 (wr ((wr (-a1)) - 1))]) (x := (wr ((wr (-a1)) - 1))) (Els.snoc (H := (up w0.heap.size H36)) (E := eI) (k := 1) (c := [Value.int .i64 (wr (a1 + 1))]) (x := (wr (a1 + 1))) (Els.snoc (H := (up w0.heap.size H36)) (E := eI) (k := 1) (c := [Value.int .i64 0]) (x := 0) Els.nil rfl rfl) rfl rfl) rfl rfl) rfl rfl)
    refine FL.v (E.buildSlice (B4 rfl rfl rfl rfl) run71) ?_
    obtain ⟨H74, S75, i76, h77, nv78⟩ := S72.sealRowU (i := 0) (l' := (.box b0 92 [v40, Value.int .i64 r33.2.at_, Value.int .u64 r33.2.seed] :: .row 3 1 v27 n28 cs29 :: L)) rfl els73 (by decide) rfl
    obtain ⟨r79, hr80, hp⟩ := bnd hp
    refine FL.call rfl rfl rfl (E.call Tryz.call69 (A2 rfl rfl)) (w_spec_l1Cur_among (L := (.row 3 1 v27 n28 cs29 :: L)) S75 (a0 := r33.2) (h41.mono i76) v69 [0, (wr (a1 + 1)), (wr ((wr (-a1)) - 1)), (-9223372036854775808)] (h77.mono upI) hr80) ?_
    rintro e w82 ⟨H81, v85, rfl, ⟨S83, i84⟩, h86⟩
    refine ⟨_, rfl, ?_⟩
    have S83 : St H0 w0 H81 w82 (.box b0 92 [v85, Value.int .i64 r79.2.at_, Value.int .u64 r79.2.seed] :: .row 3 1 v27 n28 cs29 :: L) := S83
    obtain ⟨x93, hx94, hp⟩ := bnd hp
    obtain ⟨p87, cs88, pt89, l90, at91, rel92⟩ := S83.row_at (i := 1) rfl els30 (by decide) hx94
    obtain rfl := eI_open rel92
    refine FL.v (E.indexAddr te34 rfl rfl pt89) ?_
    obtain ⟨xs98, hput99, hp⟩ := bnd hp
    obtain ⟨w95, cs101, run96, S97, els100, ce102⟩ := S83.putEls (P := Tryz.prog) (t := 3) (i := 1) rfl (els30.mono (up_mono ((i39.tr i76).tr i84))) hput99 pt89 Tryz.sizeOf3 (u := Value.int .i64 r79.1) (c := [Value.int .i64 r79.1]) rfl rfl (ones_cons rfl ones_nil) rfl
    have S97 : St H0 w0 H81 w95 (.box b0 92 [v85, Value.int .i64 r79.2.at_, Value.int .u64 r79.2.seed] :: .row 3 1 v27 n28 cs101 :: L) := S97
    refine FL.act rfl rfl (E.store rfl rfl run96) ?_
    refine FL.nil (FW.seq (FW.region ?_))
    refine FL.v (E.move (v := v27) rfl) ?_
    refine FL.v (E.assign (v := v27) rfl) ?_
    refine FL.nil ?_
    refine FW.ret ?_
    obtain rfl := Option.some.inj hp
    exact ⟨.inr rfl, res1 rfl rfl ⟨_, _, _, _, _, rfl, ⟨(S97.selT (a := [.box b0 92 [v85, Value.int .i64 r79.2.at_, Value.int .u64 r79.2.seed], .row 3 1 v27 n28 cs101]) (l' := [.row 3 1 v27 n28 cs101, .box b0 92 [v85, Value.int .i64 r79.2.at_, Value.int .u64 r79.2.seed]]) [1, 0] (by decide) rfl), (((i26.tr i39).tr i76).tr i84)⟩, els100, h86⟩⟩
   ·
    refine FW.condF rfl c68 ?_
    refine FW.skip (FW.seq (FW.region ?_))
    refine FL.v (E.move (v := v27) rfl) ?_
    refine FL.v (E.assign (v := v27) rfl) ?_
    refine FL.nil ?_
    refine FW.ret ?_
    obtain rfl := Option.some.inj hp
    exact ⟨.inr rfl, res1 rfl rfl ⟨_, _, _, _, _, rfl, ⟨(S38.selT (a := [.box b0 92 [v40, Value.int .i64 r33.2.at_, Value.int .u64 r33.2.seed], .row 3 1 v27 n28 cs29]) (l' := [.row 3 1 v27 n28 cs29, .box b0 92 [v40, Value.int .i64 r33.2.at_, Value.int .u64 r33.2.seed]]) [1, 0] (by decide) rfl), (i26.tr i39)⟩, (els30.mono (up_mono i39)), h41⟩⟩
  ·
   refine FW.condF rfl c67 ?_
   refine FW.seq (FW.region ?_)
   refine FL.v (E.eql rfl rfl) ?_
   refine FL.v (E.assign (v := Value.bool (r33.1 == 2)) rfl) ?_
   refine FL.nil ?_
   rcases ifB hp with ⟨c103, hp⟩ | ⟨c103, hp⟩
   ·
    refine FW.condT rfl c103 ?_
    refine FW.seq (FW.region ?_)
    refine FL.v (E.move (v := v27) rfl) ?_
    refine FL.v (E.lenO te34 rfl S38 (i := 1) rfl els30 (by decide)) ?_
    refine FL.v (E.gtr rfl rfl) ?_
    refine FL.nil ?_
    rcases ifB hp with ⟨c104, hp⟩ | ⟨c104, hp⟩
    ·
     refine FW.condT rfl c104 ?_
     refine FW.seq (FW.region ?_)
     refine FL.v (E.move (v := v27) rfl) ?_
     obtain ⟨x111, hx112, hp⟩ := bnd hp
     obtain ⟨p105, cs106, pt107, l108, at109, rel110⟩ := S38.row_at (i := 1) rfl els30 (by decide) hx112
     obtain rfl := eI_open rel110
     refine FL.v (E.indexAddr te34 rfl rfl pt107) ?_
     refine FL.v (E.load rfl (run_load0 Tryz.isAgg3 at109 rfl)) ?_
     refine FL.v (E.assign (v := Value.int .i64 x111) rfl) ?_
     refine FL.nil (FW.seq (FW.region ?_))
     refine FL.v (E.move (v := v27) rfl) ?_
     refine FL.v (E.move (v := v27) rfl) ?_
     obtain ⟨x119, hx120, hp⟩ := bnd hp
     obtain ⟨p113, cs114, pt115, l116, at117, rel118⟩ := S38.row_at (i := 1) rfl els30 (by decide) hx120
     obtain rfl := eI_open rel118
     refine FL.v (E.indexAddr te34 rfl rfl pt115) ?_
     refine FL.v (E.load rfl (run_load0 Tryz.isAgg3 at117 rfl)) ?_
     obtain ⟨x127, hx128, hp⟩ := bnd hp
     obtain ⟨p121, cs122, pt123, l124, at125, rel126⟩ := S38.row_at (i := 1) rfl els30 (by decide) hx128
     obtain rfl := eI_open rel126
     refine FL.v (E.indexAddr te34 rfl rfl pt123) ?_
     obtain ⟨xs132, hput133, hp⟩ := bnd hp
     obtain ⟨w129, cs135, run130, S131, els134, ce136⟩ := S38.putEls (P := Tryz.prog) (t := 3) (i := 1) rfl (els30.mono (up_mono i39)) hput133 pt123 Tryz.sizeOf3 (u := Value.int .i64 x119) (c := [Value.int .i64 x119]) rfl rfl (ones_cons rfl ones_nil) rfl
     have S131 : St H0 w0 H36 w129 (.box b0 92 [v40, Value.int .i64 r33.2.at_, Value.int .u64 r33.2.seed] :: .row 3 1 v27 n28 cs135 :: L) := S131
     refine FL.act rfl rfl (E.store rfl rfl run130) ?_
     refine FL.nil (FW.region ?_)
     refine FL.v (E.move (v := v27) rfl) ?_
     refine FL.v (E.move (v := Value.int .i64 x111) rfl) ?_
     obtain ⟨x143, hx144, hp⟩ := bnd hp
     obtain ⟨p137, cs138, pt139, l140, at141, rel142⟩ := S131.row_at (i := 1) rfl els134 (by decide) hx144
     obtain rfl := eI_open rel142
     refine FL.v (E.indexAddr te34 rfl rfl pt139) ?_
     obtain ⟨xs148, hput149, hp⟩ := bnd hp
     obtain ⟨w145, cs151, run146, S147, els150, ce152⟩ := S131.putEls (P := Tryz.prog) (t := 3) (i := 1) rfl els134 hput149 pt139 Tryz.sizeOf3 (u := Value.int .i64 x111) (c := [Value.int .i64 x111]) rfl rfl (ones_cons rfl ones_nil) rfl
     have S147 : St H0 w0 H36 w145 (.box b0 92 [v40, Value.int .i64 r33.2.at_, Value.int .u64 r33.2.seed] :: .row 3 1 v27 n28 cs151 :: L) := S147
     refine FL.act rfl rfl (E.store rfl rfl run146) ?_
     refine FL.nil (FW.seq (FW.region ?_))
     refine FL.v (E.move (v := v27) rfl) ?_
     refine FL.v (E.assign (v := v27) rfl) ?_
     refine FL.nil ?_
     refine FW.ret ?_
     obtain rfl := Option.some.inj hp
     exact ⟨.inr rfl, res1 rfl rfl ⟨_, _, _, _, _, rfl, ⟨(S147.selT (a := [.box b0 92 [v40, Value.int .i64 r33.2.at_, Value.int .u64 r33.2.seed], .row 3 1 v27 n28 cs151]) (l' := [.row 3 1 v27 n28 cs151, .box b0 92 [v40, Value.int .i64 r33.2.at_, Value.int .u64 r33.2.seed]]) [1, 0] (by decide) rfl), (i26.tr i39)⟩, els150, h41⟩⟩
    ·
     refine FW.condF rfl c104 ?_
     refine FW.skip (FW.seq (FW.region ?_))
     refine FL.v (E.move (v := v27) rfl) ?_
     refine FL.v (E.assign (v := v27) rfl) ?_
     refine FL.nil ?_
     refine FW.ret ?_
     obtain rfl := Option.some.inj hp
     exact ⟨.inr rfl, res1 rfl rfl ⟨_, _, _, _, _, rfl, ⟨(S38.selT (a := [.box b0 92 [v40, Value.int .i64 r33.2.at_, Value.int .u64 r33.2.seed], .row 3 1 v27 n28 cs29]) (l' := [.row 3 1 v27 n28 cs29, .box b0 92 [v40, Value.int .i64 r33.2.at_, Value.int .u64 r33.2.seed]]) [1, 0] (by decide) rfl), (i26.tr i39)⟩, (els30.mono (up_mono i39)), h41⟩⟩
   ·
    refine FW.condF rfl c103 ?_
    refine FW.skip (FW.seq (FW.region ?_))
    refine FL.v (E.move (v := v27) rfl) ?_
    refine FL.v (E.assign (v := v27) rfl) ?_
    refine FL.nil ?_
    refine FW.ret ?_
    obtain rfl := Option.some.inj hp
    exact ⟨.inr rfl, res1 rfl rfl ⟨_, _, _, _, _, rfl, ⟨(S38.selT (a := [.box b0 92 [v40, Value.int .i64 r33.2.at_, Value.int .u64 r33.2.seed], .row 3 1 v27 n28 cs29]) (l' := [.row 3 1 v27 n28 cs29, .box b0 92 [v40, Value.int .i64 r33.2.at_, Value.int .u64 r33.2.seed]]) [1, 0] (by decide) rfl), (i26.tr i39)⟩, (els30.mono (up_mono i39)), h41⟩⟩

@[reducible] def p_spec_l1Cur_cnf (H0 : GH) (w0 : World) (Ha : GH) (L : List MO) (b0 : Nat) (r : (Cnf × l1Cur)) : Ending → World → Prop :=
  fun e w' => ∃ H' : GH, ∃ v0_1 : Value, ∃ v0_0r : Value, e = .returned (Value.agg #[Value.int .i64 r.1.vars, v0_1]) ∧ (St H0 w0 H' w' (.box b0 92 [v0_0r, Value.int .i64 r.2.at_, Value.int .u64 r.2.seed] :: L) ∧ Inc Ha H') ∧ RSl (up w0.heap.size H') (eL eI 1) 1 v0_1 r.1.clauses ∧ RSl H' (eN .u8) 1 v0_0r r.2.code
set_option maxHeartbeats 4000000 in
theorem w_spec_l1Cur_cnf {H0 Ha : GH} {w0 wa : World} {L : List MO} {a0 : l1Cur} {b0 : Nat} {v0_0 : Value} (S0 : St H0 w0 Ha wa (.box b0 92 [v0_0, Value.int .i64 a0.at_, Value.int .u64 a0.seed] :: L)) (p0_0 : RSl Ha (eN .u8) 1 v0_0 a0.code) {r : (Cnf × l1Cur)} (hp : (PF.spec_l1Cur_cnf a0) = some r) :
    Calls Tryz.prog 67 #[Value.pointer (some (⟨b0, 0, none⟩ : Addr))] wa (p_spec_l1Cur_cnf H0 w0 Ha L b0 r) := by
  unfold PF.spec_l1Cur_cnf at hp
  refine calls_go (N := 76) (args := [Value.pointer (some (⟨b0, 0, none⟩ : Addr))]) Tryz.func67 rfl rfl rfl ?_
  refine FW.seq (FW.region ?_)
  obtain ⟨b21, w22, run23, S24⟩ := S0.alloc (P := Tryz.prog) 26 [Value.int .i64 0, Value.slice none 0 0] Tryz.zeroValue26 rfl (ones_cons rfl (ones_cons rfl ones_nil))
  refine FL.v (E.alloc run23) ?_
  refine FL.nil (FW.seq (FW.seq (FW.region ?_)))
  refine FL.v (E.move (v := Value.pointer (some (⟨b0, 0, none⟩ : Addr))) rfl) ?_
  obtain ⟨r25, hr26, hp⟩ := bnd hp
  have S27 : St H0 w0 Ha w22 (.box b0 92 [v0_0, Value.int .i64 a0.at_, Value.int .u64 a0.seed] :: .box b21 26 [Value.int .i64 0, Value.slice none 0 0] :: L) := S24.front 1 rfl rfl
  refine FL.call rfl rfl rfl (E.call Tryz.call68 (A2 rfl rfl)) (w_spec_l1Cur_one (L := (.box b21 26 [Value.int .i64 0, Value.slice none 0 0] :: L)) S27 (a0 := a0) p0_0 4 hr26) ?_
  rintro e w29 ⟨H28, v32, rfl, ⟨S30, i31⟩, h33⟩
  refine ⟨_, rfl, ?_⟩
  have S30 : St H0 w0 H28 w29 (.box b0 92 [v32, Value.int .i64 r25.2.at_, Value.int .u64 r25.2.seed] :: .box b21 26 [Value.int .i64 0, Value.slice none 0 0] :: L) := S30
  refine FL.nil ?_
  rcases ifB hp with ⟨c34, hp⟩ | ⟨c34, hp⟩
  ·
    refine FW.condT rfl c34 ?_
    refine FW.seq (FW.region ?_)
    refine FL.v (E.move (v := Value.pointer (some (⟨b0, 0, none⟩ : Addr))) rfl) ?_
    obtain ⟨r35, hr36, hp⟩ := bnd hp
    refine FL.call rfl rfl rfl (E.call Tryz.call132 (A1 rfl)) (w_spec_l1Cur_hard (L := (.box b21 26 [Value.int .i64 0, Value.slice none 0 0] :: L)) S30 (a0 := r25.2) h33 hr36) ?_
    rintro e w38 ⟨H37, v41, v43, rfl, ⟨S39, i40⟩, ⟨_, ⟨h42, _⟩⟩, h44⟩
    refine ⟨_, rfl, ?_⟩
    have S39 : St H0 w0 H37 w38 (.box b0 92 [v43, Value.int .i64 r35.2.at_, Value.int .u64 r35.2.seed] :: .box b21 26 [Value.int .i64 0, Value.slice none 0 0] :: L) := S39
    obtain ⟨w45, run46, S47⟩ := S39.store0 (P := Tryz.prog) (t := 26) (i := 1) (cs' := [Value.int .i64 r35.1.vars, v41]) (l' := (.box b0 92 [v43, Value.int .i64 r35.2.at_, Value.int .u64 r35.2.seed] :: .box b21 26 [Value.int .i64 r35.1.vars, v41] :: L)) (v := Value.agg #[Value.int .i64 r35.1.vars, v41]) (c := [Value.int .i64 r35.1.vars, v41]) rfl Tryz.sizeOf26 rfl rfl (ones_cons rfl (ones_cons h42.one ones_nil)) (Nat.le_of_ble_eq_true rfl) rfl rfl
    refine FL.act rfl rfl (E.store rfl rfl run46) ?_
    refine FL.nil ?_
    refine FW.ret ?_
    obtain rfl := Option.some.inj hp
    exact ⟨.inr rfl, resC rfl rfl (loadVar_A Tryz.isAgg26 Tryz.sizeOf26 (S47.box_now (i := 1) rfl) rfl) ⟨_, _, _, rfl, ⟨(S47.selT (a := [.box b0 92 [v43, Value.int .i64 r35.2.at_, Value.int .u64 r35.2.seed], .box b21 26 [Value.int .i64 r35.1.vars, v41]]) (l' := [.box b0 92 [v43, Value.int .i64 r35.2.at_, Value.int .u64 r35.2.seed]]) [0] (by decide) rfl), (i31.tr i40)⟩, h42, h44⟩⟩
  ·
    refine FW.condF rfl c34 ?_
    refine FW.skip (FW.seq (FW.region ?_))
    refine FL.v (E.move (v := Value.pointer (some (⟨b0, 0, none⟩ : Addr))) rfl) ?_
    obtain ⟨v48, w49, run50, S51⟩ := S30.buildSlice (P := Tryz.prog) te34 [Value.int .i64 2, Value.int .i64 3, Value.int .i64 3, Value.int .i64 4, Value.int .i64 5] (parts := #[(0, Value.int .i64 2), (1, Value.int .i64 3), (2, Value.int .i64 3), (3, Value.int .i64 4), (4, Value.int .i64 5)]) (cells := [Value.int .i64 2, Value.int .i64 3, Value.int .i64 3, Value.int .i64 4, Value.int .i64 5]) rfl (szs_cons rfl (szs_cons rfl (szs_cons rfl (szs_cons rfl (szs_cons rfl szs_nil))))) (fc_cons rfl (fc_cons rfl (fc_cons rfl (fc_cons rfl (fc_cons rfl fc_nil))))) (ones_cons rfl (ones_cons rfl (ones_cons rfl (ones_cons rfl (ones_cons rfl ones_nil))))) (Nat.le_of_ble_eq_true rfl)
    have els52 : Els (up w0.heap.size H28) eI 1 [Value.int .i64 2, Value.int .i64 3, Value.int .i64 3, Value.int .i64 4, Value.int .i64 5] [2, 3, 3, 4, 5] := (Els.snoc (H := (up w0.heap.size H28)) (E := eI) (k := 1) (c := [Value.int .i64 5]) (x := 5) (Els.snoc (H := (up w0.heap.size H28)) (E := eI) (k := 1) (c := [Value.int .i64 4]) (x := 4) (Els.snoc (H := (up w0.heap.size H28)) (E := eI) (k := 1) (c := [Value.int .i64 3]) (x := 3) (Els.snoc (H := (up w0.heap.size H28)) (E := eI) (k := 1) (c := [Value.int .i64 3]) (x := 3) (Els.snoc (H := (up w0.heap.size H28)) (E := eI) (k := 1) (c := [Value.int .i64 2]) (x := 2) Els.nil rfl rfl) rfl rfl) rfl rfl) rfl rfl) rfl rfl)
    refine FL.v (E.buildSlice (B5 rfl rfl rfl rfl rfl) run50) ?_
    obtain ⟨H53, S54, i55, h56, nv57⟩ := S51.sealRowU (i := 0) (l' := (.box b0 92 [v32, Value.int .i64 r25.2.at_, Value.int .u64 r25.2.seed] :: .box b21 26 [Value.int .i64 0, Value.slice none 0 0] :: L)) rfl els52 (by decide) rfl
    obtain ⟨r58, hr59, hp⟩ := bnd hp
    refine FL.call rfl rfl rfl (E.call Tryz.call69 (A2 rfl rfl)) (w_spec_l1Cur_among (L := (.box b21 26 [Value.int .i64 0, Value.slice none 0 0] :: L)) S54 (a0 := r25.2) (h33.mono i55) v48 [2, 3, 3, 4, 5] (h56.mono upI) hr59) ?_
    rintro e w61 ⟨H60, v64, rfl, ⟨S62, i63⟩, h65⟩
    refine ⟨_, rfl, ?_⟩
    have S62 : St H0 w0 H60 w61 (.box b0 92 [v64, Value.int .i64 r58.2.at_, Value.int .u64 r58.2.seed] :: .box b21 26 [Value.int .i64 0, Value.slice none 0 0] :: L) := S62
    obtain ⟨v66, w67, run68, S69⟩ := S62.buildSlice (P := Tryz.prog) te24 [] (parts := #[]) (cells := []) rfl szs_nil fc_nil ones_nil (Nat.le_of_ble_eq_true rfl)
    have els70 : Els (up w0.heap.size H60) (eL eI 1) 1 [] [] := Els.nil
    refine FL.v (E.buildSlice (B0) run68) ?_
    refine FL.v (E.build (B2 rfl rfl) (run_build _ 26 #[(0, Value.int .i64 r58.1), (1, v66)] #[Value.int .i64 r58.1, v66] (by obtain ⟨_, _, rfl⟩ := S69.row_ln (i := 0) rfl; rfl))) ?_
    obtain ⟨b71, w72, run73, S74⟩ := S69.alloc (P := Tryz.prog) 26 [Value.int .i64 0, Value.slice none 0 0] Tryz.zeroValue26 rfl (ones_cons rfl (ones_cons rfl ones_nil))
    refine FL.v (E.alloc run73) ?_
    obtain ⟨w75, run76, S77⟩ := S74.store0 (P := Tryz.prog) (t := 26) (i := 0) (cs' := [Value.int .i64 r58.1, v66]) (l' := (.box b71 26 [Value.int .i64 r58.1, v66] :: .row 34 1 v66 0 [] :: .box b0 92 [v64, Value.int .i64 r58.2.at_, Value.int .u64 r58.2.seed] :: .box b21 26 [Value.int .i64 0, Value.slice none 0 0] :: L)) (v := Value.agg #[Value.int .i64 r58.1, v66]) (c := [Value.int .i64 r58.1, v66]) rfl Tryz.sizeOf26 rfl rfl (ones_cons rfl (ones_cons (Ln.one (S74.row_ln (i := 1) rfl)) ones_nil)) (Nat.le_of_ble_eq_true rfl) rfl rfl
    refine FL.act rfl rfl (E.store rfl rfl run76) ?_
    refine FL.nil (FW.seq (FW.seq (FW.region ?_)))
    refine FL.v (E.move (v := Value.pointer (some (⟨b0, 0, none⟩ : Addr))) rfl) ?_
    obtain ⟨r78, hr79, hp⟩ := bnd hp
    have S80 : St H0 w0 H60 w75 (.box b0 92 [v64, Value.int .i64 r58.2.at_, Value.int .u64 r58.2.seed] :: .box b71 26 [Value.int .i64 r58.1, v66] :: .row 34 1 v66 0 [] :: .box b21 26 [Value.int .i64 0, Value.slice none 0 0] :: L) := S77.front 2 rfl rfl
    refine FL.call rfl rfl rfl (E.call Tryz.call70 (A2 rfl rfl)) (w_spec_l1Cur_pick (L := (.box b71 26 [Value.int .i64 r58.1, v66] :: .row 34 1 v66 0 [] :: .box b21 26 [Value.int .i64 0, Value.slice none 0 0] :: L)) S80 (a0 := r58.2) h65 10 hr79) ?_
    rintro e w82 ⟨H81, v85, rfl, ⟨S83, i84⟩, h86⟩
    refine ⟨_, rfl, ?_⟩
    have S83 : St H0 w0 H81 w82 (.box b0 92 [v85, Value.int .i64 r78.2.at_, Value.int .u64 r78.2.seed] :: .box b71 26 [Value.int .i64 r58.1, v66] :: .row 34 1 v66 0 [] :: .box b21 26 [Value.int .i64 0, Value.slice none 0 0] :: L) := S83
    refine FL.v (E.assign (v := Value.int .i64 r78.1) rfl) ?_
    refine FL.nil ?_
    obtain ⟨q87, hq, hp⟩ := bndR hp
    refine FW.block ?_
    refine FW.mono (FW.iter (S := ((List (List Int)) × (List Int) × Int × Int × Int × Int)) (X := Empty) (fun (s87 : ((List (List Int)) × (List Int) × Int × Int × Int × Int)) f w => ∃ H : GH, ∃ v88 : Value, ∃ n89 : Nat, ∃ cs90 : List Value, ∃ v93 : Value, St H0 w0 H w (.box b0 92 [v93, Value.int .i64 s87.2.2.1, Value.int .u64 s87.2.2.2.1] :: .box b71 26 [Value.int .i64 s87.2.2.2.2.1, v88] :: .row 34 1 v88 n89 cs90 :: .box b21 26 [Value.int .i64 0, Value.slice none 0 0] :: L) ∧ Inc H81 H ∧ Els (up w0.heap.size H) (eL eI 1) 1 cs90 s87.1 ∧ RSl H (eN .u8) 1 v93 s87.2.1 ∧ (bl cs90).Nodup ∧ f 0 = Value.pointer (some (⟨b0, 0, none⟩ : Addr)) ∧ f 2 = Value.pointer (some (⟨b21, 0, none⟩ : Addr)) ∧ f 3 = Value.pointer (some (⟨b71, 0, none⟩ : Addr)) ∧ f 4 = Value.int .i64 s87.2.2.2.2.2) (fun (q : Rs ((List (List Int)) × (List Int) × Int × Int × Int × Int) Empty) e f w => match q with | .go s87 => e = Exit.exit 0 ∧ (∃ H : GH, ∃ v88 : Value, ∃ n89 : Nat, ∃ cs90 : List Value, ∃ v93 : Value, St H0 w0 H w (.box b0 92 [v93, Value.int .i64 s87.2.2.1, Value.int .u64 s87.2.2.2.1] :: .box b71 26 [Value.int .i64 s87.2.2.2.2.1, v88] :: .row 34 1 v88 n89 cs90 :: .box b21 26 [Value.int .i64 0, Value.slice none 0 0] :: L) ∧ Inc H81 H ∧ Els (up w0.heap.size H) (eL eI 1) 1 cs90 s87.1 ∧ RSl H (eN .u8) 1 v93 s87.2.1 ∧ (bl cs90).Nodup ∧ f 0 = Value.pointer (some (⟨b0, 0, none⟩ : Addr)) ∧ f 2 = Value.pointer (some (⟨b21, 0, none⟩ : Addr)) ∧ f 3 = Value.pointer (some (⟨b71, 0, none⟩ : Addr))) | .rt x => x.elim) hq ⟨_, _, _, _, _, S83, (Inc.rfl _), (els70.mono (up_mono i84)), h86, (show (bl []).Nodup from List.nodup_nil), rfl, rfl, rfl, rfl⟩ ?_) ?_
    ·
      clear hp hq
      rintro s87 f99 w98 ⟨H95, v88, n89, cs90, v93, S96, i97, els91, h94, nd92, k100, k101, k102, k103⟩ o162 hp
      refine FW.seq (FW.seq (FW.region ?_))
      refine FL.v (E.move k103) ?_
      refine FL.v (E.gtr rfl rfl) ?_
      refine FL.nil ?_
      rcases ifB hp with ⟨c104, hp⟩ | ⟨c104, hp⟩
      ·
        refine FW.condT rfl c104 ?_
        refine FW.skip (FW.seq (FW.block ?_))
        obtain ⟨r108, hr109, hp⟩ := bnd hp
        obtain ⟨xs131, hz132, hp⟩ := bnd hp
        refine FW.drawB (Sl H95) (fun f w => ∃ H : GH, ∃ v146 : Value, ∃ n147 : Nat, ∃ cs148 : List Value, ∃ v151 : Value, St H0 w0 H w (.box b0 92 [v151, Value.int .i64 r108.2.at_, Value.int .u64 r108.2.seed] :: .box b71 26 [Value.int .i64 s87.2.2.2.2.1, v146] :: .row 34 1 v146 n147 cs148 :: .box b21 26 [Value.int .i64 0, Value.slice none 0 0] :: L) ∧ Inc H95 H ∧ Els (up w0.heap.size H) (eL eI 1) 1 cs148 xs131 ∧ RSl H (eN .u8) 1 v151 r108.2.code ∧ (bl cs148).Nodup ∧ f 0 = Value.pointer (some (⟨b0, 0, none⟩ : Addr)) ∧ f 2 = Value.pointer (some (⟨b21, 0, none⟩ : Addr)) ∧ f 3 = Value.pointer (some (⟨b71, 0, none⟩ : Addr)) ∧ f 4 = Value.int .i64 s87.2.2.2.2.2) (by kernel_rfl) S96.sl ?_ ?_
        ·
          intro w105 r106
          have S107 := S96.call r106
          refine FB.phase [] (fun w => WAt w (Addr.add ⟨b71, 0, none⟩ 0) [Value.int .i64 s87.2.2.2.2.1]) ?_
          refine FB.phase [9] (fun w => WAt w (Addr.add ⟨b71, 0, none⟩ 1) [v88]) ?_
          refine FB.t (i := 0) (bs 10 1) rfl (SP.on ((S107.box_now (i := 1) rfl).sub (j := 1) (n := 1) (c := [v88]) rfl) (SP.on ((S107.box_now (i := 1) rfl).sub (j := 0) (n := 1) (c := [Value.int .i64 s87.2.2.2.2.1]) rfl) (SP.nil S107.sl))) rfl (fun w' hw' => (E.fieldAddr tf26_1 k102)) ?_
          refine FB.p (i := 1) (bs 10 3) 0 [7, 8, 9] rfl (SP.on ((S107.box_now (i := 1) rfl).sub (j := 1) (n := 1) (c := [v88]) rfl) (SP.on ((S107.box_now (i := 1) rfl).sub (j := 0) (n := 1) (c := [Value.int .i64 s87.2.2.2.2.1]) rfl) (SP.nil S107.sl))) rfl rfl (fun w' hw' => (E.load rfl (run_load0 Tryz.isAgg24 hw' rfl))) ?_
          refine FB.t (i := 2) (bs 10 7) rfl (SP.on ((S107.box_now (i := 1) rfl).sub (j := 1) (n := 1) (c := [v88]) rfl) (SP.on ((S107.box_now (i := 1) rfl).sub (j := 0) (n := 1) (c := [Value.int .i64 s87.2.2.2.2.1]) rfl) (SP.nil S107.sl))) rfl (fun w' hw' => (E.move k100)) ?_
          refine FB.t (i := 3) (bs 10 15) rfl (SP.on ((S107.box_now (i := 1) rfl).sub (j := 1) (n := 1) (c := [v88]) rfl) (SP.on ((S107.box_now (i := 1) rfl).sub (j := 0) (n := 1) (c := [Value.int .i64 s87.2.2.2.2.1]) rfl) (SP.nil S107.sl))) rfl (fun w' hw' => (E.fieldAddr tf26_0 k102)) ?_
          refine FB.p (i := 4) (bs 10 31) 1 [5, 6, 7, 8, 9] rfl (SP.on ((S107.box_now (i := 1) rfl).sub (j := 1) (n := 1) (c := [v88]) rfl) (SP.on ((S107.box_now (i := 1) rfl).sub (j := 0) (n := 1) (c := [Value.int .i64 s87.2.2.2.2.1]) rfl) (SP.nil S107.sl))) rfl rfl (fun w' hw' => (E.load rfl (run_load0 Tryz.isAgg3 hw' rfl))) ?_
          refine FB.all1 (i := 5) (by kernel_rfl) ?_
          ·
            refine FC.call (l' := (bs 10 63)) rfl (by kernel_rfl) rfl rfl rfl (E.call Tryz.call166 (A2 rfl rfl)) (w_spec_l1Cur_clause (L := (.box b71 26 [Value.int .i64 s87.2.2.2.2.1, v88] :: .row 34 1 v88 n89 cs90 :: .box b21 26 [Value.int .i64 0, Value.slice none 0 0] :: L)) S107 (a0 := (l1Cur.mk s87.2.1 s87.2.2.1 s87.2.2.2.1)) h94 s87.2.2.2.2.1 hr109) ?_
            rintro e w111 ⟨H110, v114, n115, cs116, v118, rfl, ⟨S112, i113⟩, els117, h119⟩
            refine ⟨_, rfl, ?_⟩
            have S112 : St H0 w0 H110 w111 (.row 3 1 v114 n115 cs116 :: .box b0 92 [v118, Value.int .i64 r108.2.at_, Value.int .u64 r108.2.seed] :: .box b71 26 [Value.int .i64 s87.2.2.2.2.1, v88] :: .row 34 1 v88 n89 cs90 :: .box b21 26 [Value.int .i64 0, Value.slice none 0 0] :: L) := S112
            refine ⟨(SP.on ((S112.box_now (i := 2) rfl).sub (j := 1) (n := 1) (c := [v88]) rfl) (SP.on ((S112.box_now (i := 2) rfl).sub (j := 0) (n := 1) (c := [Value.int .i64 s87.2.2.2.2.1]) rfl) (SP.nil (Sl.of_inc i113 S112.sl)))), ?_⟩
            refine FB.all1 (i := 6) (by kernel_rfl) ?_
            ·
              obtain ⟨H120, S121, i122, h123, nv124⟩ := S112.sealRowU (i := 0) (l' := (.box b0 92 [v118, Value.int .i64 r108.2.at_, Value.int .u64 r108.2.seed] :: .box b71 26 [Value.int .i64 s87.2.2.2.2.1, v88] :: .row 34 1 v88 n89 cs90 :: .box b21 26 [Value.int .i64 0, Value.slice none 0 0] :: L)) rfl els117 (by decide) rfl
              obtain ⟨v125, w126, run127, S128⟩ := S121.buildSlice (P := Tryz.prog) te24 [v114] (parts := #[(0, v114)]) (cells := [v114]) rfl (szs_cons (cells_size h123.cells) szs_nil) (fc_cons h123.cells fc_nil) (ones_cons h123.one ones_nil) (Nat.le_of_ble_eq_true rfl)
              have els129 : Els (up w0.heap.size H120) (eL eI 1) 1 [v114] [r108.1] := (Els.snoc (H := (up w0.heap.size H120)) (E := (eL eI 1)) (k := 1) (c := [v114]) (x := r108.1) Els.nil rfl ⟨_, rfl, h123⟩)
              have nd130 : (bl [v114]).Nodup := by exact nd_one v114
              refine FC.val (l' := (bs 10 127)) rfl (by kernel_rfl) rfl rfl rfl (E.buildSlice (B1 rfl) run127) ?_
              refine ⟨(SP.on ((S128.box_now (i := 2) rfl).sub (j := 1) (n := 1) (c := [v88]) rfl) (SP.on ((S128.box_now (i := 2) rfl).sub (j := 0) (n := 1) (c := [Value.int .i64 s87.2.2.2.2.1]) rfl) (SP.nil (Sl.of_inc (i113.tr i122) S128.sl)))), ?_⟩
              refine FB.all1 (i := 7) (by kernel_rfl) ?_
              ·
                obtain ⟨v133, w136, n134, cs135, run137, S138, els139, ce140⟩ := S128.appendO (P := Tryz.prog) te24 (i := 3) (j := 0) rfl (els91.mono (up_mono (i113.tr i122))) rfl els129 hz132
                have S138 : St H0 w0 H120 w136 (.row 34 1 v125 1 [v114] :: .box b0 92 [v118, Value.int .i64 r108.2.at_, Value.int .u64 r108.2.seed] :: .box b71 26 [Value.int .i64 s87.2.2.2.2.1, v88] :: .row 34 1 v133 n134 cs135 :: .box b21 26 [Value.int .i64 0, Value.slice none 0 0] :: L) := S138
                have nd141 : (bl cs135).Nodup := by rw [ce140]; exact nd_app nd92 nd130 (Els.dom (els91.mono (upI.tr i113))) (by exact nv124)
                have S142 : St H0 w0 H120 w136 (.box b0 92 [v118, Value.int .i64 r108.2.at_, Value.int .u64 r108.2.seed] :: .box b71 26 [Value.int .i64 s87.2.2.2.2.1, v88] :: .row 34 1 v133 n134 cs135 :: .box b21 26 [Value.int .i64 0, Value.slice none 0 0] :: L) := S138.drop 0
                refine FC.val (l' := (bs 10 255)) rfl (by kernel_rfl) rfl rfl rfl (E.append rfl rfl run137) ?_
                refine ⟨(SP.on ((S142.box_now (i := 1) rfl).sub (j := 1) (n := 1) (c := [v88]) rfl) (SP.on ((S142.box_now (i := 1) rfl).sub (j := 0) (n := 1) (c := [Value.int .i64 s87.2.2.2.2.1]) rfl) (SP.nil (Sl.of_inc (i113.tr i122) S142.sl)))), ?_⟩
                refine FB.t (i := 8) (bs 10 511) rfl (SP.on ((S142.box_now (i := 1) rfl).sub (j := 1) (n := 1) (c := [v88]) rfl) (SP.on ((S142.box_now (i := 1) rfl).sub (j := 0) (n := 1) (c := [Value.int .i64 s87.2.2.2.2.1]) rfl) (SP.nil (Sl.of_inc (i113.tr i122) S142.sl)))) rfl (fun w' hw' => (E.fieldAddr tf26_1 k102)) ?_
                refine FB.all1 (i := 9) (by kernel_rfl) ?_
                ·
                  obtain ⟨w143, run144, S145⟩ := S142.store (P := Tryz.prog) (t := 24) (i := 1) (j := 1) (cs' := [Value.int .i64 s87.2.2.2.2.1, v133]) (l' := (.box b0 92 [v118, Value.int .i64 r108.2.at_, Value.int .u64 r108.2.seed] :: .box b71 26 [Value.int .i64 s87.2.2.2.2.1, v133] :: .row 34 1 v133 n134 cs135 :: .box b21 26 [Value.int .i64 0, Value.slice none 0 0] :: L)) (v := v133) (c := [v133]) rfl Tryz.sizeOf24 (Ln.cells (S142.row_ln (i := 2) rfl)) rfl (ones_cons (Ln.one (S142.row_ln (i := 2) rfl)) ones_nil) (Nat.le_of_ble_eq_true rfl) rfl rfl
                  refine FC.act (l' := (bs 10 1023)) rfl (by kernel_rfl) rfl rfl (E.store rfl rfl run144) ?_
                  refine ⟨(SP.o (SP.on ((S145.box_now (i := 1) rfl).sub (j := 0) (n := 1) (c := [Value.int .i64 s87.2.2.2.2.1]) rfl) (SP.nil (Sl.of_inc (i113.tr i122) S145.sl)))), ?_⟩
                  exact FB.done (by kernel_rfl) ⟨_, _, _, _, _, S145, (i113.tr i122), els139, (h119.mono i122), nd141, k100, k101, k102, k103⟩
        ·
          rintro f157 w156 ⟨H153, v146, n147, cs148, v151, S154, i155, els149, h152, nd150, k158, k159, k160, k161⟩
          refine FW.region ?_
          refine FL.v (E.move k161) ?_
          refine FL.v (E.sub rfl rfl) ?_
          refine FL.v (E.assign (v := Value.int .i64 (wr (s87.2.2.2.2.2 - 1))) rfl) ?_
          refine FL.nil ?_
          obtain rfl := Option.some.inj hp
          exact ⟨rfl, ⟨_, _, _, _, _, S154, (i97.tr i155), els149, h152, nd150, k158, k159, k160, rfl⟩⟩
      ·
        refine FW.condF rfl c104 ?_
        refine FW.exit ?_
        obtain rfl := Option.some.inj hp
        exact ⟨nofun, rfl, ⟨_, _, _, _, _, S96, i97, els91, h94, nd92, k100, k101, k102⟩⟩
    ·
      clear hq
      intro e f167 w166 hD
      rcases q87 with s87 | x87
      ·
        obtain ⟨rfl, hD⟩ := hD
        obtain ⟨H163, v88, n89, cs90, v93, S164, i165, els91, h94, nd92, k168, k169, k170⟩ := hD
        replace hp := el_go hp
        refine FW.seq (FW.seq (FW.region ?_))
        refine FL.v (E.move k168) ?_
        obtain ⟨r171, hr172, hp⟩ := bnd hp
        refine FL.call rfl rfl rfl (E.call Tryz.call70 (A2 rfl rfl)) (w_spec_l1Cur_pick (L := (.box b71 26 [Value.int .i64 s87.2.2.2.2.1, v88] :: .row 34 1 v88 n89 cs90 :: .box b21 26 [Value.int .i64 0, Value.slice none 0 0] :: L)) S164 (a0 := (l1Cur.mk s87.2.1 s87.2.2.1 s87.2.2.2.1)) h94 40 hr172) ?_
        rintro e w174 ⟨H173, v177, rfl, ⟨S175, i176⟩, h178⟩
        refine ⟨_, rfl, ?_⟩
        have S175 : St H0 w0 H173 w174 (.box b0 92 [v177, Value.int .i64 r171.2.at_, Value.int .u64 r171.2.seed] :: .box b71 26 [Value.int .i64 s87.2.2.2.2.1, v88] :: .row 34 1 v88 n89 cs90 :: .box b21 26 [Value.int .i64 0, Value.slice none 0 0] :: L) := S175
        refine FL.nil (FW.block (FW.seq (FW.region ?_)))
        refine FL.v (E.eql rfl rfl) ?_
        refine FL.v (E.assign (v := Value.bool (r171.1 == 0)) rfl) ?_
        refine FL.nil ?_
        rcases ifB hp with ⟨c179, hp⟩ | ⟨c179, hp⟩
        ·
          refine FW.condT rfl c179 ?_
          refine FW.region ?_
          refine FL.v (E.move k168) ?_
          obtain ⟨v180, w181, run182, S183⟩ := S175.buildSlice (P := Tryz.prog) te34 [Value.int .i64 (-1), Value.int .i64 13, Value.int .i64 12, Value.int .i64 0, Value.int .i64 1] (parts := #[(0, Value.int .i64 (-1)), (1, Value.int .i64 13), (2, Value.int .i64 12), (3, Value.int .i64 0), (4, Value.int .i64 1)]) (cells := [Value.int .i64 (-1), Value.int .i64 13, Value.int .i64 12, Value.int .i64 0, Value.int .i64 1]) rfl (szs_cons rfl (szs_cons rfl (szs_cons rfl (szs_cons rfl (szs_cons rfl szs_nil))))) (fc_cons rfl (fc_cons rfl (fc_cons rfl (fc_cons rfl (fc_cons rfl fc_nil))))) (ones_cons rfl (ones_cons rfl (ones_cons rfl (ones_cons rfl (ones_cons rfl ones_nil))))) (Nat.le_of_ble_eq_true rfl)
          have els184 : Els (up w0.heap.size H173) eI 1 [Value.int .i64 (-1), Value.int .i64 13, Value.int .i64 12, Value.int .i64 0, Value.int .i64 1] [(-1), 13, 12, 0, 1] := (Els.snoc (H := (up w0.heap.size H173)) (E := eI) (k := 1) (c := [Value.int .i64 1]) (x := 1) (Els.snoc (H := (up w0.heap.size H173)) (E := eI) (k := 1) (c := [Value.int .i64 0]) (x := 0) (Els.snoc (H := (up w0.heap.size H173)) (E := eI) (k := 1) (c := [Value.int .i64 12]) (x := 12) (Els.snoc (H := (up w0.heap.size H173)) (E := eI) (k := 1) (c := [Value.int .i64 13]) (x := 13) (Els.snoc (H := (up w0.heap.size H173)) (E := eI) (k := 1) (c := [Value.int .i64 (-1)]) (x := (-1)) Els.nil rfl rfl) rfl rfl) rfl rfl) rfl rfl) rfl rfl)
          refine FL.v (E.buildSlice (B5 rfl rfl rfl rfl rfl) run182) ?_
          obtain ⟨H185, S186, i187, h188, nv189⟩ := S183.sealRowU (i := 0) (l' := (.box b0 92 [v177, Value.int .i64 r171.2.at_, Value.int .u64 r171.2.seed] :: .box b71 26 [Value.int .i64 s87.2.2.2.2.1, v88] :: .row 34 1 v88 n89 cs90 :: .box b21 26 [Value.int .i64 0, Value.slice none 0 0] :: L)) rfl els184 (by decide) rfl
          obtain ⟨r190, hr191, hp⟩ := bnd hp
          refine FL.call rfl rfl rfl (E.call Tryz.call69 (A2 rfl rfl)) (w_spec_l1Cur_among (L := (.box b71 26 [Value.int .i64 s87.2.2.2.2.1, v88] :: .row 34 1 v88 n89 cs90 :: .box b21 26 [Value.int .i64 0, Value.slice none 0 0] :: L)) S186 (a0 := r171.2) (h178.mono i187) v180 [(-1), 13, 12, 0, 1] (h188.mono upI) hr191) ?_
          rintro e w193 ⟨H192, v196, rfl, ⟨S194, i195⟩, h197⟩
          refine ⟨_, rfl, ?_⟩
          have S194 : St H0 w0 H192 w193 (.box b0 92 [v196, Value.int .i64 r190.2.at_, Value.int .u64 r190.2.seed] :: .box b71 26 [Value.int .i64 s87.2.2.2.2.1, v88] :: .row 34 1 v88 n89 cs90 :: .box b21 26 [Value.int .i64 0, Value.slice none 0 0] :: L) := S194
          refine FL.v (E.fieldAddr tf26_0 k170) ?_
          obtain ⟨w198, run199, S200⟩ := S194.store (P := Tryz.prog) (t := 3) (i := 1) (j := 0) (cs' := [Value.int .i64 r190.1, v88]) (l' := (.box b0 92 [v196, Value.int .i64 r190.2.at_, Value.int .u64 r190.2.seed] :: .box b71 26 [Value.int .i64 r190.1, v88] :: .row 34 1 v88 n89 cs90 :: .box b21 26 [Value.int .i64 0, Value.slice none 0 0] :: L)) (v := Value.int .i64 r190.1) (c := [Value.int .i64 r190.1]) rfl Tryz.sizeOf3 rfl rfl (ones_cons rfl ones_nil) (Nat.le_of_ble_eq_true rfl) rfl rfl
          refine FL.act rfl rfl (E.store rfl rfl run199) ?_
          refine FL.nil (FW.seq (FW.region ?_))
          refine FL.v (E.load k170 (run_loadA Tryz.isAgg26 Tryz.sizeOf26 (S200.box_now (i := 1) rfl) rfl)) ?_
          obtain ⟨w201, run202, S203⟩ := S200.store0 (P := Tryz.prog) (t := 26) (i := 3) (cs' := [Value.int .i64 r190.1, v88]) (l' := (.box b0 92 [v196, Value.int .i64 r190.2.at_, Value.int .u64 r190.2.seed] :: .box b71 26 [Value.int .i64 r190.1, v88] :: .row 34 1 v88 n89 cs90 :: .box b21 26 [Value.int .i64 r190.1, v88] :: L)) (v := Value.agg #[Value.int .i64 r190.1, v88]) (c := [Value.int .i64 r190.1, v88]) rfl Tryz.sizeOf26 rfl rfl (ones_cons rfl (ones_cons (Ln.one (S200.row_ln (i := 2) rfl)) ones_nil)) (Nat.le_of_ble_eq_true rfl) rfl rfl
          refine FL.act rfl rfl (E.store k169 rfl run202) ?_
          refine FL.nil ?_
          refine FW.ret ?_
          obtain ⟨H204, S205, i206, ns209, nv208⟩ := S203.sealRowN (i := 2) (l' := (.box b0 92 [v196, Value.int .i64 r190.2.at_, Value.int .u64 r190.2.seed] :: .box b71 26 [Value.int .i64 r190.1, v88] :: .box b21 26 [Value.int .i64 r190.1, v88] :: L)) rfl (els91.mono (up_mono ((i176.tr i187).tr i195))) nd92 (by decide) rfl
          have h207 := ns209.rsl
          obtain rfl := Option.some.inj hp
          exact ⟨.inr rfl, resC rfl k169 (loadVar_A Tryz.isAgg26 Tryz.sizeOf26 (S205.box_now (i := 2) rfl) rfl) ⟨_, _, _, rfl, ⟨(S205.selT (a := [.box b0 92 [v196, Value.int .i64 r190.2.at_, Value.int .u64 r190.2.seed], .box b71 26 [Value.int .i64 r190.1, v88], .box b21 26 [Value.int .i64 r190.1, v88]]) (l' := [.box b0 92 [v196, Value.int .i64 r190.2.at_, Value.int .u64 r190.2.seed]]) [0] (by decide) rfl), ((((((((i31.tr i55).tr i63).tr i84).tr i165).tr i176).tr i187).tr i195).tr i206)⟩, h207, (h197.mono i206)⟩⟩
        ·
          refine FW.condF rfl c179 ?_
          refine FW.seq (FW.region ?_)
          refine FL.v (E.eql rfl rfl) ?_
          refine FL.v (E.assign (v := Value.bool (r171.1 == 1)) rfl) ?_
          refine FL.nil ?_
          rcases ifB hp with ⟨c210, hp⟩ | ⟨c210, hp⟩
          ·
            refine FW.condT rfl c210 ?_
            obtain ⟨r214, hr215, hp⟩ := bnd hp
            obtain ⟨xs237, hz238, hp⟩ := bnd hp
            refine FW.drawB (Sl H173) (fun f w => ∃ H : GH, ∃ v252 : Value, ∃ n253 : Nat, ∃ cs254 : List Value, ∃ v257 : Value, St H0 w0 H w (.box b0 92 [v257, Value.int .i64 r214.2.at_, Value.int .u64 r214.2.seed] :: .box b71 26 [Value.int .i64 s87.2.2.2.2.1, v252] :: .row 34 1 v252 n253 cs254 :: .box b21 26 [Value.int .i64 0, Value.slice none 0 0] :: L) ∧ Inc H173 H ∧ Els (up w0.heap.size H) (eL eI 1) 1 cs254 xs237 ∧ RSl H (eN .u8) 1 v257 r214.2.code ∧ (bl cs254).Nodup ∧ f 2 = Value.pointer (some (⟨b21, 0, none⟩ : Addr)) ∧ f 3 = Value.pointer (some (⟨b71, 0, none⟩ : Addr))) (by kernel_rfl) S175.sl ?_ ?_
            ·
              intro w211 r212
              have S213 := S175.call r212
              refine FB.phase [] (fun w => WAt w (Addr.add ⟨b71, 0, none⟩ 0) [Value.int .i64 s87.2.2.2.2.1]) ?_
              refine FB.phase [9] (fun w => WAt w (Addr.add ⟨b71, 0, none⟩ 1) [v88]) ?_
              refine FB.t (i := 0) (bs 10 1) rfl (SP.on ((S213.box_now (i := 1) rfl).sub (j := 1) (n := 1) (c := [v88]) rfl) (SP.on ((S213.box_now (i := 1) rfl).sub (j := 0) (n := 1) (c := [Value.int .i64 s87.2.2.2.2.1]) rfl) (SP.nil S213.sl))) rfl (fun w' hw' => (E.fieldAddr tf26_1 k170)) ?_
              refine FB.p (i := 1) (bs 10 3) 0 [7, 8, 9] rfl (SP.on ((S213.box_now (i := 1) rfl).sub (j := 1) (n := 1) (c := [v88]) rfl) (SP.on ((S213.box_now (i := 1) rfl).sub (j := 0) (n := 1) (c := [Value.int .i64 s87.2.2.2.2.1]) rfl) (SP.nil S213.sl))) rfl rfl (fun w' hw' => (E.load rfl (run_load0 Tryz.isAgg24 hw' rfl))) ?_
              refine FB.t (i := 2) (bs 10 7) rfl (SP.on ((S213.box_now (i := 1) rfl).sub (j := 1) (n := 1) (c := [v88]) rfl) (SP.on ((S213.box_now (i := 1) rfl).sub (j := 0) (n := 1) (c := [Value.int .i64 s87.2.2.2.2.1]) rfl) (SP.nil S213.sl))) rfl (fun w' hw' => (E.move k168)) ?_
              refine FB.t (i := 3) (bs 10 15) rfl (SP.on ((S213.box_now (i := 1) rfl).sub (j := 1) (n := 1) (c := [v88]) rfl) (SP.on ((S213.box_now (i := 1) rfl).sub (j := 0) (n := 1) (c := [Value.int .i64 s87.2.2.2.2.1]) rfl) (SP.nil S213.sl))) rfl (fun w' hw' => (E.fieldAddr tf26_0 k170)) ?_
              refine FB.p (i := 4) (bs 10 31) 1 [5, 6, 7, 8, 9] rfl (SP.on ((S213.box_now (i := 1) rfl).sub (j := 1) (n := 1) (c := [v88]) rfl) (SP.on ((S213.box_now (i := 1) rfl).sub (j := 0) (n := 1) (c := [Value.int .i64 s87.2.2.2.2.1]) rfl) (SP.nil S213.sl))) rfl rfl (fun w' hw' => (E.load rfl (run_load0 Tryz.isAgg3 hw' rfl))) ?_
              refine FB.all1 (i := 5) (by kernel_rfl) ?_
              ·
                refine FC.call (l' := (bs 10 63)) rfl (by kernel_rfl) rfl rfl rfl (E.call Tryz.call167 (A2 rfl rfl)) (w_spec_l1Cur_anyClause (L := (.box b71 26 [Value.int .i64 s87.2.2.2.2.1, v88] :: .row 34 1 v88 n89 cs90 :: .box b21 26 [Value.int .i64 0, Value.slice none 0 0] :: L)) S213 (a0 := r171.2) h178 s87.2.2.2.2.1 hr215) ?_
                rintro e w217 ⟨H216, v220, n221, cs222, v224, rfl, ⟨S218, i219⟩, els223, h225⟩
                refine ⟨_, rfl, ?_⟩
                have S218 : St H0 w0 H216 w217 (.row 3 1 v220 n221 cs222 :: .box b0 92 [v224, Value.int .i64 r214.2.at_, Value.int .u64 r214.2.seed] :: .box b71 26 [Value.int .i64 s87.2.2.2.2.1, v88] :: .row 34 1 v88 n89 cs90 :: .box b21 26 [Value.int .i64 0, Value.slice none 0 0] :: L) := S218
                refine ⟨(SP.on ((S218.box_now (i := 2) rfl).sub (j := 1) (n := 1) (c := [v88]) rfl) (SP.on ((S218.box_now (i := 2) rfl).sub (j := 0) (n := 1) (c := [Value.int .i64 s87.2.2.2.2.1]) rfl) (SP.nil (Sl.of_inc i219 S218.sl)))), ?_⟩
                refine FB.all1 (i := 6) (by kernel_rfl) ?_
                ·
                  obtain ⟨H226, S227, i228, h229, nv230⟩ := S218.sealRowU (i := 0) (l' := (.box b0 92 [v224, Value.int .i64 r214.2.at_, Value.int .u64 r214.2.seed] :: .box b71 26 [Value.int .i64 s87.2.2.2.2.1, v88] :: .row 34 1 v88 n89 cs90 :: .box b21 26 [Value.int .i64 0, Value.slice none 0 0] :: L)) rfl els223 (by decide) rfl
                  obtain ⟨v231, w232, run233, S234⟩ := S227.buildSlice (P := Tryz.prog) te24 [v220] (parts := #[(0, v220)]) (cells := [v220]) rfl (szs_cons (cells_size h229.cells) szs_nil) (fc_cons h229.cells fc_nil) (ones_cons h229.one ones_nil) (Nat.le_of_ble_eq_true rfl)
                  have els235 : Els (up w0.heap.size H226) (eL eI 1) 1 [v220] [r214.1] := (Els.snoc (H := (up w0.heap.size H226)) (E := (eL eI 1)) (k := 1) (c := [v220]) (x := r214.1) Els.nil rfl ⟨_, rfl, h229⟩)
                  have nd236 : (bl [v220]).Nodup := by exact nd_one v220
                  refine FC.val (l' := (bs 10 127)) rfl (by kernel_rfl) rfl rfl rfl (E.buildSlice (B1 rfl) run233) ?_
                  refine ⟨(SP.on ((S234.box_now (i := 2) rfl).sub (j := 1) (n := 1) (c := [v88]) rfl) (SP.on ((S234.box_now (i := 2) rfl).sub (j := 0) (n := 1) (c := [Value.int .i64 s87.2.2.2.2.1]) rfl) (SP.nil (Sl.of_inc (i219.tr i228) S234.sl)))), ?_⟩
                  refine FB.all1 (i := 7) (by kernel_rfl) ?_
                  ·
                    obtain ⟨v239, w242, n240, cs241, run243, S244, els245, ce246⟩ := S234.appendO (P := Tryz.prog) te24 (i := 3) (j := 0) rfl (els91.mono (up_mono ((i176.tr i219).tr i228))) rfl els235 hz238
                    have S244 : St H0 w0 H226 w242 (.row 34 1 v231 1 [v220] :: .box b0 92 [v224, Value.int .i64 r214.2.at_, Value.int .u64 r214.2.seed] :: .box b71 26 [Value.int .i64 s87.2.2.2.2.1, v88] :: .row 34 1 v239 n240 cs241 :: .box b21 26 [Value.int .i64 0, Value.slice none 0 0] :: L) := S244
                    have nd247 : (bl cs241).Nodup := by rw [ce246]; exact nd_app nd92 nd236 (Els.dom (els91.mono (upI.tr (i176.tr i219)))) (by exact nv230)
                    have S248 : St H0 w0 H226 w242 (.box b0 92 [v224, Value.int .i64 r214.2.at_, Value.int .u64 r214.2.seed] :: .box b71 26 [Value.int .i64 s87.2.2.2.2.1, v88] :: .row 34 1 v239 n240 cs241 :: .box b21 26 [Value.int .i64 0, Value.slice none 0 0] :: L) := S244.drop 0
                    refine FC.val (l' := (bs 10 255)) rfl (by kernel_rfl) rfl rfl rfl (E.append rfl rfl run243) ?_
                    refine ⟨(SP.on ((S248.box_now (i := 1) rfl).sub (j := 1) (n := 1) (c := [v88]) rfl) (SP.on ((S248.box_now (i := 1) rfl).sub (j := 0) (n := 1) (c := [Value.int .i64 s87.2.2.2.2.1]) rfl) (SP.nil (Sl.of_inc (i219.tr i228) S248.sl)))), ?_⟩
                    refine FB.t (i := 8) (bs 10 511) rfl (SP.on ((S248.box_now (i := 1) rfl).sub (j := 1) (n := 1) (c := [v88]) rfl) (SP.on ((S248.box_now (i := 1) rfl).sub (j := 0) (n := 1) (c := [Value.int .i64 s87.2.2.2.2.1]) rfl) (SP.nil (Sl.of_inc (i219.tr i228) S248.sl)))) rfl (fun w' hw' => (E.fieldAddr tf26_1 k170)) ?_
                    refine FB.all1 (i := 9) (by kernel_rfl) ?_
                    ·
                      obtain ⟨w249, run250, S251⟩ := S248.store (P := Tryz.prog) (t := 24) (i := 1) (j := 1) (cs' := [Value.int .i64 s87.2.2.2.2.1, v239]) (l' := (.box b0 92 [v224, Value.int .i64 r214.2.at_, Value.int .u64 r214.2.seed] :: .box b71 26 [Value.int .i64 s87.2.2.2.2.1, v239] :: .row 34 1 v239 n240 cs241 :: .box b21 26 [Value.int .i64 0, Value.slice none 0 0] :: L)) (v := v239) (c := [v239]) rfl Tryz.sizeOf24 (Ln.cells (S248.row_ln (i := 2) rfl)) rfl (ones_cons (Ln.one (S248.row_ln (i := 2) rfl)) ones_nil) (Nat.le_of_ble_eq_true rfl) rfl rfl
                      refine FC.act (l' := (bs 10 1023)) rfl (by kernel_rfl) rfl rfl (E.store rfl rfl run250) ?_
                      refine ⟨(SP.o (SP.on ((S251.box_now (i := 1) rfl).sub (j := 0) (n := 1) (c := [Value.int .i64 s87.2.2.2.2.1]) rfl) (SP.nil (Sl.of_inc (i219.tr i228) S251.sl)))), ?_⟩
                      exact FB.done (by kernel_rfl) ⟨_, _, _, _, _, S251, (i219.tr i228), els245, (h225.mono i228), nd247, k169, k170⟩
            ·
              rintro f263 w262 ⟨H259, v252, n253, cs254, v257, S260, i261, els255, h258, nd256, k264, k265⟩
              refine FW.seq (FW.region ?_)
              refine FL.v (E.load k265 (run_loadA Tryz.isAgg26 Tryz.sizeOf26 (S260.box_now (i := 1) rfl) rfl)) ?_
              obtain ⟨w266, run267, S268⟩ := S260.store0 (P := Tryz.prog) (t := 26) (i := 3) (cs' := [Value.int .i64 s87.2.2.2.2.1, v252]) (l' := (.box b0 92 [v257, Value.int .i64 r214.2.at_, Value.int .u64 r214.2.seed] :: .box b71 26 [Value.int .i64 s87.2.2.2.2.1, v252] :: .row 34 1 v252 n253 cs254 :: .box b21 26 [Value.int .i64 s87.2.2.2.2.1, v252] :: L)) (v := Value.agg #[Value.int .i64 s87.2.2.2.2.1, v252]) (c := [Value.int .i64 s87.2.2.2.2.1, v252]) rfl Tryz.sizeOf26 rfl rfl (ones_cons rfl (ones_cons (Ln.one (S260.row_ln (i := 2) rfl)) ones_nil)) (Nat.le_of_ble_eq_true rfl) rfl rfl
              refine FL.act rfl rfl (E.store k264 rfl run267) ?_
              refine FL.nil ?_
              refine FW.ret ?_
              obtain ⟨H269, S270, i271, ns274, nv273⟩ := S268.sealRowN (i := 2) (l' := (.box b0 92 [v257, Value.int .i64 r214.2.at_, Value.int .u64 r214.2.seed] :: .box b71 26 [Value.int .i64 s87.2.2.2.2.1, v252] :: .box b21 26 [Value.int .i64 s87.2.2.2.2.1, v252] :: L)) rfl els255 nd256 (by decide) rfl
              have h272 := ns274.rsl
              obtain rfl := Option.some.inj hp
              exact ⟨.inr rfl, resC rfl k264 (loadVar_A Tryz.isAgg26 Tryz.sizeOf26 (S270.box_now (i := 2) rfl) rfl) ⟨_, _, _, rfl, ⟨(S270.selT (a := [.box b0 92 [v257, Value.int .i64 r214.2.at_, Value.int .u64 r214.2.seed], .box b71 26 [Value.int .i64 s87.2.2.2.2.1, v252], .box b21 26 [Value.int .i64 s87.2.2.2.2.1, v252]]) (l' := [.box b0 92 [v257, Value.int .i64 r214.2.at_, Value.int .u64 r214.2.seed]]) [0] (by decide) rfl), (((((((i31.tr i55).tr i63).tr i84).tr i165).tr i176).tr i261).tr i271)⟩, h272, (h258.mono i271)⟩⟩
          ·
            refine FW.condF rfl c210 ?_
            refine FW.seq (FW.region ?_)
            refine FL.v (E.eql rfl rfl) ?_
            refine FL.v (E.assign (v := Value.bool (r171.1 == 2)) rfl) ?_
            refine FL.nil ?_
            rcases ifB hp with ⟨c275, hp⟩ | ⟨c275, hp⟩
            ·
              refine FW.condT rfl c275 ?_
              obtain ⟨q276, hq, hp⟩ := bndR hp
              refine FW.block ?_
              refine FW.mono (FW.iter (S := ((List (List Int)) × (List Int) × Int × Int × Int)) (X := Empty) (fun (s276 : ((List (List Int)) × (List Int) × Int × Int × Int)) f w => ∃ H : GH, ∃ v277 : Value, ∃ n278 : Nat, ∃ cs279 : List Value, ∃ v282 : Value, St H0 w0 H w (.box b0 92 [v282, Value.int .i64 s276.2.2.1, Value.int .u64 s276.2.2.2.1] :: .box b71 26 [Value.int .i64 s276.2.2.2.2, v277] :: .row 34 1 v277 n278 cs279 :: .box b21 26 [Value.int .i64 0, Value.slice none 0 0] :: L) ∧ Inc H173 H ∧ Els (up w0.heap.size H) (eL eI 1) 1 cs279 s276.1 ∧ RSl H (eN .u8) 1 v282 s276.2.1 ∧ (bl cs279).Nodup ∧ f 0 = Value.pointer (some (⟨b0, 0, none⟩ : Addr)) ∧ f 2 = Value.pointer (some (⟨b21, 0, none⟩ : Addr)) ∧ f 3 = Value.pointer (some (⟨b71, 0, none⟩ : Addr))) (fun (q : Rs ((List (List Int)) × (List Int) × Int × Int × Int) Empty) e f w => match q with | .go s276 => e = Exit.exit 3 ∧ (∃ H : GH, ∃ v277 : Value, ∃ n278 : Nat, ∃ cs279 : List Value, ∃ v282 : Value, St H0 w0 H w (.box b0 92 [v282, Value.int .i64 s276.2.2.1, Value.int .u64 s276.2.2.2.1] :: .box b71 26 [Value.int .i64 s276.2.2.2.2, v277] :: .row 34 1 v277 n278 cs279 :: .box b21 26 [Value.int .i64 0, Value.slice none 0 0] :: L) ∧ Inc H173 H ∧ Els (up w0.heap.size H) (eL eI 1) 1 cs279 s276.1 ∧ RSl H (eN .u8) 1 v282 s276.2.1 ∧ (bl cs279).Nodup ∧ f 2 = Value.pointer (some (⟨b21, 0, none⟩ : Addr)) ∧ f 3 = Value.pointer (some (⟨b71, 0, none⟩ : Addr))) | .rt x => x.elim) hq ⟨_, _, _, _, _, S175, (Inc.rfl _), (els91.mono (up_mono i176)), h178, nd92, k168, k169, k170⟩ ?_) ?_
              ·
                clear hp hq
                rintro s276 f288 w287 ⟨H284, v277, n278, cs279, v282, S285, i286, els280, h283, nd281, k289, k290, k291⟩ o346 hp
                refine FW.seq (FW.seq ?_)
                obtain ⟨r295, hr296, hp⟩ := bnd hp
                refine FW.drawB (SX H0 w0 H284 (.box b71 26 [Value.int .i64 s276.2.2.2.2, v277] :: L)) (fun f w => ∃ H : GH, ∃ v303 : Value, St H0 w0 H w (.box b0 92 [v303, Value.int .i64 r295.2.at_, Value.int .u64 r295.2.seed] :: .box b71 26 [Value.int .i64 s276.2.2.2.2, v277] :: .row 34 1 v277 n278 cs279 :: .box b21 26 [Value.int .i64 0, Value.slice none 0 0] :: L) ∧ Inc H284 H ∧ RSl H (eN .u8) 1 v303 r295.2.code ∧ f 0 = Value.pointer (some (⟨b0, 0, none⟩ : Addr)) ∧ f 2 = Value.pointer (some (⟨b21, 0, none⟩ : Addr)) ∧ f 3 = Value.pointer (some (⟨b71, 0, none⟩ : Addr)) ∧ f 56 = Value.bool (decide ((len s276.1) < (wr (60 + r295.1))))) (by kernel_rfl) S285.sl ?_ ?_
                ·
                  intro w292 r293
                  have S294 := S285.call r293
                  refine FB.t (i := 0) (bs 7 1) rfl (SP.nil ⟨_, (S294.selT (a := [.box b0 92 [v282, Value.int .i64 s276.2.2.1, Value.int .u64 s276.2.2.2.1], .box b71 26 [Value.int .i64 s276.2.2.2.2, v277], .row 34 1 v277 n278 cs279, .box b21 26 [Value.int .i64 0, Value.slice none 0 0]]) (l' := [.box b71 26 [Value.int .i64 s276.2.2.2.2, v277]]) [1] (by decide) rfl), (Inc.rfl _)⟩) rfl (fun w' hw' => (E.fieldAddr tf26_1 k291)) ?_
                  refine FB.t (i := 1) (bs 7 3) rfl (SP.nil ⟨_, (S294.selT (a := [.box b0 92 [v282, Value.int .i64 s276.2.2.1, Value.int .u64 s276.2.2.2.1], .box b71 26 [Value.int .i64 s276.2.2.2.2, v277], .row 34 1 v277 n278 cs279, .box b21 26 [Value.int .i64 0, Value.slice none 0 0]]) (l' := [.box b71 26 [Value.int .i64 s276.2.2.2.2, v277]]) [1] (by decide) rfl), (Inc.rfl _)⟩) rfl (fun w' hw' => (E.load rfl (run_load1 Tryz.isAgg24 (SX.box_now hw' (i := 0) rfl) rfl))) ?_
                  refine FB.t (i := 2) (bs 7 7) rfl (SP.nil ⟨_, (S294.selT (a := [.box b0 92 [v282, Value.int .i64 s276.2.2.1, Value.int .u64 s276.2.2.2.1], .box b71 26 [Value.int .i64 s276.2.2.2.2, v277], .row 34 1 v277 n278 cs279, .box b21 26 [Value.int .i64 0, Value.slice none 0 0]]) (l' := [.box b71 26 [Value.int .i64 s276.2.2.2.2, v277]]) [1] (by decide) rfl), (Inc.rfl _)⟩) rfl (fun w' hw' => (E.lenOW te24 rfl S294 (i := 2) rfl els280 (by decide))) ?_
                  refine FB.t (i := 3) (bs 7 15) rfl (SP.nil ⟨_, (S294.selT (a := [.box b0 92 [v282, Value.int .i64 s276.2.2.1, Value.int .u64 s276.2.2.2.1], .box b71 26 [Value.int .i64 s276.2.2.2.2, v277], .row 34 1 v277 n278 cs279, .box b21 26 [Value.int .i64 0, Value.slice none 0 0]]) (l' := [.box b71 26 [Value.int .i64 s276.2.2.2.2, v277]]) [1] (by decide) rfl), (Inc.rfl _)⟩) rfl (fun w' hw' => (E.move k289)) ?_
                  refine FB.all1 (i := 4) (by kernel_rfl) ?_
                  ·
                    refine FC.call (l' := (bs 7 31)) rfl (by kernel_rfl) rfl rfl rfl (E.call Tryz.call70 (A2 rfl rfl)) (w_spec_l1Cur_pick (L := (.box b71 26 [Value.int .i64 s276.2.2.2.2, v277] :: .row 34 1 v277 n278 cs279 :: .box b21 26 [Value.int .i64 0, Value.slice none 0 0] :: L)) S294 (a0 := (l1Cur.mk s276.2.1 s276.2.2.1 s276.2.2.2.1)) h283 2 hr296) ?_
                    rintro e w298 ⟨H297, v301, rfl, ⟨S299, i300⟩, h302⟩
                    refine ⟨_, rfl, ?_⟩
                    have S299 : St H0 w0 H297 w298 (.box b0 92 [v301, Value.int .i64 r295.2.at_, Value.int .u64 r295.2.seed] :: .box b71 26 [Value.int .i64 s276.2.2.2.2, v277] :: .row 34 1 v277 n278 cs279 :: .box b21 26 [Value.int .i64 0, Value.slice none 0 0] :: L) := S299
                    refine ⟨(SP.nil ⟨_, (S299.selT (a := [.box b0 92 [v301, Value.int .i64 r295.2.at_, Value.int .u64 r295.2.seed], .box b71 26 [Value.int .i64 s276.2.2.2.2, v277], .row 34 1 v277 n278 cs279, .box b21 26 [Value.int .i64 0, Value.slice none 0 0]]) (l' := [.box b71 26 [Value.int .i64 s276.2.2.2.2, v277]]) [1] (by decide) rfl), i300⟩), ?_⟩
                    refine FB.t (i := 5) (bs 7 63) rfl (SP.nil ⟨_, (S299.selT (a := [.box b0 92 [v301, Value.int .i64 r295.2.at_, Value.int .u64 r295.2.seed], .box b71 26 [Value.int .i64 s276.2.2.2.2, v277], .row 34 1 v277 n278 cs279, .box b21 26 [Value.int .i64 0, Value.slice none 0 0]]) (l' := [.box b71 26 [Value.int .i64 s276.2.2.2.2, v277]]) [1] (by decide) rfl), i300⟩) rfl (fun w' hw' => (E.add rfl rfl)) ?_
                    refine FB.t (i := 6) (bs 7 127) rfl (SP.nil ⟨_, (S299.selT (a := [.box b0 92 [v301, Value.int .i64 r295.2.at_, Value.int .u64 r295.2.seed], .box b71 26 [Value.int .i64 s276.2.2.2.2, v277], .row 34 1 v277 n278 cs279, .box b21 26 [Value.int .i64 0, Value.slice none 0 0]]) (l' := [.box b71 26 [Value.int .i64 s276.2.2.2.2, v277]]) [1] (by decide) rfl), i300⟩) rfl (fun w' hw' => (E.lss rfl rfl)) ?_
                    exact FB.done (by kernel_rfl) ⟨_, _, S299, i300, h302, k289, k290, k291, rfl⟩
                ·
                  rintro f309 w308 ⟨H305, v303, S306, i307, h304, k310, k311, k312, k313⟩
                  rcases ifB hp with ⟨c314, hp⟩ | ⟨c314, hp⟩
                  ·
                    refine FW.condT k313 c314 ?_
                    refine FW.skip (FW.block (FW.region ?_))
                    refine FL.v (E.fieldAddr tf26_1 k312) ?_
                    refine FL.v (E.load rfl (run_load1 Tryz.isAgg24 (S306.box_now (i := 1) rfl) rfl)) ?_
                    obtain ⟨v315, w316, run317, S318⟩ := S306.buildSlice (P := Tryz.prog) te34 [Value.int .i64 1] (parts := #[(0, Value.int .i64 1)]) (cells := [Value.int .i64 1]) rfl (szs_cons rfl szs_nil) (fc_cons rfl fc_nil) (ones_cons rfl ones_nil) (Nat.le_of_ble_eq_true rfl)
                    have els319 : Els (up w0.heap.size H305) eI 1 [Value.int .i64 1] [1] := (Els.snoc (H := (up w0.heap.size H305)) (E := eI) (k := 1) (c := [Value.int .i64 1]) (x := 1) Els.nil rfl rfl)
                    refine FL.v (E.buildSlice (B1 rfl) run317) ?_
                    obtain ⟨H320, S321, i322, h323, nv324⟩ := S318.sealRowU (i := 0) (l' := (.box b0 92 [v303, Value.int .i64 r295.2.at_, Value.int .u64 r295.2.seed] :: .box b71 26 [Value.int .i64 s276.2.2.2.2, v277] :: .row 34 1 v277 n278 cs279 :: .box b21 26 [Value.int .i64 0, Value.slice none 0 0] :: L)) rfl els319 (by decide) rfl
                    obtain ⟨v325, w326, run327, S328⟩ := S321.buildSlice (P := Tryz.prog) te24 [v315] (parts := #[(0, v315)]) (cells := [v315]) rfl (szs_cons (cells_size h323.cells) szs_nil) (fc_cons h323.cells fc_nil) (ones_cons h323.one ones_nil) (Nat.le_of_ble_eq_true rfl)
                    have els329 : Els (up w0.heap.size H320) (eL eI 1) 1 [v315] [[1]] := (Els.snoc (H := (up w0.heap.size H320)) (E := (eL eI 1)) (k := 1) (c := [v315]) (x := [1]) Els.nil rfl ⟨_, rfl, h323⟩)
                    have nd330 : (bl [v315]).Nodup := by exact nd_one v315
                    refine FL.v (E.buildSlice (B1 rfl) run327) ?_
                    obtain ⟨xs331, hz332, hp⟩ := bnd hp
                    obtain ⟨v333, w336, n334, cs335, run337, S338, els339, ce340⟩ := S328.appendO (P := Tryz.prog) te24 (i := 3) (j := 0) rfl (els280.mono (up_mono (i307.tr i322))) rfl els329 hz332
                    have S338 : St H0 w0 H320 w336 (.row 34 1 v325 1 [v315] :: .box b0 92 [v303, Value.int .i64 r295.2.at_, Value.int .u64 r295.2.seed] :: .box b71 26 [Value.int .i64 s276.2.2.2.2, v277] :: .row 34 1 v333 n334 cs335 :: .box b21 26 [Value.int .i64 0, Value.slice none 0 0] :: L) := S338
                    have nd341 : (bl cs335).Nodup := by rw [ce340]; exact nd_app nd281 nd330 (Els.dom (els280.mono (upI.tr i307))) (by exact nv324)
                    have S342 : St H0 w0 H320 w336 (.box b0 92 [v303, Value.int .i64 r295.2.at_, Value.int .u64 r295.2.seed] :: .box b71 26 [Value.int .i64 s276.2.2.2.2, v277] :: .row 34 1 v333 n334 cs335 :: .box b21 26 [Value.int .i64 0, Value.slice none 0 0] :: L) := S338.drop 0
                    refine FL.v (E.append rfl rfl run337) ?_
                    refine FL.v (E.fieldAddr tf26_1 k312) ?_
                    obtain ⟨w343, run344, S345⟩ := S342.store (P := Tryz.prog) (t := 24) (i := 1) (j := 1) (cs' := [Value.int .i64 s276.2.2.2.2, v333]) (l' := (.box b0 92 [v303, Value.int .i64 r295.2.at_, Value.int .u64 r295.2.seed] :: .box b71 26 [Value.int .i64 s276.2.2.2.2, v333] :: .row 34 1 v333 n334 cs335 :: .box b21 26 [Value.int .i64 0, Value.slice none 0 0] :: L)) (v := v333) (c := [v333]) rfl Tryz.sizeOf24 (Ln.cells (S342.row_ln (i := 2) rfl)) rfl (ones_cons (Ln.one (S342.row_ln (i := 2) rfl)) ones_nil) (Nat.le_of_ble_eq_true rfl) rfl rfl
                    refine FL.act rfl rfl (E.store rfl rfl run344) ?_
                    refine FL.nil ?_
                    obtain rfl := Option.some.inj hp
                    exact ⟨rfl, ⟨_, _, _, _, _, S345, ((i286.tr i307).tr i322), els339, (h304.mono i322), nd341, k310, k311, k312⟩⟩
                  ·
                    refine FW.condF k313 c314 ?_
                    refine FW.exit ?_
                    obtain rfl := Option.some.inj hp
                    exact ⟨nofun, rfl, ⟨_, _, _, _, _, S306, (i286.tr i307), (els280.mono (up_mono i307)), h304, nd281, k311, k312⟩⟩
              ·
                clear hq
                intro e f351 w350 hD
                rcases q276 with s276 | x276
                ·
                  obtain ⟨rfl, hD⟩ := hD
                  obtain ⟨H347, v277, n278, cs279, v282, S348, i349, els280, h283, nd281, k352, k353⟩ := hD
                  replace hp := el_go hp
                  refine FW.seq (FW.region ?_)
                  refine FL.v (E.load k353 (run_loadA Tryz.isAgg26 Tryz.sizeOf26 (S348.box_now (i := 1) rfl) rfl)) ?_
                  obtain ⟨w354, run355, S356⟩ := S348.store0 (P := Tryz.prog) (t := 26) (i := 3) (cs' := [Value.int .i64 s276.2.2.2.2, v277]) (l' := (.box b0 92 [v282, Value.int .i64 s276.2.2.1, Value.int .u64 s276.2.2.2.1] :: .box b71 26 [Value.int .i64 s276.2.2.2.2, v277] :: .row 34 1 v277 n278 cs279 :: .box b21 26 [Value.int .i64 s276.2.2.2.2, v277] :: L)) (v := Value.agg #[Value.int .i64 s276.2.2.2.2, v277]) (c := [Value.int .i64 s276.2.2.2.2, v277]) rfl Tryz.sizeOf26 rfl rfl (ones_cons rfl (ones_cons (Ln.one (S348.row_ln (i := 2) rfl)) ones_nil)) (Nat.le_of_ble_eq_true rfl) rfl rfl
                  refine FL.act rfl rfl (E.store k352 rfl run355) ?_
                  refine FL.nil ?_
                  refine FW.ret ?_
                  obtain ⟨H357, S358, i359, ns362, nv361⟩ := S356.sealRowN (i := 2) (l' := (.box b0 92 [v282, Value.int .i64 s276.2.2.1, Value.int .u64 s276.2.2.2.1] :: .box b71 26 [Value.int .i64 s276.2.2.2.2, v277] :: .box b21 26 [Value.int .i64 s276.2.2.2.2, v277] :: L)) rfl els280 nd281 (by decide) rfl
                  have h360 := ns362.rsl
                  obtain rfl := Option.some.inj hp
                  exact ⟨.inr rfl, resC rfl k352 (loadVar_A Tryz.isAgg26 Tryz.sizeOf26 (S358.box_now (i := 2) rfl) rfl) ⟨_, _, _, rfl, ⟨(S358.selT (a := [.box b0 92 [v282, Value.int .i64 s276.2.2.1, Value.int .u64 s276.2.2.2.1], .box b71 26 [Value.int .i64 s276.2.2.2.2, v277], .box b21 26 [Value.int .i64 s276.2.2.2.2, v277]]) (l' := [.box b0 92 [v282, Value.int .i64 s276.2.2.1, Value.int .u64 s276.2.2.2.1]]) [0] (by decide) rfl), (((((((i31.tr i55).tr i63).tr i84).tr i165).tr i176).tr i349).tr i359)⟩, h360, (h283.mono i359)⟩⟩
                · exact x276.elim
            ·
              refine FW.condF rfl c275 ?_
              refine FW.seq (FW.region ?_)
              refine FL.v (E.eql rfl rfl) ?_
              refine FL.v (E.assign (v := Value.bool (r171.1 == 3)) rfl) ?_
              refine FL.nil ?_
              rcases ifB hp with ⟨c363, hp⟩ | ⟨c363, hp⟩
              ·
                refine FW.condT rfl c363 ?_
                obtain ⟨r367, hr368, hp⟩ := bnd hp
                obtain ⟨xs400, hz401, hp⟩ := bnd hp
                refine FW.drawB (Sl H173) (fun f w => ∃ H : GH, ∃ v414 : Value, ∃ n415 : Nat, ∃ cs416 : List Value, ∃ v418 : Value, St H0 w0 H w (.box b0 92 [v418, Value.int .i64 r367.2.at_, Value.int .u64 r367.2.seed] :: .box b71 26 [Value.int .i64 s87.2.2.2.2.1, v414] :: .row 34 1 v414 n415 cs416 :: .box b21 26 [Value.int .i64 0, Value.slice none 0 0] :: L) ∧ Inc H173 H ∧ Els (up w0.heap.size H) (eL eI 1) 1 cs416 xs400 ∧ RSl H (eN .u8) 1 v418 r367.2.code ∧ f 2 = Value.pointer (some (⟨b21, 0, none⟩ : Addr)) ∧ f 3 = Value.pointer (some (⟨b71, 0, none⟩ : Addr))) (by kernel_rfl) S175.sl ?_ ?_
                ·
                  intro w364 r365
                  have S366 := S175.call r365
                  refine FB.phase [] (fun w => WAt w (Addr.add ⟨b71, 0, none⟩ 0) [Value.int .i64 s87.2.2.2.2.1]) ?_
                  refine FB.phase [10] (fun w => WAt w (Addr.add ⟨b71, 0, none⟩ 1) [v88]) ?_
                  refine FB.t (i := 0) (bs 11 1) rfl (SP.on ((S366.box_now (i := 1) rfl).sub (j := 1) (n := 1) (c := [v88]) rfl) (SP.on ((S366.box_now (i := 1) rfl).sub (j := 0) (n := 1) (c := [Value.int .i64 s87.2.2.2.2.1]) rfl) (SP.nil S366.sl))) rfl (fun w' hw' => (E.fieldAddr tf26_1 k170)) ?_
                  refine FB.p (i := 1) (bs 11 3) 0 [8, 9, 10] rfl (SP.on ((S366.box_now (i := 1) rfl).sub (j := 1) (n := 1) (c := [v88]) rfl) (SP.on ((S366.box_now (i := 1) rfl).sub (j := 0) (n := 1) (c := [Value.int .i64 s87.2.2.2.2.1]) rfl) (SP.nil S366.sl))) rfl rfl (fun w' hw' => (E.load rfl (run_load0 Tryz.isAgg24 hw' rfl))) ?_
                  refine FB.t (i := 2) (bs 11 7) rfl (SP.on ((S366.box_now (i := 1) rfl).sub (j := 1) (n := 1) (c := [v88]) rfl) (SP.on ((S366.box_now (i := 1) rfl).sub (j := 0) (n := 1) (c := [Value.int .i64 s87.2.2.2.2.1]) rfl) (SP.nil S366.sl))) rfl (fun w' hw' => (E.move k168)) ?_
                  refine FB.t (i := 3) (bs 11 15) rfl (SP.on ((S366.box_now (i := 1) rfl).sub (j := 1) (n := 1) (c := [v88]) rfl) (SP.on ((S366.box_now (i := 1) rfl).sub (j := 0) (n := 1) (c := [Value.int .i64 s87.2.2.2.2.1]) rfl) (SP.nil S366.sl))) rfl (fun w' hw' => (E.fieldAddr tf26_0 k170)) ?_
                  refine FB.p (i := 4) (bs 11 31) 1 [5, 7, 8, 9, 10] rfl (SP.on ((S366.box_now (i := 1) rfl).sub (j := 1) (n := 1) (c := [v88]) rfl) (SP.on ((S366.box_now (i := 1) rfl).sub (j := 0) (n := 1) (c := [Value.int .i64 s87.2.2.2.2.1]) rfl) (SP.nil S366.sl))) rfl rfl (fun w' hw' => (E.load rfl (run_load0 Tryz.isAgg3 hw' rfl))) ?_
                  refine FB.all2 (i := 5) (j := 6) (by kernel_rfl) ?_ ?_
                  ·
                    refine FC.call (l' := (bs 11 63)) rfl (by kernel_rfl) rfl rfl rfl (E.call Tryz.call166 (A2 rfl rfl)) (w_spec_l1Cur_clause (L := (.box b71 26 [Value.int .i64 s87.2.2.2.2.1, v88] :: .row 34 1 v88 n89 cs90 :: .box b21 26 [Value.int .i64 0, Value.slice none 0 0] :: L)) S366 (a0 := r171.2) h178 s87.2.2.2.2.1 hr368) ?_
                    rintro e w370 ⟨H369, v373, n374, cs375, v377, rfl, ⟨S371, i372⟩, els376, h378⟩
                    refine ⟨_, rfl, ?_⟩
                    have S371 : St H0 w0 H369 w370 (.row 3 1 v373 n374 cs375 :: .box b0 92 [v377, Value.int .i64 r367.2.at_, Value.int .u64 r367.2.seed] :: .box b71 26 [Value.int .i64 s87.2.2.2.2.1, v88] :: .row 34 1 v88 n89 cs90 :: .box b21 26 [Value.int .i64 0, Value.slice none 0 0] :: L) := S371
                    refine ⟨(SP.on ((S371.box_now (i := 2) rfl).sub (j := 1) (n := 1) (c := [v88]) rfl) (SP.on ((S371.box_now (i := 2) rfl).sub (j := 0) (n := 1) (c := [Value.int .i64 s87.2.2.2.2.1]) rfl) (SP.nil (Sl.of_inc i372 S371.sl)))), ?_⟩
                    refine FB.all1 (i := 6) (by kernel_rfl) ?_
                    ·
                      obtain ⟨v380, w381, run382, S383⟩ := S371.buildSlice (P := Tryz.prog) te34 [] (parts := #[]) (cells := []) rfl szs_nil fc_nil ones_nil (Nat.le_of_ble_eq_true rfl)
                      have els384 : Els (up w0.heap.size H369) eI 1 [] [] := Els.nil
                      refine FC.val (l' := (bs 11 127)) rfl (by kernel_rfl) rfl rfl rfl (E.buildSlice (B0) run382) ?_
                      refine ⟨(SP.on ((S383.box_now (i := 3) rfl).sub (j := 1) (n := 1) (c := [v88]) rfl) (SP.on ((S383.box_now (i := 3) rfl).sub (j := 0) (n := 1) (c := [Value.int .i64 s87.2.2.2.2.1]) rfl) (SP.nil (Sl.of_inc i372 S383.sl)))), ?_⟩
                      refine FB.all1 (i := 7) (by kernel_rfl) ?_
                      ·
                        obtain ⟨H385, S386, i387, h388, nv389⟩ := S383.sealRowU (i := 1) (l' := (.row 3 1 v380 0 [] :: .box b0 92 [v377, Value.int .i64 r367.2.at_, Value.int .u64 r367.2.seed] :: .box b71 26 [Value.int .i64 s87.2.2.2.2.1, v88] :: .row 34 1 v88 n89 cs90 :: .box b21 26 [Value.int .i64 0, Value.slice none 0 0] :: L)) rfl els376 (by decide) rfl
                        obtain ⟨H390, S391, i392, h393, nv394⟩ := S386.sealRowU (i := 0) (l' := (.box b0 92 [v377, Value.int .i64 r367.2.at_, Value.int .u64 r367.2.seed] :: .box b71 26 [Value.int .i64 s87.2.2.2.2.1, v88] :: .row 34 1 v88 n89 cs90 :: .box b21 26 [Value.int .i64 0, Value.slice none 0 0] :: L)) rfl (els384.mono (up_mono i387)) (by decide) rfl
                        obtain ⟨v395, w396, run397, S398⟩ := S391.buildSlice (P := Tryz.prog) te24 [v373, v380] (parts := #[(0, v373), (1, v380)]) (cells := [v373, v380]) rfl (szs_cons (cells_size h388.cells) (szs_cons (cells_size h393.cells) szs_nil)) (fc_cons h388.cells (fc_cons h393.cells fc_nil)) (ones_cons h388.one (ones_cons h393.one ones_nil)) (Nat.le_of_ble_eq_true rfl)
                        have els399 : Els (up w0.heap.size H390) (eL eI 1) 1 [v373, v380] [r367.1, []] := (Els.snoc (H := (up w0.heap.size H390)) (E := (eL eI 1)) (k := 1) (c := [v380]) (x := []) (Els.snoc (H := (up w0.heap.size H390)) (E := (eL eI 1)) (k := 1) (c := [v373]) (x := r367.1) Els.nil rfl ⟨_, rfl, (h388.mono (up_mono i392))⟩) rfl ⟨_, rfl, h393⟩)
                        refine FC.val (l' := (bs 11 255)) rfl (by kernel_rfl) rfl rfl rfl (E.buildSlice (B2 rfl rfl) run397) ?_
                        refine ⟨(SP.on ((S398.box_now (i := 2) rfl).sub (j := 1) (n := 1) (c := [v88]) rfl) (SP.on ((S398.box_now (i := 2) rfl).sub (j := 0) (n := 1) (c := [Value.int .i64 s87.2.2.2.2.1]) rfl) (SP.nil (Sl.of_inc ((i372.tr i387).tr i392) S398.sl)))), ?_⟩
                        refine FB.all1 (i := 8) (by kernel_rfl) ?_
                        ·
                          obtain ⟨v402, w405, n403, cs404, run406, S407, els408, ce409⟩ := S398.appendO (P := Tryz.prog) te24 (i := 3) (j := 0) rfl (els91.mono (up_mono (((i176.tr i372).tr i387).tr i392))) rfl els399 hz401
                          have S407 : St H0 w0 H390 w405 (.row 34 1 v395 2 [v373, v380] :: .box b0 92 [v377, Value.int .i64 r367.2.at_, Value.int .u64 r367.2.seed] :: .box b71 26 [Value.int .i64 s87.2.2.2.2.1, v88] :: .row 34 1 v402 n403 cs404 :: .box b21 26 [Value.int .i64 0, Value.slice none 0 0] :: L) := S407
                          have S410 : St H0 w0 H390 w405 (.box b0 92 [v377, Value.int .i64 r367.2.at_, Value.int .u64 r367.2.seed] :: .box b71 26 [Value.int .i64 s87.2.2.2.2.1, v88] :: .row 34 1 v402 n403 cs404 :: .box b21 26 [Value.int .i64 0, Value.slice none 0 0] :: L) := S407.drop 0
                          refine FC.val (l' := (bs 11 511)) rfl (by kernel_rfl) rfl rfl rfl (E.append rfl rfl run406) ?_
                          refine ⟨(SP.on ((S410.box_now (i := 1) rfl).sub (j := 1) (n := 1) (c := [v88]) rfl) (SP.on ((S410.box_now (i := 1) rfl).sub (j := 0) (n := 1) (c := [Value.int .i64 s87.2.2.2.2.1]) rfl) (SP.nil (Sl.of_inc ((i372.tr i387).tr i392) S410.sl)))), ?_⟩
                          refine FB.t (i := 9) (bs 11 1023) rfl (SP.on ((S410.box_now (i := 1) rfl).sub (j := 1) (n := 1) (c := [v88]) rfl) (SP.on ((S410.box_now (i := 1) rfl).sub (j := 0) (n := 1) (c := [Value.int .i64 s87.2.2.2.2.1]) rfl) (SP.nil (Sl.of_inc ((i372.tr i387).tr i392) S410.sl)))) rfl (fun w' hw' => (E.fieldAddr tf26_1 k170)) ?_
                          refine FB.all1 (i := 10) (by kernel_rfl) ?_
                          ·
                            obtain ⟨w411, run412, S413⟩ := S410.store (P := Tryz.prog) (t := 24) (i := 1) (j := 1) (cs' := [Value.int .i64 s87.2.2.2.2.1, v402]) (l' := (.box b0 92 [v377, Value.int .i64 r367.2.at_, Value.int .u64 r367.2.seed] :: .box b71 26 [Value.int .i64 s87.2.2.2.2.1, v402] :: .row 34 1 v402 n403 cs404 :: .box b21 26 [Value.int .i64 0, Value.slice none 0 0] :: L)) (v := v402) (c := [v402]) rfl Tryz.sizeOf24 (Ln.cells (S410.row_ln (i := 2) rfl)) rfl (ones_cons (Ln.one (S410.row_ln (i := 2) rfl)) ones_nil) (Nat.le_of_ble_eq_true rfl) rfl rfl
                            refine FC.act (l' := (bs 11 2047)) rfl (by kernel_rfl) rfl rfl (E.store rfl rfl run412) ?_
                            refine ⟨(SP.o (SP.on ((S413.box_now (i := 1) rfl).sub (j := 0) (n := 1) (c := [Value.int .i64 s87.2.2.2.2.1]) rfl) (SP.nil (Sl.of_inc ((i372.tr i387).tr i392) S413.sl)))), ?_⟩
                            exact FB.done (by kernel_rfl) ⟨_, _, _, _, _, S413, ((i372.tr i387).tr i392), els408, (h378.mono (i387.tr i392)), k169, k170⟩
                  ·
                    obtain ⟨v380, w381, run382, S383⟩ := S366.buildSlice (P := Tryz.prog) te34 [] (parts := #[]) (cells := []) rfl szs_nil fc_nil ones_nil (Nat.le_of_ble_eq_true rfl)
                    have els384 : Els (up w0.heap.size H173) eI 1 [] [] := Els.nil
                    refine FC.val (l' := (bs 11 95)) rfl (by kernel_rfl) rfl rfl rfl (E.buildSlice (B0) run382) ?_
                    refine ⟨(SP.on ((S383.box_now (i := 2) rfl).sub (j := 1) (n := 1) (c := [v88]) rfl) (SP.on ((S383.box_now (i := 2) rfl).sub (j := 0) (n := 1) (c := [Value.int .i64 s87.2.2.2.2.1]) rfl) (SP.nil S383.sl))), ?_⟩
                    refine FB.all1 (i := 5) (by kernel_rfl) ?_
                    ·
                      have S369 : St H0 w0 H173 w381 (.box b0 92 [v177, Value.int .i64 r171.2.at_, Value.int .u64 r171.2.seed] :: .row 3 1 v380 0 [] :: .box b71 26 [Value.int .i64 s87.2.2.2.2.1, v88] :: .row 34 1 v88 n89 cs90 :: .box b21 26 [Value.int .i64 0, Value.slice none 0 0] :: L) := S383.front 1 rfl rfl
                      refine FC.call (l' := (bs 11 127)) rfl (by kernel_rfl) rfl rfl rfl (E.call Tryz.call166 (A2 rfl rfl)) (w_spec_l1Cur_clause (L := (.row 3 1 v380 0 [] :: .box b71 26 [Value.int .i64 s87.2.2.2.2.1, v88] :: .row 34 1 v88 n89 cs90 :: .box b21 26 [Value.int .i64 0, Value.slice none 0 0] :: L)) S369 (a0 := r171.2) h178 s87.2.2.2.2.1 hr368) ?_
                      rintro e w371 ⟨H370, v374, n375, cs376, v378, rfl, ⟨S372, i373⟩, els377, h379⟩
                      refine ⟨_, rfl, ?_⟩
                      have S372 : St H0 w0 H370 w371 (.row 3 1 v374 n375 cs376 :: .box b0 92 [v378, Value.int .i64 r367.2.at_, Value.int .u64 r367.2.seed] :: .row 3 1 v380 0 [] :: .box b71 26 [Value.int .i64 s87.2.2.2.2.1, v88] :: .row 34 1 v88 n89 cs90 :: .box b21 26 [Value.int .i64 0, Value.slice none 0 0] :: L) := S372
                      refine ⟨(SP.on ((S372.box_now (i := 3) rfl).sub (j := 1) (n := 1) (c := [v88]) rfl) (SP.on ((S372.box_now (i := 3) rfl).sub (j := 0) (n := 1) (c := [Value.int .i64 s87.2.2.2.2.1]) rfl) (SP.nil (Sl.of_inc i373 S372.sl)))), ?_⟩
                      refine FB.all1 (i := 7) (by kernel_rfl) ?_
                      ·
                        obtain ⟨H385, S386, i387, h388, nv389⟩ := S372.sealRowU (i := 0) (l' := (.box b0 92 [v378, Value.int .i64 r367.2.at_, Value.int .u64 r367.2.seed] :: .row 3 1 v380 0 [] :: .box b71 26 [Value.int .i64 s87.2.2.2.2.1, v88] :: .row 34 1 v88 n89 cs90 :: .box b21 26 [Value.int .i64 0, Value.slice none 0 0] :: L)) rfl els377 (by decide) rfl
                        obtain ⟨H390, S391, i392, h393, nv394⟩ := S386.sealRowU (i := 1) (l' := (.box b0 92 [v378, Value.int .i64 r367.2.at_, Value.int .u64 r367.2.seed] :: .box b71 26 [Value.int .i64 s87.2.2.2.2.1, v88] :: .row 34 1 v88 n89 cs90 :: .box b21 26 [Value.int .i64 0, Value.slice none 0 0] :: L)) rfl (els384.mono (up_mono (i373.tr i387))) (by decide) rfl
                        obtain ⟨v395, w396, run397, S398⟩ := S391.buildSlice (P := Tryz.prog) te24 [v374, v380] (parts := #[(0, v374), (1, v380)]) (cells := [v374, v380]) rfl (szs_cons (cells_size h388.cells) (szs_cons (cells_size h393.cells) szs_nil)) (fc_cons h388.cells (fc_cons h393.cells fc_nil)) (ones_cons h388.one (ones_cons h393.one ones_nil)) (Nat.le_of_ble_eq_true rfl)
                        have els399 : Els (up w0.heap.size H390) (eL eI 1) 1 [v374, v380] [r367.1, []] := (Els.snoc (H := (up w0.heap.size H390)) (E := (eL eI 1)) (k := 1) (c := [v380]) (x := []) (Els.snoc (H := (up w0.heap.size H390)) (E := (eL eI 1)) (k := 1) (c := [v374]) (x := r367.1) Els.nil rfl ⟨_, rfl, (h388.mono (up_mono i392))⟩) rfl ⟨_, rfl, h393⟩)
                        refine FC.val (l' := (bs 11 255)) rfl (by kernel_rfl) rfl rfl rfl (E.buildSlice (B2 rfl rfl) run397) ?_
                        refine ⟨(SP.on ((S398.box_now (i := 2) rfl).sub (j := 1) (n := 1) (c := [v88]) rfl) (SP.on ((S398.box_now (i := 2) rfl).sub (j := 0) (n := 1) (c := [Value.int .i64 s87.2.2.2.2.1]) rfl) (SP.nil (Sl.of_inc ((i373.tr i387).tr i392) S398.sl)))), ?_⟩
                        refine FB.all1 (i := 8) (by kernel_rfl) ?_
                        ·
                          obtain ⟨v402, w405, n403, cs404, run406, S407, els408, ce409⟩ := S398.appendO (P := Tryz.prog) te24 (i := 3) (j := 0) rfl (els91.mono (up_mono (((i176.tr i373).tr i387).tr i392))) rfl els399 hz401
                          have S407 : St H0 w0 H390 w405 (.row 34 1 v395 2 [v374, v380] :: .box b0 92 [v378, Value.int .i64 r367.2.at_, Value.int .u64 r367.2.seed] :: .box b71 26 [Value.int .i64 s87.2.2.2.2.1, v88] :: .row 34 1 v402 n403 cs404 :: .box b21 26 [Value.int .i64 0, Value.slice none 0 0] :: L) := S407
                          have S410 : St H0 w0 H390 w405 (.box b0 92 [v378, Value.int .i64 r367.2.at_, Value.int .u64 r367.2.seed] :: .box b71 26 [Value.int .i64 s87.2.2.2.2.1, v88] :: .row 34 1 v402 n403 cs404 :: .box b21 26 [Value.int .i64 0, Value.slice none 0 0] :: L) := S407.drop 0
                          refine FC.val (l' := (bs 11 511)) rfl (by kernel_rfl) rfl rfl rfl (E.append rfl rfl run406) ?_
                          refine ⟨(SP.on ((S410.box_now (i := 1) rfl).sub (j := 1) (n := 1) (c := [v88]) rfl) (SP.on ((S410.box_now (i := 1) rfl).sub (j := 0) (n := 1) (c := [Value.int .i64 s87.2.2.2.2.1]) rfl) (SP.nil (Sl.of_inc ((i373.tr i387).tr i392) S410.sl)))), ?_⟩
                          refine FB.t (i := 9) (bs 11 1023) rfl (SP.on ((S410.box_now (i := 1) rfl).sub (j := 1) (n := 1) (c := [v88]) rfl) (SP.on ((S410.box_now (i := 1) rfl).sub (j := 0) (n := 1) (c := [Value.int .i64 s87.2.2.2.2.1]) rfl) (SP.nil (Sl.of_inc ((i373.tr i387).tr i392) S410.sl)))) rfl (fun w' hw' => (E.fieldAddr tf26_1 k170)) ?_
                          refine FB.all1 (i := 10) (by kernel_rfl) ?_
                          ·
                            obtain ⟨w411, run412, S413⟩ := S410.store (P := Tryz.prog) (t := 24) (i := 1) (j := 1) (cs' := [Value.int .i64 s87.2.2.2.2.1, v402]) (l' := (.box b0 92 [v378, Value.int .i64 r367.2.at_, Value.int .u64 r367.2.seed] :: .box b71 26 [Value.int .i64 s87.2.2.2.2.1, v402] :: .row 34 1 v402 n403 cs404 :: .box b21 26 [Value.int .i64 0, Value.slice none 0 0] :: L)) (v := v402) (c := [v402]) rfl Tryz.sizeOf24 (Ln.cells (S410.row_ln (i := 2) rfl)) rfl (ones_cons (Ln.one (S410.row_ln (i := 2) rfl)) ones_nil) (Nat.le_of_ble_eq_true rfl) rfl rfl
                            refine FC.act (l' := (bs 11 2047)) rfl (by kernel_rfl) rfl rfl (E.store rfl rfl run412) ?_
                            refine ⟨(SP.o (SP.on ((S413.box_now (i := 1) rfl).sub (j := 0) (n := 1) (c := [Value.int .i64 s87.2.2.2.2.1]) rfl) (SP.nil (Sl.of_inc ((i373.tr i387).tr i392) S413.sl)))), ?_⟩
                            exact FB.done (by kernel_rfl) ⟨_, _, _, _, _, S413, ((i373.tr i387).tr i392), els408, (h379.mono (i387.tr i392)), k169, k170⟩
                ·
                  rintro f424 w423 ⟨H420, v414, n415, cs416, v418, S421, i422, els417, h419, k425, k426⟩
                  refine FW.seq (FW.region ?_)
                  refine FL.v (E.load k426 (run_loadA Tryz.isAgg26 Tryz.sizeOf26 (S421.box_now (i := 1) rfl) rfl)) ?_
                  obtain ⟨w427, run428, S429⟩ := S421.store0 (P := Tryz.prog) (t := 26) (i := 3) (cs' := [Value.int .i64 s87.2.2.2.2.1, v414]) (l' := (.box b0 92 [v418, Value.int .i64 r367.2.at_, Value.int .u64 r367.2.seed] :: .box b71 26 [Value.int .i64 s87.2.2.2.2.1, v414] :: .row 34 1 v414 n415 cs416 :: .box b21 26 [Value.int .i64 s87.2.2.2.2.1, v414] :: L)) (v := Value.agg #[Value.int .i64 s87.2.2.2.2.1, v414]) (c := [Value.int .i64 s87.2.2.2.2.1, v414]) rfl Tryz.sizeOf26 rfl rfl (ones_cons rfl (ones_cons (Ln.one (S421.row_ln (i := 2) rfl)) ones_nil)) (Nat.le_of_ble_eq_true rfl) rfl rfl
                  refine FL.act rfl rfl (E.store k425 rfl run428) ?_
                  refine FL.nil ?_
                  refine FW.ret ?_
                  obtain ⟨H430, S431, i432, h433, nv434⟩ := S429.sealRowU (i := 2) (l' := (.box b0 92 [v418, Value.int .i64 r367.2.at_, Value.int .u64 r367.2.seed] :: .box b71 26 [Value.int .i64 s87.2.2.2.2.1, v414] :: .box b21 26 [Value.int .i64 s87.2.2.2.2.1, v414] :: L)) rfl els417 (by decide) rfl
                  obtain rfl := Option.some.inj hp
                  exact ⟨.inr rfl, resC rfl k425 (loadVar_A Tryz.isAgg26 Tryz.sizeOf26 (S431.box_now (i := 2) rfl) rfl) ⟨_, _, _, rfl, ⟨(S431.selT (a := [.box b0 92 [v418, Value.int .i64 r367.2.at_, Value.int .u64 r367.2.seed], .box b71 26 [Value.int .i64 s87.2.2.2.2.1, v414], .box b21 26 [Value.int .i64 s87.2.2.2.2.1, v414]]) (l' := [.box b0 92 [v418, Value.int .i64 r367.2.at_, Value.int .u64 r367.2.seed]]) [0] (by decide) rfl), (((((((i31.tr i55).tr i63).tr i84).tr i165).tr i176).tr i422).tr i432)⟩, h433, (h419.mono i432)⟩⟩
              ·
                refine FW.condF rfl c363 ?_
                refine FW.skip (FW.seq (FW.region ?_))
                refine FL.v (E.load k170 (run_loadA Tryz.isAgg26 Tryz.sizeOf26 (S175.box_now (i := 1) rfl) rfl)) ?_
                obtain ⟨w435, run436, S437⟩ := S175.store0 (P := Tryz.prog) (t := 26) (i := 3) (cs' := [Value.int .i64 s87.2.2.2.2.1, v88]) (l' := (.box b0 92 [v177, Value.int .i64 r171.2.at_, Value.int .u64 r171.2.seed] :: .box b71 26 [Value.int .i64 s87.2.2.2.2.1, v88] :: .row 34 1 v88 n89 cs90 :: .box b21 26 [Value.int .i64 s87.2.2.2.2.1, v88] :: L)) (v := Value.agg #[Value.int .i64 s87.2.2.2.2.1, v88]) (c := [Value.int .i64 s87.2.2.2.2.1, v88]) rfl Tryz.sizeOf26 rfl rfl (ones_cons rfl (ones_cons (Ln.one (S175.row_ln (i := 2) rfl)) ones_nil)) (Nat.le_of_ble_eq_true rfl) rfl rfl
                refine FL.act rfl rfl (E.store k169 rfl run436) ?_
                refine FL.nil ?_
                refine FW.ret ?_
                obtain ⟨H438, S439, i440, ns443, nv442⟩ := S437.sealRowN (i := 2) (l' := (.box b0 92 [v177, Value.int .i64 r171.2.at_, Value.int .u64 r171.2.seed] :: .box b71 26 [Value.int .i64 s87.2.2.2.2.1, v88] :: .box b21 26 [Value.int .i64 s87.2.2.2.2.1, v88] :: L)) rfl (els91.mono (up_mono i176)) nd92 (by decide) rfl
                have h441 := ns443.rsl
                obtain rfl := Option.some.inj hp
                exact ⟨.inr rfl, resC rfl k169 (loadVar_A Tryz.isAgg26 Tryz.sizeOf26 (S439.box_now (i := 2) rfl) rfl) ⟨_, _, _, rfl, ⟨(S439.selT (a := [.box b0 92 [v177, Value.int .i64 r171.2.at_, Value.int .u64 r171.2.seed], .box b71 26 [Value.int .i64 s87.2.2.2.2.1, v88], .box b21 26 [Value.int .i64 s87.2.2.2.2.1, v88]]) (l' := [.box b0 92 [v177, Value.int .i64 r171.2.at_, Value.int .u64 r171.2.seed]]) [0] (by decide) rfl), ((((((i31.tr i55).tr i63).tr i84).tr i165).tr i176).tr i440)⟩, h441, (h178.mono i440)⟩⟩
      · exact x87.elim

theorem w_spec_l1Least {Ha : GH} {wa : World} (hs : Sl Ha wa) (a0 : Int) (a1 : Int) :
  Calls Tryz.prog 71 #[Value.int .i64 a0, Value.int .i64 a1] wa (Sc Ha wa (Value.int .i64 (PF.spec_l1Least a0 a1))) := by
 obtain ⟨r, hp⟩ : ∃ r, (PF.spec_l1Least a0 a1) = r := ⟨_, rfl⟩
 rw [hp]
 unfold PF.spec_l1Least at hp
 have S0 := St.init hs
 refine calls_go (N := 10) (args := [Value.int .i64 a0, Value.int .i64 a1]) Tryz.func71 rfl rfl rfl ?_
 refine FW.seq (FW.region ?_)
 refine FL.v (E.assign (v := Value.int .i64 0) rfl) ?_
 refine FL.nil (FW.seq (FW.seq (FW.region ?_)))
 refine FL.v (E.move (v := Value.int .i64 a0) rfl) ?_
 refine FL.v (E.move (v := Value.int .i64 a1) rfl) ?_
 refine FL.v (E.lss rfl rfl) ?_
 refine FL.nil ?_
 rcases ifT hp with ⟨c21, hp⟩ | ⟨c21, hp⟩
 ·
  refine FW.condT rfl c21 ?_
  refine FW.seq (FW.region ?_)
  refine FL.v (E.move (v := Value.int .i64 a0) rfl) ?_
  refine FL.v (E.assign (v := Value.int .i64 a0) rfl) ?_
  refine FL.nil ?_
  refine FW.ret ?_
  obtain rfl := hp
  exact ⟨.inr rfl, res1 rfl rfl ⟨rfl, S0.back⟩⟩
 ·
  refine FW.condF rfl c21 ?_
  refine FW.skip (FW.seq (FW.region ?_))
  refine FL.v (E.move (v := Value.int .i64 a1) rfl) ?_
  refine FL.v (E.assign (v := Value.int .i64 a1) rfl) ?_
  refine FL.nil ?_
  refine FW.ret ?_
  obtain rfl := hp
  exact ⟨.inr rfl, res1 rfl rfl ⟨rfl, S0.back⟩⟩

@[reducible] def p_spec_DrawEliminateVar (Ha : GH) (wa : World) (r : (Cnf × Int)) : Ending → World → Prop :=
 fun e w' => ∃ H' : GH, ∃ v0_1 : Value, e = .returned (Value.tuple #[Value.agg #[Value.int .i64 r.1.vars, v0_1], Value.int .i64 r.2]) ∧ Run wa.heap.size Ha wa H' w' ∧ RSl (up wa.heap.size H') (eL eI 1) 1 v0_1 r.1.clauses
theorem w_spec_DrawEliminateVar {Ha : GH} {wa : World} (hs : Sl Ha wa) (v0 : Value) (a0 : List Int) (p0 : RSl Ha (eN .u8) 1 v0 a0) {r : (Cnf × Int)} (hp : (PF.spec_DrawEliminateVar a0) = some r) :
  Calls Tryz.prog 9 #[v0] wa (p_spec_DrawEliminateVar Ha wa r) := by
 unfold PF.spec_DrawEliminateVar at hp
 have S0 := St.init hs
 refine calls_go (N := 32) (args := [v0]) Tryz.func9 rfl rfl rfl ?_
 refine FW.seq (FW.region ?_)
 obtain ⟨b21, w22, run23, S24⟩ := S0.alloc (P := Tryz.prog) 26 [Value.int .i64 0, Value.slice none 0 0] Tryz.zeroValue26 rfl (ones_cons rfl (ones_cons rfl ones_nil))
 refine FL.v (E.alloc run23) ?_
 refine FL.v (E.assign (v := Value.int .i64 0) rfl) ?_
 refine FL.nil (FW.seq (FW.region ?_))
 refine FL.v (E.move (v := v0) rfl) ?_
 refine FL.v (E.build (B1 rfl) (run_build _ 92 #[(0, v0)] #[v0, Value.int .i64 0, Value.int .u64 0] (by obtain ⟨_, _, rfl⟩ := RSl.ln p0; rfl))) ?_
 obtain ⟨b25, w26, run27, S28⟩ := S24.box (P := Tryz.prog) 92 [v0, Value.int .i64 0, Value.int .u64 0] (v := Value.agg #[v0, Value.int .i64 0, Value.int .u64 0]) rfl (ones_cons p0.one (ones_cons rfl (ones_cons rfl ones_nil)))
 refine FL.v (E.box rfl run27) ?_
 refine FL.v (E.assign (v := Value.pointer (some (⟨b25, 0, none⟩ : Addr))) rfl) ?_
 refine FL.nil (FW.seq (FW.region ?_))
 refine FL.v (E.move (v := Value.pointer (some (⟨b25, 0, none⟩ : Addr))) rfl) ?_
 obtain ⟨r29, hr30, hp⟩ := bnd hp
 refine FL.call rfl rfl rfl (E.call Tryz.call67 (A1 rfl)) (w_spec_l1Cur_cnf (L := [.box b21 26 [Value.int .i64 0, Value.slice none 0 0]]) S28 (a0 := (l1Cur.mk a0 0 0)) p0 hr30) ?_
 rintro e w32 ⟨H31, v35, v37, rfl, ⟨S33, i34⟩, h36, h38⟩
 refine ⟨_, rfl, ?_⟩
 have S33 : St Ha wa H31 w32 [.box b25 92 [v37, Value.int .i64 r29.2.at_, Value.int .u64 r29.2.seed], .box b21 26 [Value.int .i64 0, Value.slice none 0 0]] := S33
 obtain ⟨b39, w40, run41, S42⟩ := S33.alloc (P := Tryz.prog) 26 [Value.int .i64 0, Value.slice none 0 0] Tryz.zeroValue26 rfl (ones_cons rfl (ones_cons rfl ones_nil))
 refine FL.v (E.alloc run41) ?_
 obtain ⟨w43, run44, S45⟩ := S42.store0 (P := Tryz.prog) (t := 26) (i := 0) (cs' := [Value.int .i64 r29.1.vars, v35]) (l' := [.box b39 26 [Value.int .i64 r29.1.vars, v35], .box b25 92 [v37, Value.int .i64 r29.2.at_, Value.int .u64 r29.2.seed], .box b21 26 [Value.int .i64 0, Value.slice none 0 0]]) (v := Value.agg #[Value.int .i64 r29.1.vars, v35]) (c := [Value.int .i64 r29.1.vars, v35]) rfl Tryz.sizeOf26 rfl rfl (ones_cons rfl (ones_cons h36.one ones_nil)) (Nat.le_of_ble_eq_true rfl) rfl rfl
 refine FL.act rfl rfl (E.store rfl rfl run44) ?_
 obtain ⟨H46, S47, i48, at49⟩ := S45.sealBox (i := 0) (l' := [.box b25 92 [v37, Value.int .i64 r29.2.at_, Value.int .u64 r29.2.seed], .box b21 26 [Value.int .i64 0, Value.slice none 0 0]]) rfl rfl
 refine FL.nil (FW.seq (FW.seq (FW.region ?_)))
 refine FL.v (E.fieldAddr tf26_0 rfl) ?_
 refine FL.v (E.load rfl (run_load1 Tryz.isAgg3 (at49.now S47.sl) rfl)) ?_
 refine FL.v (E.lss rfl rfl) ?_
 refine FL.v (E.move (v := Value.bool (decide (r29.1.vars < 1))) rfl) ?_
 obtain ⟨t58, hqt58, hp⟩ := bnd hp
 refine FL.cut 3 (fun f w => ∃ H : GH, ∃ v60 : Value, St Ha wa H w [.box b25 92 [v60, Value.int .i64 t58.2.1, Value.int .u64 t58.2.2.1], .box b21 26 [Value.int .i64 0, Value.slice none 0 0]] ∧ Inc H46 H ∧ RSl H (eN .u8) 1 v60 t58.1 ∧ f 2 = Value.pointer (some (⟨b21, 0, none⟩ : Addr)) ∧ f 4 = Value.pointer (some (⟨b25, 0, none⟩ : Addr)) ∧ f 5 = Value.pointer (some ⟨b39, 0, none⟩) ∧ f 17 = Value.bool t58.2.2.2) ?_ ?_
 ·
  clear hp; have hp := hqt58; clear hqt58
  rcases ifB hp with ⟨c59, hp⟩ | ⟨c59, hp⟩
  ·
   refine FL.skip (wF_no rfl rfl rfl c59) rfl ?_
   refine FL.skip (wF_no rfl rfl rfl c59) rfl ?_
   refine FL.v (E.pickT rfl c59 rfl) ?_
   obtain rfl := Option.some.inj hp
   exact FL.nil ⟨rfl, ⟨_, _, S47, (Inc.rfl _), (h38.mono i48), rfl, rfl, rfl, rfl⟩⟩
  ·
   refine FL.val (wF_yes rfl rfl rfl c59) rfl rfl (E.move (v := Value.pointer (some (⟨b25, 0, none⟩ : Addr))) rfl) ?_
   obtain ⟨r62, hr63, hp⟩ := bnd hp
   refine FL.call (wF_yes rfl rfl rfl c59) rfl rfl (E.call Tryz.call68 (A2 rfl rfl)) (w_spec_l1Cur_one (L := [.box b21 26 [Value.int .i64 0, Value.slice none 0 0]]) S47 (a0 := r29.2) (h38.mono i48) 16 hr63) ?_
   rintro e w65 ⟨H64, v68, rfl, ⟨S66, i67⟩, h69⟩
   refine ⟨_, rfl, ?_⟩
   have S66 : St Ha wa H64 w65 [.box b25 92 [v68, Value.int .i64 r62.2.at_, Value.int .u64 r62.2.seed], .box b21 26 [Value.int .i64 0, Value.slice none 0 0]] := S66
   refine FL.v (E.pickF rfl c59 rfl) ?_
   obtain rfl := Option.some.inj hp
   exact FL.nil ⟨rfl, ⟨_, _, S66, i67, h69, rfl, rfl, rfl, rfl⟩⟩
 clear hqt58
 rintro f74 w73 ⟨H70, v60, S71, i72, h61, k75, k76, k77, k78⟩
 refine FL.nil ?_
 rcases ifB hp with ⟨c79, hp⟩ | ⟨c79, hp⟩
 ·
  refine FW.condT k78 c79 ?_
  refine FW.seq ?_
  obtain ⟨r85, hr86, hp⟩ := bnd hp
  refine FW.drawB (Sl H70) (fun f w => ∃ H : GH, ∃ v96 : Value, St Ha wa H w [.box b21 26 [Value.int .i64 r29.1.vars, v96]] ∧ Inc H70 H ∧ RSl (up wa.heap.size H) (eL eI 1) 1 v96 r29.1.clauses ∧ f 2 = Value.pointer (some (⟨b21, 0, none⟩ : Addr)) ∧ f 3 = Value.int .i64 r85.1) (by kernel_rfl) S71.sl ?_ ?_
  ·
   intro w80 r81
   have S82 := S71.call r81
   refine FB.t (i := 0) (bs 9 1) rfl (SP.nil S82.sl) rfl (fun w' hw' => (E.load k77 (run_loadA Tryz.isAgg26 Tryz.sizeOf26 ((at49.mono i72).now hw') rfl))) ?_
   refine FB.t (i := 1) (bs 9 3) rfl (SP.nil S82.sl) rfl (fun w' hw' => (E.move k76)) ?_
   refine FB.t (i := 2) (bs 9 7) rfl (SP.nil S82.sl) rfl (fun w' hw' => (E.fieldAddr tf26_0 k77)) ?_
   refine FB.t (i := 3) (bs 9 15) rfl (SP.nil S82.sl) rfl (fun w' hw' => (E.load rfl (run_load1 Tryz.isAgg3 ((at49.mono i72).now hw') rfl))) ?_
   refine FB.t (i := 4) (bs 9 31) rfl (SP.nil S82.sl) rfl (fun w' hw' => (E.add rfl rfl)) ?_
   refine FB.all1 (i := 5) (by kernel_rfl) ?_
   ·
    obtain ⟨v50, w51, run52, S53⟩ := S82.buildSlice (P := Tryz.prog) te34 [Value.int .i64 (-1), Value.int .i64 0, Value.int .i64 (wr (r29.1.vars + 1))] (parts := #[(0, Value.int .i64 (-1)), (1, Value.int .i64 0), (2, Value.int .i64 (wr (r29.1.vars + 1)))]) (cells := [Value.int .i64 (-1), Value.int .i64 0, Value.int .i64 (wr (r29.1.vars + 1))]) rfl (szs_cons rfl (szs_cons rfl (szs_cons rfl szs_nil))) (fc_cons rfl (fc_cons rfl (fc_cons rfl fc_nil))) (ones_cons rfl (ones_cons rfl (ones_cons rfl ones_nil))) (Nat.le_of_ble_eq_true rfl)
    have els54 : Els (up wa.heap.size H70) eI 1 [Value.int .i64 (-1), Value.int .i64 0, Value.int .i64 (wr (r29.1.vars + 1))] [(-1), 0, (wr (r29.1.vars + 1))] := (Els.snoc (H := (up wa.heap.size H70)) (E := eI) (k := 1) (c := [Value.int .i64 (wr (r29.1.vars + 1))]) (x := (wr (r29.1.vars + 1))) (Els.snoc (H := (up wa.heap.size H70)) (E := eI) (k := 1) (c := [Value.int .i64 0]) (x := 0) (Els.snoc (H := (up wa.heap.size H70)) (E := eI) (k := 1) (c := [Value.int .i64 (-1)]) (x := (-1)) Els.nil rfl rfl) rfl rfl) rfl rfl)
    refine FC.val (l' := (bs 9 63)) rfl (by kernel_rfl) rfl rfl rfl (E.buildSlice (B3 rfl rfl rfl) run52) ?_
    refine ⟨(SP.nil S53.sl), ?_⟩
    refine FB.all1 (i := 6) (by kernel_rfl) ?_
    ·
     obtain ⟨H55, S56, i57, h83, nv84⟩ := S53.sealRowU (i := 0) (l' := [.box b25 92 [v60, Value.int .i64 t58.2.1, Value.int .u64 t58.2.2.1], .box b21 26 [Value.int .i64 0, Value.slice none 0 0]]) rfl els54 (by decide) rfl
     refine FC.call (l' := (bs 9 127)) rfl (by kernel_rfl) rfl rfl rfl (E.call Tryz.call69 (A2 rfl rfl)) (w_spec_l1Cur_among (L := [.box b21 26 [Value.int .i64 0, Value.slice none 0 0]]) S56 (a0 := (l1Cur.mk t58.1 t58.2.1 t58.2.2.1)) (h61.mono i57) v50 [(-1), 0, (wr (r29.1.vars + 1))] (h83.mono upI) hr86) ?_
     rintro e w88 ⟨H87, v91, rfl, ⟨S89, i90⟩, h92⟩
     refine ⟨_, rfl, ?_⟩
     have S89 : St Ha wa H87 w88 [.box b25 92 [v91, Value.int .i64 r85.2.at_, Value.int .u64 r85.2.seed], .box b21 26 [Value.int .i64 0, Value.slice none 0 0]] := S89
     refine ⟨(SP.nil (Sl.of_inc (i57.tr i90) S89.sl)), ?_⟩
     refine FB.all1 (i := 7) (by kernel_rfl) ?_
     ·
      obtain ⟨w93, run94, S95⟩ := S89.store0 (P := Tryz.prog) (t := 26) (i := 1) (cs' := [Value.int .i64 r29.1.vars, v35]) (l' := [.box b25 92 [v91, Value.int .i64 r85.2.at_, Value.int .u64 r85.2.seed], .box b21 26 [Value.int .i64 r29.1.vars, v35]]) (v := Value.agg #[Value.int .i64 r29.1.vars, v35]) (c := [Value.int .i64 r29.1.vars, v35]) rfl Tryz.sizeOf26 rfl rfl (ones_cons rfl (ones_cons h36.one ones_nil)) (Nat.le_of_ble_eq_true rfl) rfl rfl
      refine FC.act (l' := (bs 9 255)) rfl (by kernel_rfl) rfl rfl (E.store k75 rfl run94) ?_
      refine ⟨(SP.nil (Sl.of_inc (i57.tr i90) S95.sl)), ?_⟩
      refine FB.t (i := 8) (bs 9 511) rfl (SP.nil (Sl.of_inc (i57.tr i90) S95.sl)) rfl (fun w' hw' => (E.assign (v := Value.int .i64 r85.1) rfl)) ?_
      exact FB.done (by kernel_rfl) ⟨_, _, (S95.sel [1] (by decide) rfl), (i57.tr i90), (h36.mono (up_mono (((i48.tr i72).tr i57).tr i90))), k75, rfl⟩
  ·
   rintro f102 w101 ⟨H98, v96, S99, i100, h97, k103, k104⟩
   refine FW.ret ?_
   obtain rfl := Option.some.inj hp
   exact ⟨.inr rfl, resC2 rfl k103 (loadVar_A Tryz.isAgg26 Tryz.sizeOf26 (S99.box_now (i := 0) rfl) rfl) k104 ⟨_, _, rfl, S99.run, h97⟩⟩
 ·
  refine FW.condF k78 c79 ?_
  refine FW.skip (FW.seq ?_)
  obtain ⟨r111, hr112, hp⟩ := bnd hp
  refine FW.drawB (Sl H70) (fun f w => ∃ H : GH, ∃ v122 : Value, St Ha wa H w [.box b21 26 [Value.int .i64 r29.1.vars, v122]] ∧ Inc H70 H ∧ RSl (up wa.heap.size H) (eL eI 1) 1 v122 r29.1.clauses ∧ f 2 = Value.pointer (some (⟨b21, 0, none⟩ : Addr)) ∧ f 3 = Value.int .i64 (wr (1 + r111.1))) (by kernel_rfl) S71.sl ?_ ?_
  ·
   intro w105 r106
   have S107 := S71.call r106
   refine FB.t (i := 0) (bs 9 1) rfl (SP.nil S107.sl) rfl (fun w' hw' => (E.load k77 (run_loadA Tryz.isAgg26 Tryz.sizeOf26 ((at49.mono i72).now hw') rfl))) ?_
   refine FB.t (i := 1) (bs 9 3) rfl (SP.nil S107.sl) rfl (fun w' hw' => (E.move k76)) ?_
   refine FB.t (i := 2) (bs 9 7) rfl (SP.nil S107.sl) rfl (fun w' hw' => (E.fieldAddr tf26_0 k77)) ?_
   refine FB.t (i := 3) (bs 9 15) rfl (SP.nil S107.sl) rfl (fun w' hw' => (E.load rfl (run_load1 Tryz.isAgg3 ((at49.mono i72).now hw') rfl))) ?_
   refine FB.all1 (i := 4) (by kernel_rfl) ?_
   ·
    refine FC.call (l' := (bs 9 31)) rfl (by kernel_rfl) rfl rfl rfl (E.call Tryz.call71 (A2 rfl rfl)) (w_spec_l1Least S107.sl r29.1.vars 12) ?_
    rintro e w108 ⟨rfl, r109⟩
    refine ⟨_, rfl, ?_⟩
    have S110 := S107.call r109
    refine ⟨(SP.nil S110.sl), ?_⟩
    refine FB.all1 (i := 5) (by kernel_rfl) ?_
    ·
     refine FC.call (l' := (bs 9 63)) rfl (by kernel_rfl) rfl rfl rfl (E.call Tryz.call70 (A2 rfl rfl)) (w_spec_l1Cur_pick (L := [.box b21 26 [Value.int .i64 0, Value.slice none 0 0]]) S110 (a0 := (l1Cur.mk t58.1 t58.2.1 t58.2.2.1)) h61 (PF.spec_l1Least r29.1.vars 12) hr112) ?_
     rintro e w114 ⟨H113, v117, rfl, ⟨S115, i116⟩, h118⟩
     refine ⟨_, rfl, ?_⟩
     have S115 : St Ha wa H113 w114 [.box b25 92 [v117, Value.int .i64 r111.2.at_, Value.int .u64 r111.2.seed], .box b21 26 [Value.int .i64 0, Value.slice none 0 0]] := S115
     refine ⟨(SP.nil (Sl.of_inc i116 S115.sl)), ?_⟩
     refine FB.t (i := 6) (bs 9 127) rfl (SP.nil (Sl.of_inc i116 S115.sl)) rfl (fun w' hw' => (E.add rfl rfl)) ?_
     refine FB.all1 (i := 7) (by kernel_rfl) ?_
     ·
      obtain ⟨w119, run120, S121⟩ := S115.store0 (P := Tryz.prog) (t := 26) (i := 1) (cs' := [Value.int .i64 r29.1.vars, v35]) (l' := [.box b25 92 [v117, Value.int .i64 r111.2.at_, Value.int .u64 r111.2.seed], .box b21 26 [Value.int .i64 r29.1.vars, v35]]) (v := Value.agg #[Value.int .i64 r29.1.vars, v35]) (c := [Value.int .i64 r29.1.vars, v35]) rfl Tryz.sizeOf26 rfl rfl (ones_cons rfl (ones_cons h36.one ones_nil)) (Nat.le_of_ble_eq_true rfl) rfl rfl
      refine FC.act (l' := (bs 9 255)) rfl (by kernel_rfl) rfl rfl (E.store k75 rfl run120) ?_
      refine ⟨(SP.nil (Sl.of_inc i116 S121.sl)), ?_⟩
      refine FB.t (i := 8) (bs 9 511) rfl (SP.nil (Sl.of_inc i116 S121.sl)) rfl (fun w' hw' => (E.assign (v := Value.int .i64 (wr (1 + r111.1))) rfl)) ?_
      exact FB.done (by kernel_rfl) ⟨_, _, (S121.sel [1] (by decide) rfl), i116, (h36.mono (up_mono ((i48.tr i72).tr i116))), k75, rfl⟩
  ·
   rintro f128 w127 ⟨H124, v122, S125, i126, h123, k129, k130⟩
   refine FW.ret ?_
   obtain rfl := Option.some.inj hp
   exact ⟨.inr rfl, resC2 rfl k129 (loadVar_A Tryz.isAgg26 Tryz.sizeOf26 (S125.box_now (i := 0) rfl) rfl) k130 ⟨_, _, rfl, S125.run, h123⟩⟩

theorem w_impl_within {Ha : GH} {wa : World} (hs : Sl Ha wa) (a0 : Int) (a1 : Int) (a2 : Int) :
  Calls Tryz.prog 87 #[Value.int .i64 a0, Value.int .i64 a1, Value.int .i64 a2] wa (Sc Ha wa (Value.bool (PF.impl_within a0 a1 a2))) := by
 obtain ⟨r, hp⟩ : ∃ r, (PF.impl_within a0 a1 a2) = r := ⟨_, rfl⟩
 rw [hp]
 unfold PF.impl_within at hp
 have S0 := St.init hs
 refine calls_go (N := 15) (args := [Value.int .i64 a0, Value.int .i64 a1, Value.int .i64 a2]) Tryz.func87 rfl rfl rfl ?_
 refine FW.seq (FW.region ?_)
 refine FL.v (E.assign (v := Value.bool false) rfl) ?_
 refine FL.nil (FW.seq (FW.region ?_))
 refine FL.v (E.move (v := Value.int .i64 a0) rfl) ?_
 refine FL.v (E.move (v := Value.int .i64 a1) rfl) ?_
 refine FL.v (E.geq rfl rfl) ?_
 refine FL.v (E.move (v := Value.bool (decide (a1 ≤ a0))) rfl) ?_
 refine FL.cut 4 (fun f w => ∃ H : GH, St Ha wa H w [] ∧ Inc Ha H ∧ f 14 = Value.bool (bif (decide (a1 ≤ a0)) then (decide (a0 ≤ a2)) else false)) ?_ ?_
 ·
  rcases bcase (decide (a1 ≤ a0)) with c27 | c27
  ·
   refine FL.val (wF_yes rfl rfl rfl c27) rfl rfl (E.move (v := Value.int .i64 a0) rfl) ?_
   refine FL.val (wF_yes rfl rfl rfl c27) rfl rfl (E.move (v := Value.int .i64 a2) rfl) ?_
   refine FL.val (wF_yes rfl rfl rfl c27) rfl rfl (E.leq rfl rfl) ?_
   refine FL.v (E.pickT rfl c27 rfl) ?_
   exact FL.nil ⟨rfl, _, S0, (Inc.rfl _), (congrArg Value.bool (bifT c27).symm)⟩
  ·
   refine FL.skip (wF_no rfl rfl rfl c27) rfl ?_
   refine FL.skip (wF_no rfl rfl rfl c27) rfl ?_
   refine FL.skip (wF_no rfl rfl rfl c27) rfl ?_
   refine FL.v (E.pickF rfl c27 rfl) ?_
   exact FL.nil ⟨rfl, _, S0, (Inc.rfl _), (congrArg Value.bool (bifF c27).symm)⟩
 rintro f26 w25 ⟨H22, S23, i24, k28⟩
 refine FL.v (E.assign k28) ?_
 refine FL.nil ?_
 refine FW.ret ?_
 obtain rfl := hp
 exact ⟨.inr rfl, res1 rfl rfl ⟨rfl, S23.back⟩⟩

theorem w_impl_isLiteral {Ha : GH} {wa : World} (hs : Sl Ha wa) (a0 : Int) (a1 : Int) :
  Calls Tryz.prog 213 #[Value.int .i64 a0, Value.int .i64 a1] wa (Sc Ha wa (Value.bool (PF.impl_isLiteral a0 a1))) := by
 obtain ⟨r, hp⟩ : ∃ r, (PF.impl_isLiteral a0 a1) = r := ⟨_, rfl⟩
 rw [hp]
 unfold PF.impl_isLiteral at hp
 have S0 := St.init hs
 refine calls_go (N := 14) (args := [Value.int .i64 a0, Value.int .i64 a1]) Tryz.func213 rfl rfl rfl ?_
 refine FW.seq (FW.region ?_)
 refine FL.v (E.assign (v := Value.bool false) rfl) ?_
 refine FL.nil (FW.seq (FW.region ?_))
 refine FL.v (E.move (v := Value.int .i64 a1) rfl) ?_
 refine FL.v (E.neq rfl rfl) ?_
 refine FL.v (E.move (v := Value.bool (!(a1 == 0))) rfl) ?_
 refine FL.cut 6 (fun f w => ∃ H : GH, St Ha wa H w [] ∧ Inc Ha H ∧ f 13 = Value.bool (bif (!(a1 == 0)) then (PF.impl_within a1 (wr (-a0)) a0) else false)) ?_ ?_
 ·
  rcases bcase (!(a1 == 0)) with c30 | c30
  ·
   refine FL.val (wF_yes rfl rfl rfl c30) rfl rfl (E.move (v := Value.int .i64 a1) rfl) ?_
   refine FL.val (wF_yes rfl rfl rfl c30) rfl rfl (E.move (v := Value.int .i64 a0) rfl) ?_
   refine FL.val (wF_yes rfl rfl rfl c30) rfl rfl (E.neg rfl) ?_
   refine FL.val (wF_yes rfl rfl rfl c30) rfl rfl (E.move (v := Value.int .i64 a0) rfl) ?_
   refine FL.call (wF_yes rfl rfl rfl c30) rfl rfl (E.call Tryz.call87 (A3 rfl rfl rfl)) (w_impl_within S0.sl a1 (wr (-a0)) a0) ?_
   rintro e w31 ⟨rfl, r32⟩
   refine ⟨_, rfl, ?_⟩
   have S33 := S0.call r32
   refine FL.v (E.pickT rfl c30 rfl) ?_
   exact FL.nil ⟨rfl, _, S33, (Inc.rfl _), (congrArg Value.bool (bifT c30).symm)⟩
  ·
   refine FL.skip (wF_no rfl rfl rfl c30) rfl ?_
   refine FL.skip (wF_no rfl rfl rfl c30) rfl ?_
   refine FL.skip (wF_no rfl rfl rfl c30) rfl ?_
   refine FL.skip (wF_no rfl rfl rfl c30) rfl ?_
   refine FL.skip (wF_no rfl rfl rfl c30) rfl ?_
   refine FL.v (E.pickF rfl c30 rfl) ?_
   exact FL.nil ⟨rfl, _, S0, (Inc.rfl _), (congrArg Value.bool (bifF c30).symm)⟩
 rintro f29 w28 ⟨H25, S26, i27, k34⟩
 refine FL.v (E.assign k34) ?_
 refine FL.nil ?_
 refine FW.ret ?_
 obtain rfl := hp
 exact ⟨.inr rfl, res1 rfl rfl ⟨rfl, S26.back⟩⟩

theorem w_impl_abs {Ha : GH} {wa : World} (hs : Sl Ha wa) (a0 : Int) :
  Calls Tryz.prog 214 #[Value.int .i64 a0] wa (Sc Ha wa (Value.int .i64 (PF.impl_abs a0))) := by
 obtain ⟨r, hp⟩ : ∃ r, (PF.impl_abs a0) = r := ⟨_, rfl⟩
 rw [hp]
 unfold PF.impl_abs at hp
 have S0 := St.init hs
 refine calls_go (N := 7) (args := [Value.int .i64 a0]) Tryz.func214 rfl rfl rfl ?_
 refine FW.seq (FW.region ?_)
 refine FL.v (E.assign (v := Value.int .i64 0) rfl) ?_
 refine FL.nil (FW.seq (FW.region ?_))
 refine FL.v (E.move (v := Value.int .i64 a0) rfl) ?_
 refine FL.v (E.move (v := Value.int .i64 a0) rfl) ?_
 refine FL.v (E.neg rfl) ?_
 refine FL.v (E.max2 rfl rfl) ?_
 refine FL.v (E.assign (v := Value.int .i64 (mx a0 (wr (-a0)))) rfl) ?_
 refine FL.nil ?_
 refine FW.ret ?_
 obtain rfl := hp
 exact ⟨.inr rfl, res1 rfl rfl ⟨rfl, S0.back⟩⟩

theorem w_impl_varsOk {Ha : GH} {wa : World} (hs : Sl Ha wa) (a0 : Int) :
  Calls Tryz.prog 96 #[Value.int .i64 a0] wa (Sc Ha wa (Value.bool (PF.impl_varsOk a0))) := by
 obtain ⟨r, hp⟩ : ∃ r, (PF.impl_varsOk a0) = r := ⟨_, rfl⟩
 rw [hp]
 unfold PF.impl_varsOk at hp
 have S0 := St.init hs
 refine calls_go (N := 5) (args := [Value.int .i64 a0]) Tryz.func96 rfl rfl rfl ?_
 refine FW.seq (FW.region ?_)
 refine FL.v (E.assign (v := Value.bool false) rfl) ?_
 refine FL.nil (FW.seq (FW.region ?_))
 refine FL.v (E.move (v := Value.int .i64 a0) rfl) ?_
 refine FL.call rfl rfl rfl (E.call Tryz.call87 (A3 rfl rfl rfl)) (w_impl_within S0.sl a0 0 12) ?_
 rintro e w21 ⟨rfl, r22⟩
 refine ⟨_, rfl, ?_⟩
 have S23 := S0.call r22
 refine FL.v (E.assign (v := Value.bool (PF.impl_within a0 0 12)) rfl) ?_
 refine FL.nil ?_
 refine FW.ret ?_
 obtain rfl := hp
 exact ⟨.inr rfl, res1 rfl rfl ⟨rfl, S23.back⟩⟩

theorem w_impl_IsClause {Ha : GH} {wa : World} (hs : Sl Ha wa) (a0 : Int) (v1 : Value) (a1 : List Int) (p1 : RSl Ha eI 1 v1 a1) {r : Bool} (hp : (PF.impl_IsClause a0 a1) = some r) :
  Calls Tryz.prog 118 #[Value.int .i64 a0, v1] wa (Sc Ha wa (Value.bool r)) := by
 unfold PF.impl_IsClause at hp
 have S0 := St.init hs
 refine calls_go (N := 36) (args := [Value.int .i64 a0, v1]) Tryz.func118 rfl rfl rfl ?_
 refine FW.seq (FW.region ?_)
 refine FL.v (E.assign (v := Value.bool false) rfl) ?_
 refine FL.nil (FW.seq (FW.seq (FW.region ?_)))
 refine FL.v (E.move (v := v1) rfl) ?_
 refine FL.v (E.lenP te34 rfl p1) ?_
 refine FL.v (E.move (v := Value.int .i64 0) rfl) ?_
 refine FL.nil ?_
 obtain ⟨q22, hq, hp⟩ := bndR hp
 refine FW.block ?_
 refine FW.mono (FW.forL (S := Unit) (X := Bool) (fun (i22 : Nat) (s22 : Unit) f w => ∃ H : GH, St Ha wa H w [] ∧ Inc Ha H ∧ f 9 = Value.int .i64 ((i22 : Nat) : Int) ∧ f 0 = Value.int .i64 a0 ∧ f 1 = v1 ∧ f 7 = v1 ∧ f 8 = Value.int .i64 (len a1)) (fun q e f w => match q with | .go s22 => e = Exit.exit 0 ∧ (∃ H : GH, St Ha wa H w [] ∧ Inc Ha H ∧ f 0 = Value.int .i64 a0) | .rt x => ((e = Exit.ret) ∧ (fun e f w => (e = Exit.normal ∨ e = Exit.ret) ∧ ∀ a, Fr (δ := []) 36 a f → ∃ v, (results Tryz.f118 a.tmps).run Tryz.prog w = .ok v w ∧ (Sc Ha wa (Value.bool x)) (.returned v) w) e f w)) hq ⟨_, S0, (Inc.rfl _), rfl, rfl, rfl, rfl, rfl⟩ ?_ ?_) ?_
 ·
  clear hp hq
  rintro i22 y21 s22 f121 w120 ⟨H117, S118, i119, k122, k123, k124, k125, k126⟩ hx22 o211 hp
  refine FW.seq (FW.region ?_)
  refine FL.v (E.lssT k122 k126 (lss_len hx22)) ?_
  refine FL.nil (FW.seq ?_)
  refine FW.condT rfl rfl ?_
  refine FW.skip (FW.seq (FW.block (FW.seq (FW.region ?_))))
  refine FL.v (E.move k122) ?_
  obtain ⟨p127, cs128, pt129, l130, at131, rel132⟩ := p1.at (ix_nat hx22)
  obtain rfl := eI_open rel132
  refine FL.v (E.indexAddr te34 k125 k122 pt129) ?_
  refine FL.v (E.load rfl (run_load0 Tryz.isAgg3 ((at131.mono i119).now S118.sl) rfl)) ?_
  refine FL.v (E.assign (v := Value.int .i64 ((i22 : Nat) : Int)) rfl) ?_
  refine FL.v (E.assign (v := Value.int .i64 y21) rfl) ?_
  refine FL.nil (FW.seq ?_)
  refine FW.draw (fun w' => Run w120.heap.size H117 w120 H117 w') (by kernel_rfl) (by kernel_rfl) (run_drew S118.sl) ?_
  refine FD.val rfl rfl rfl (fun w' hw' => (E.move k123)) ?_
  refine FD.val rfl rfl rfl (fun w' hw' => (E.move (v := Value.int .i64 y21) rfl)) ?_
  refine FD.call rfl rfl rfl (fun w' hw' => (E.call Tryz.call213 (A2 rfl rfl))) (fun w' hw' => Calls.cls hw' (w_impl_isLiteral (S118.call hw').sl a0 y21)) ?_
  refine FD.val rfl rfl rfl (fun w' hw' => (E.not rfl)) ?_
  refine FD.val rfl rfl rfl (fun w' hw' => (E.move (v := Value.bool (!(PF.impl_isLiteral a0 y21))) rfl)) ?_
  obtain ⟨t164, hqt164, hp⟩ := bnd hp
  refine FD.cut 14 (fun f => f 0 = Value.int .i64 a0 ∧ f 1 = v1 ∧ f 7 = v1 ∧ f 8 = Value.int .i64 (len a1) ∧ f 9 = Value.int .i64 ((i22 : Nat) : Int) ∧ f 32 = Value.bool t164) ?_ ?_
  ·
   clear hp; have hp := hqt164; clear hqt164
   rcases ifB hp with ⟨c170, hp⟩ | ⟨c170, hp⟩
   ·
    refine FD.skip (wF_no rfl rfl rfl c170) rfl ?_
    refine FD.skip (wF_no rfl rfl rfl c170) rfl ?_
    refine FD.skip (wF_no rfl rfl rfl c170) rfl ?_
    refine FD.skip (wF_undef rfl rfl rfl) rfl ?_
    refine FD.skip (wF_undef rfl rfl rfl) rfl ?_
    refine FD.skip (wF_undef rfl rfl rfl) rfl ?_
    refine FD.skip (wF_undef rfl rfl rfl) rfl ?_
    refine FD.skip (wF_undef rfl rfl rfl) rfl ?_
    refine FD.skip (wF_undef rfl rfl rfl) rfl ?_
    refine FD.skip (wF_undef rfl rfl rfl) rfl ?_
    refine FD.skip (wF_undef rfl rfl rfl) rfl ?_
    refine FD.skip (wF_undef rfl rfl rfl) rfl ?_
    refine FD.skip (wF_no rfl rfl rfl c170) rfl ?_
    obtain rfl := Option.some.inj hp
    refine FD.val rfl rfl rfl (fun w' hw' => (E.pickT rfl c170 rfl)) ?_
    exact FD.nil ⟨k123, k124, k125, k126, k122, rfl⟩
   ·
    refine FD.val (wF_yes rfl rfl rfl c170) rfl rfl (fun w' hw' => (E.move (v := Value.int .i64 ((i22 : Nat) : Int)) rfl)) ?_
    refine FD.val (wF_yes rfl rfl rfl c170) rfl rfl (fun w' hw' => (E.gtr rfl rfl)) ?_
    refine FD.val (wF_yes rfl rfl rfl c170) rfl rfl (fun w' hw' => (E.move (v := Value.bool (decide (0 < ((i22 : Nat) : Int)))) rfl)) ?_
    obtain ⟨t179, hqt179, hp⟩ := bnd hp
    refine FD.cut 10 (fun f => f 0 = Value.int .i64 a0 ∧ f 1 = v1 ∧ f 7 = v1 ∧ f 8 = Value.int .i64 (len a1) ∧ f 9 = Value.int .i64 ((i22 : Nat) : Int) ∧ f 18 = Value.bool (!(PF.impl_isLiteral a0 y21)) ∧ f 31 = Value.bool t179) ?_ ?_
    ·
     clear hp; have hp := hqt179; clear hqt179
     rcases ifB hp with ⟨c185, hp⟩ | ⟨c185, hp⟩
     ·
      refine FD.val (wF_yes rfl rfl rfl c185) rfl rfl (fun w' hw' => (E.move (v := Value.int .i64 y21) rfl)) ?_
      refine FD.call (wF_yes rfl rfl rfl c185) rfl rfl (fun w' hw' => (E.call Tryz.call214 (A1 rfl))) (fun w' hw' => Calls.cls hw' (w_impl_abs (S118.call hw').sl y21)) ?_
      refine FD.val (wF_yes rfl rfl rfl c185) rfl rfl (fun w' hw' => (E.move k124)) ?_
      refine FD.val (wF_yes rfl rfl rfl c185) rfl rfl (fun w' hw' => (E.move (v := Value.int .i64 ((i22 : Nat) : Int)) rfl)) ?_
      refine FD.val (wF_yes rfl rfl rfl c185) rfl rfl (fun w' hw' => (E.sub rfl rfl)) ?_
      obtain ⟨x192, hx193, hp⟩ := bnd hp
      obtain ⟨p186, cs187, pt188, l189, at190, rel191⟩ := p1.at hx193
      obtain rfl := eI_open rel191
      refine FD.val (wF_yes rfl rfl rfl c185) rfl rfl (fun w' hw' => (E.indexAddr te34 rfl rfl pt188)) ?_
      refine FD.val (wF_yes rfl rfl rfl c185) rfl rfl (fun w' hw' => (E.load rfl (run_load0 Tryz.isAgg3 ((at190.mono i119).now (S118.call hw').sl) rfl))) ?_
      refine FD.call (wF_yes rfl rfl rfl c185) rfl rfl (fun w' hw' => (E.call Tryz.call214 (A1 rfl))) (fun w' hw' => Calls.cls hw' (w_impl_abs (S118.call hw').sl x192)) ?_
      refine FD.val (wF_yes rfl rfl rfl c185) rfl rfl (fun w' hw' => (E.leq rfl rfl)) ?_
      obtain rfl := Option.some.inj hp
      refine FD.val (wF_yes rfl rfl rfl c170) rfl rfl (fun w' hw' => (E.pickT rfl c185 rfl)) ?_
      exact FD.nil ⟨k123, k124, k125, k126, k122, rfl, rfl⟩
     ·
      refine FD.skip (wF_no rfl rfl rfl c185) rfl ?_
      refine FD.skip (wF_no rfl rfl rfl c185) rfl ?_
      refine FD.skip (wF_no rfl rfl rfl c185) rfl ?_
      refine FD.skip (wF_no rfl rfl rfl c185) rfl ?_
      refine FD.skip (wF_no rfl rfl rfl c185) rfl ?_
      refine FD.skip (wF_no rfl rfl rfl c185) rfl ?_
      refine FD.skip (wF_no rfl rfl rfl c185) rfl ?_
      refine FD.skip (wF_no rfl rfl rfl c185) rfl ?_
      refine FD.skip (wF_no rfl rfl rfl c185) rfl ?_
      obtain rfl := Option.some.inj hp
      refine FD.val (wF_yes rfl rfl rfl c170) rfl rfl (fun w' hw' => (E.pickF rfl c185 rfl)) ?_
      exact FD.nil ⟨k123, k124, k125, k126, k122, rfl, rfl⟩
    rintro f184 ⟨k194, k195, k196, k197, k198, k199, k200⟩
    obtain rfl := Option.some.inj hp
    refine FD.val rfl rfl rfl (fun w' hw' => (E.pickF k199 c170 k200)) ?_
    exact FD.nil ⟨k194, k195, k196, k197, k198, rfl⟩
  rintro f169 ⟨k201, k202, k203, k204, k205, k206⟩
  refine FD.nil ?_
  intro w207 r209
  have S208 := S118.call r209
  rcases ifB hp with ⟨c210, hp⟩ | ⟨c210, hp⟩
  ·
   refine FW.condT k206 c210 ?_
   refine FW.seq (FW.region ?_)
   refine FL.v (E.assign (v := Value.bool false) rfl) ?_
   refine FL.nil ?_
   refine FW.ret ?_
   obtain rfl := Option.some.inj hp
   exact ⟨nofun, rfl, ⟨.inr rfl, res1 rfl rfl ⟨rfl, S208.back⟩⟩⟩
  ·
   refine FW.condF k206 c210 ?_
   refine FW.skip (FW.region ?_)
   refine FL.v (E.add k205 rfl) ?_
   refine FL.v (E.move (v := Value.int .i64 (wr (((i22 : Nat) : Int) + 1))) rfl) ?_
   refine FL.nil ?_
   obtain rfl := Option.some.inj hp
   exact ⟨rfl, ⟨_, S208, i119, (nat_succ rfl (lt_of_get hx22) (p1.mono i119).le), k201, k202, k203, k204⟩⟩
 ·
  clear hp hq
  rintro s22 f225 w224 ⟨H221, S222, i223, k226, k227, k228, k229, k230⟩
  refine FW.seq (FW.region ?_)
  refine FL.v (E.lss k226 k230) ?_
  refine FL.nil (FW.seq ?_)
  refine FW.condF rfl dlt_len ?_
  refine FW.exit ?_
  exact ⟨nofun, rfl, ⟨_, S222, i223, k227⟩⟩
 ·
  clear hq
  intro e f216 w215 hD
  rcases q22 with s22 | x22
  ·
   obtain ⟨rfl, hD⟩ := hD
   obtain ⟨H212, S213, i214, k217⟩ := hD
   replace hp := el_go hp
   refine FW.seq (FW.region ?_)
   refine FL.v (E.move k217) ?_
   refine FL.call rfl rfl rfl (E.call Tryz.call96 (A1 rfl)) (w_impl_varsOk S213.sl a0) ?_
   rintro e w218 ⟨rfl, r219⟩
   refine ⟨_, rfl, ?_⟩
   have S220 := S213.call r219
   refine FL.v (E.assign (v := Value.bool (PF.impl_varsOk a0)) rfl) ?_
   refine FL.nil ?_
   refine FW.ret ?_
   obtain rfl := Option.some.inj hp
   exact ⟨.inr rfl, res1 rfl rfl ⟨rfl, S220.back⟩⟩
  ·
   obtain ⟨he, hL⟩ := hD
   replace hp := el_rt hp
   obtain rfl := Option.some.inj hp
   subst he
   exact hL

theorem w_impl_IsCnf {Ha : GH} {wa : World} (hs : Sl Ha wa) (a0 : Cnf) (v0_1 : Value) (p0_1 : RSl Ha (eL eI 1) 1 v0_1 a0.clauses) {r : Bool} (hp : (PF.impl_IsCnf a0) = some r) :
  Calls Tryz.prog 72 #[Value.agg #[Value.int .i64 a0.vars, v0_1]] wa (Sc Ha wa (Value.bool r)) := by
 unfold PF.impl_IsCnf at hp
 have S0 := St.init hs
 refine calls_go (N := 27) (args := [Value.agg #[Value.int .i64 a0.vars, v0_1]]) Tryz.func72 rfl rfl rfl ?_
 refine FW.seq (FW.region ?_)
 obtain ⟨b21, w22, run23, S24⟩ := S0.box (P := Tryz.prog) 26 [Value.int .i64 a0.vars, v0_1] (v := Value.agg #[Value.int .i64 a0.vars, v0_1]) rfl (ones_cons rfl (ones_cons p0_1.one ones_nil))
 refine FL.v (E.box rfl run23) ?_
 obtain ⟨H25, S26, i27, at28⟩ := S24.sealBox (i := 0) (l' := []) rfl rfl
 refine FL.v (E.assign (v := Value.bool false) rfl) ?_
 refine FL.nil (FW.seq (FW.seq (FW.region ?_)))
 refine FL.v (E.fieldAddr tf26_1 rfl) ?_
 refine FL.v (E.load rfl (run_load1 Tryz.isAgg24 (at28.now S26.sl) rfl)) ?_
 refine FL.v (E.lenP te24 rfl p0_1) ?_
 refine FL.v (E.move (v := Value.int .i64 0) rfl) ?_
 refine FL.nil ?_
 obtain ⟨q30, hq, hp⟩ := bndR hp
 refine FW.block ?_
 refine FW.mono (FW.forL (S := Unit) (X := Bool) (fun (i30 : Nat) (s30 : Unit) f w => ∃ H : GH, St Ha wa H w [] ∧ Inc H25 H ∧ f 8 = Value.int .i64 ((i30 : Nat) : Int) ∧ f 1 = Value.pointer (some ⟨b21, 0, none⟩) ∧ f 6 = v0_1 ∧ f 7 = Value.int .i64 (len a0.clauses)) (fun q e f w => match q with | .go s30 => e = Exit.exit 0 ∧ (∃ H : GH, St Ha wa H w [] ∧ Inc H25 H ∧ f 1 = Value.pointer (some ⟨b21, 0, none⟩)) | .rt x => ((e = Exit.ret) ∧ (fun e f w => (e = Exit.normal ∨ e = Exit.ret) ∧ ∀ a, Fr (δ := []) 27 a f → ∃ v, (results Tryz.f72 a.tmps).run Tryz.prog w = .ok v w ∧ (Sc Ha wa (Value.bool x)) (.returned v) w) e f w)) hq ⟨_, S26, (Inc.rfl _), rfl, rfl, rfl, rfl⟩ ?_ ?_) ?_
 ·
  clear hp hq
  rintro i30 y29 s30 f58 w57 ⟨H54, S55, i56, k59, k60, k61, k62⟩ hx30 o77 hp
  refine FW.seq (FW.region ?_)
  refine FL.v (E.lssT k59 k62 (lss_len hx30)) ?_
  refine FL.nil (FW.seq ?_)
  refine FW.condT rfl rfl ?_
  refine FW.skip (FW.seq (FW.block (FW.seq (FW.region ?_))))
  obtain ⟨p63, cs64, pt65, l66, at67, rel68⟩ := p0_1.at (ix_nat hx30)
  obtain ⟨v69, rfl, h70⟩ := eL_open rel68
  refine FL.v (E.indexAddr te24 k61 k59 pt65) ?_
  refine FL.v (E.load rfl (run_load0 Tryz.isAgg34 ((at67.mono (i27.tr i56)).now S55.sl) rfl)) ?_
  refine FL.v (E.assign (v := v69) rfl) ?_
  refine FL.nil (FW.seq (FW.region ?_))
  refine FL.v (E.fieldAddr tf26_0 k60) ?_
  refine FL.v (E.load rfl (run_load1 Tryz.isAgg3 ((at28.mono i56).now S55.sl) rfl)) ?_
  refine FL.v (E.move (v := v69) rfl) ?_
  obtain ⟨r71, hr72, hp⟩ := bnd hp
  refine FL.call rfl rfl rfl (E.call Tryz.call118 (A2 rfl rfl)) (w_impl_IsClause S55.sl a0.vars v69 y29 (h70.mono (i27.tr i56)) hr72) ?_
  rintro e w73 ⟨rfl, r74⟩
  refine ⟨_, rfl, ?_⟩
  have S75 := S55.call r74
  refine FL.v (E.not rfl) ?_
  refine FL.nil ?_
  rcases ifB hp with ⟨c76, hp⟩ | ⟨c76, hp⟩
  ·
   refine FW.condT rfl c76 ?_
   refine FW.seq (FW.region ?_)
   refine FL.v (E.assign (v := Value.bool false) rfl) ?_
   refine FL.nil ?_
   refine FW.ret ?_
   obtain rfl := Option.some.inj hp
   exact ⟨nofun, rfl, ⟨.inr rfl, res1 rfl rfl ⟨rfl, S75.back⟩⟩⟩
  ·
   refine FW.condF rfl c76 ?_
   refine FW.skip (FW.region ?_)
   refine FL.v (E.add k59 rfl) ?_
   refine FL.v (E.move (v := Value.int .i64 (wr (((i30 : Nat) : Int) + 1))) rfl) ?_
   refine FL.nil ?_
   obtain rfl := Option.some.inj hp
   exact ⟨rfl, ⟨_, S75, i56, (nat_succ rfl (lt_of_get hx30) (p0_1.mono (i27.tr i56)).le), k60, k61, k62⟩⟩
 ·
  clear hp hq
  rintro s30 f99 w98 ⟨H95, S96, i97, k100, k101, k102, k103⟩
  refine FW.seq (FW.region ?_)
  refine FL.v (E.lss k100 k103) ?_
  refine FL.nil (FW.seq ?_)
  refine FW.condF rfl dlt_len ?_
  refine FW.exit ?_
  exact ⟨nofun, rfl, ⟨_, S96, i97, k101⟩⟩
 ·
  clear hq
  intro e f82 w81 hD
  rcases q30 with s30 | x30
  ·
   obtain ⟨rfl, hD⟩ := hD
   obtain ⟨H78, S79, i80, k83⟩ := hD
   replace hp := el_go hp
   refine FW.seq (FW.region ?_)
   refine FL.v (E.fieldAddr tf26_0 k83) ?_
   refine FL.v (E.load rfl (run_load1 Tryz.isAgg3 ((at28.mono i80).now S79.sl) rfl)) ?_
   refine FL.call rfl rfl rfl (E.call Tryz.call96 (A1 rfl)) (w_impl_varsOk S79.sl a0.vars) ?_
   rintro e w84 ⟨rfl, r85⟩
   refine ⟨_, rfl, ?_⟩
   have S86 := S79.call r85
   refine FL.v (E.move (v := Value.bool (PF.impl_varsOk a0.vars)) rfl) ?_
   refine FL.cut 5 (fun f w => ∃ H : GH, St Ha wa H w [] ∧ Inc H78 H ∧ f 26 = Value.bool (bif (PF.impl_varsOk a0.vars) then (decide ((len a0.clauses) ≤ 60)) else false)) ?_ ?_
   ·
    rcases bcase (PF.impl_varsOk a0.vars) with c93 | c93
    ·
     refine FL.val (wF_yes rfl rfl rfl c93) rfl rfl (E.fieldAddr tf26_1 k83) ?_
     refine FL.val (wF_yes rfl rfl rfl c93) rfl rfl (E.load rfl (run_load1 Tryz.isAgg24 ((at28.mono i80).now S86.sl) rfl)) ?_
     refine FL.val (wF_yes rfl rfl rfl c93) rfl rfl (E.lenP te24 rfl p0_1) ?_
     refine FL.val (wF_yes rfl rfl rfl c93) rfl rfl (E.leq rfl rfl) ?_
     refine FL.v (E.pickT rfl c93 rfl) ?_
     exact FL.nil ⟨rfl, _, S86, (Inc.rfl _), (congrArg Value.bool (bifT c93).symm)⟩
    ·
     refine FL.skip (wF_no rfl rfl rfl c93) rfl ?_
     refine FL.skip (wF_no rfl rfl rfl c93) rfl ?_
     refine FL.skip (wF_no rfl rfl rfl c93) rfl ?_
     refine FL.skip (wF_no rfl rfl rfl c93) rfl ?_
     refine FL.v (E.pickF rfl c93 rfl) ?_
     exact FL.nil ⟨rfl, _, S86, (Inc.rfl _), (congrArg Value.bool (bifF c93).symm)⟩
   rintro f92 w91 ⟨H88, S89, i90, k94⟩
   refine FL.v (E.assign k94) ?_
   refine FL.nil ?_
   refine FW.ret ?_
   obtain rfl := Option.some.inj hp
   exact ⟨.inr rfl, res1 rfl rfl ⟨rfl, S89.back⟩⟩
  ·
   obtain ⟨he, hL⟩ := hD
   replace hp := el_rt hp
   obtain rfl := Option.some.inj hp
   subst he
   exact hL

theorem w_impl_isVar {Ha : GH} {wa : World} (hs : Sl Ha wa) (a0 : Int) (a1 : Int) :
  Calls Tryz.prog 73 #[Value.int .i64 a0, Value.int .i64 a1] wa (Sc Ha wa (Value.bool (PF.impl_isVar a0 a1))) := by
 obtain ⟨r, hp⟩ : ∃ r, (PF.impl_isVar a0 a1) = r := ⟨_, rfl⟩
 rw [hp]
 unfold PF.impl_isVar at hp
 have S0 := St.init hs
 refine calls_go (N := 8) (args := [Value.int .i64 a0, Value.int .i64 a1]) Tryz.func73 rfl rfl rfl ?_
 refine FW.seq (FW.region ?_)
 refine FL.v (E.assign (v := Value.bool false) rfl) ?_
 refine FL.nil (FW.seq (FW.region ?_))
 refine FL.v (E.move (v := Value.int .i64 a1) rfl) ?_
 refine FL.v (E.move (v := Value.int .i64 a0) rfl) ?_
 refine FL.call rfl rfl rfl (E.call Tryz.call87 (A3 rfl rfl rfl)) (w_impl_within S0.sl a1 1 a0) ?_
 rintro e w21 ⟨rfl, r22⟩
 refine ⟨_, rfl, ?_⟩
 have S23 := S0.call r22
 refine FL.v (E.assign (v := Value.bool (PF.impl_within a1 1 a0)) rfl) ?_
 refine FL.nil ?_
 refine FW.ret ?_
 obtain rfl := hp
 exact ⟨.inr rfl, res1 rfl rfl ⟨rfl, S23.back⟩⟩

theorem w_slices_Index_int_int {Ha : GH} {wa : World} (hs : Sl Ha wa) (v0 : Value) (a0 : List Int) (p0 : RSl Ha eI 1 v0 a0) (a1 : Int) {r : Int} (hp : (PF.slices_Index_int_int a0 a1) = some r) :
  Calls Tryz.prog 169 #[v0, Value.int .i64 a1] wa (Sc Ha wa (Value.int .i64 r)) := by
 unfold PF.slices_Index_int_int at hp
 have S0 := St.init hs
 refine calls_go (N := 19) (args := [v0, Value.int .i64 a1]) Tryz.func169 rfl rfl rfl ?_
 refine FW.seq (FW.region ?_)
 refine FL.v (E.assign (v := Value.int .i64 0) rfl) ?_
 refine FL.nil (FW.seq (FW.seq (FW.region ?_)))
 refine FL.v (E.move (v := v0) rfl) ?_
 refine FL.v (E.lenP te34 rfl p0) ?_
 refine FL.v (E.move (v := Value.int .i64 0) rfl) ?_
 refine FL.nil ?_
 obtain ⟨q22, hq, hp⟩ := bndR hp
 refine FW.block ?_
 refine FW.mono (FW.forL (S := Unit) (X := Int) (fun (i22 : Nat) (s22 : Unit) f w => ∃ H : GH, St Ha wa H w [] ∧ Inc Ha H ∧ f 8 = Value.int .i64 ((i22 : Nat) : Int) ∧ f 0 = v0 ∧ f 1 = Value.int .i64 a1 ∧ f 7 = Value.int .i64 (len a0)) (fun q e f w => match q with | .go s22 => e = Exit.exit 0 ∧ (∃ H : GH, St Ha wa H w [] ∧ Inc Ha H) | .rt x => ((e = Exit.ret) ∧ (fun e f w => (e = Exit.normal ∨ e = Exit.ret) ∧ ∀ a, Fr (δ := []) 19 a f → ∃ v, (results Tryz.f169 a.tmps).run Tryz.prog w = .ok v w ∧ (Sc Ha wa (Value.int .i64 x)) (.returned v) w) e f w)) hq ⟨_, S0, (Inc.rfl _), rfl, rfl, rfl, rfl⟩ ?_ ?_) ?_
 ·
  clear hp hq
  rintro i22 y21 s22 f43 w42 ⟨H39, S40, i41, k44, k45, k46, k47⟩ hx22 o55 hp
  refine FW.seq (FW.region ?_)
  refine FL.v (E.lssT k44 k47 (lss_len hx22)) ?_
  refine FL.nil (FW.seq ?_)
  refine FW.condT rfl rfl ?_
  refine FW.skip (FW.seq (FW.block (FW.seq (FW.region ?_))))
  refine FL.v (E.move k44) ?_
  refine FL.v (E.assign (v := Value.int .i64 ((i22 : Nat) : Int)) rfl) ?_
  refine FL.nil (FW.seq (FW.region ?_))
  refine FL.v (E.move k46) ?_
  refine FL.v (E.move k45) ?_
  refine FL.v (E.move (v := Value.int .i64 ((i22 : Nat) : Int)) rfl) ?_
  obtain ⟨p48, cs49, pt50, l51, at52, rel53⟩ := p0.at (ix_nat hx22)
  obtain rfl := eI_open rel53
  refine FL.v (E.indexAddr te34 rfl rfl pt50) ?_
  refine FL.v (E.load rfl (run_load0 Tryz.isAgg3 ((at52.mono i41).now S40.sl) rfl)) ?_
  refine FL.v (E.eql rfl rfl) ?_
  refine FL.nil ?_
  rcases ifB hp with ⟨c54, hp⟩ | ⟨c54, hp⟩
  ·
   refine FW.condT rfl c54 ?_
   refine FW.seq (FW.region ?_)
   refine FL.v (E.move (v := Value.int .i64 ((i22 : Nat) : Int)) rfl) ?_
   refine FL.v (E.assign (v := Value.int .i64 ((i22 : Nat) : Int)) rfl) ?_
   refine FL.nil ?_
   refine FW.ret ?_
   obtain rfl := Option.some.inj hp
   exact ⟨nofun, rfl, ⟨.inr rfl, res1 rfl rfl ⟨rfl, S40.back⟩⟩⟩
  ·
   refine FW.condF rfl c54 ?_
   refine FW.skip (FW.region ?_)
   refine FL.v (E.add k44 rfl) ?_
   refine FL.v (E.move (v := Value.int .i64 (wr (((i22 : Nat) : Int) + 1))) rfl) ?_
   refine FL.nil ?_
   obtain rfl := Option.some.inj hp
   exact ⟨rfl, ⟨_, S40, i41, (nat_succ rfl (lt_of_get hx22) (p0.mono i41).le), k45, k46, k47⟩⟩
 ·
  clear hp hq
  rintro s22 f65 w64 ⟨H61, S62, i63, k66, k67, k68, k69⟩
  refine FW.seq (FW.region ?_)
  refine FL.v (E.lss k66 k69) ?_
  refine FL.nil (FW.seq ?_)
  refine FW.condF rfl dlt_len ?_
  refine FW.exit ?_
  exact ⟨nofun, rfl, ⟨_, S62, i63⟩⟩
 ·
  clear hq
  intro e f60 w59 hD
  rcases q22 with s22 | x22
  ·
   obtain ⟨rfl, hD⟩ := hD
   obtain ⟨H56, S57, i58⟩ := hD
   replace hp := el_go hp
   refine FW.seq (FW.region ?_)
   refine FL.v (E.assign (v := Value.int .i64 (-1)) rfl) ?_
   refine FL.nil ?_
   refine FW.ret ?_
   obtain rfl := Option.some.inj hp
   exact ⟨.inr rfl, res1 rfl rfl ⟨rfl, S57.back⟩⟩
  ·
   obtain ⟨he, hL⟩ := hD
   replace hp := el_rt hp
   obtain rfl := Option.some.inj hp
   subst he
   exact hL

theorem w_slices_Contains_int_int {Ha : GH} {wa : World} (hs : Sl Ha wa) (v0 : Value) (a0 : List Int) (p0 : RSl Ha eI 1 v0 a0) (a1 : Int) {r : Bool} (hp : (PF.slices_Contains_int_int a0 a1) = some r) :
  Calls Tryz.prog 74 #[v0, Value.int .i64 a1] wa (Sc Ha wa (Value.bool r)) := by
 unfold PF.slices_Contains_int_int at hp
 have S0 := St.init hs
 refine calls_go (N := 9) (args := [v0, Value.int .i64 a1]) Tryz.func74 rfl rfl rfl ?_
 refine FW.seq (FW.region ?_)
 refine FL.v (E.assign (v := Value.bool false) rfl) ?_
 refine FL.nil (FW.seq (FW.region ?_))
 refine FL.v (E.move (v := v0) rfl) ?_
 refine FL.v (E.move (v := Value.int .i64 a1) rfl) ?_
 obtain ⟨r21, hr22, hp⟩ := bnd hp
 refine FL.call rfl rfl rfl (E.call Tryz.call169 (A2 rfl rfl)) (w_slices_Index_int_int S0.sl v0 a0 p0 a1 hr22) ?_
 rintro e w23 ⟨rfl, r24⟩
 refine ⟨_, rfl, ?_⟩
 have S25 := S0.call r24
 refine FL.v (E.geq rfl rfl) ?_
 refine FL.v (E.assign (v := Value.bool (decide (0 ≤ r21))) rfl) ?_
 refine FL.nil ?_
 refine FW.ret ?_
 obtain rfl := Option.some.inj hp
 exact ⟨.inr rfl, res1 rfl rfl ⟨rfl, S25.back⟩⟩

@[reducible] def p_slices_Clone_int_int (Ha : GH) (wa : World) (r : (List Int)) : Ending → World → Prop :=
 fun e w' => ∃ H' : GH, ∃ v0 : Value, ∃ n0 : Nat, ∃ c0 : List Value, e = .returned (v0) ∧ St Ha wa H' w' [.row 3 1 v0 n0 c0] ∧ Els (up wa.heap.size H') eI 1 c0 r
theorem w_slices_Clone_int_int {Ha : GH} {wa : World} (hs : Sl Ha wa) (v0 : Value) (a0 : List Int) (p0 : RSl Ha eI 1 v0 a0) {r : (List Int)} (hp : (PF.slices_Clone_int_int a0) = some r) :
  Calls Tryz.prog 75 #[v0] wa (p_slices_Clone_int_int Ha wa r) := by
 unfold PF.slices_Clone_int_int at hp
 have S0 := St.init hs
 refine calls_go (N := 8) (args := [v0]) Tryz.func75 rfl rfl rfl ?_
 refine FW.seq (FW.region ?_)
 refine FL.v (E.assign (v := Value.slice none 0 0) rfl) ?_
 refine FL.nil (FW.seq (FW.seq (FW.region ?_)))
 refine FL.v (E.move (v := v0) rfl) ?_
 obtain ⟨nb21, run22, hn23⟩ := RSl.nilTest te34 p0
 refine FL.v (run22 _ _ _ _ _ _ _ _ _ _ _ _ rfl rfl) ?_
 refine FL.nil ?_
 rcases bcase nb21 with c24 | c24
 ·
  refine FW.condT (b := nb21) rfl c24 ?_
  rw [hn23 c24, app_nil2] at hp
  refine FW.seq (FW.region ?_)
  refine FL.v (E.assign (v := Value.slice none 0 0) rfl) ?_
  refine FL.nil ?_
  refine FW.ret ?_
  obtain rfl := Option.some.inj hp
  exact ⟨.inr rfl, res1 rfl rfl ⟨_, _, _, _, rfl, (S0.nil 3 1), Els.nil⟩⟩
 ·
  refine FW.condF (b := nb21) rfl c24 ?_
  refine FW.skip (FW.seq (FW.region ?_))
  obtain ⟨v25, w26, run27, S28⟩ := S0.buildSlice (P := Tryz.prog) te34 [] (parts := #[]) (cells := []) rfl szs_nil fc_nil ones_nil (Nat.le_of_ble_eq_true rfl)
  have els29 : Els (up wa.heap.size Ha) eI 1 [] [] := Els.nil
  refine FL.v (E.buildSlice (B0) run27) ?_
  refine FL.v (E.move (v := v0) rfl) ?_
  obtain ⟨xs30, hz31, hp⟩ := bnd hp
  obtain ⟨v32, w35, n33, cs34, run36, S37, els38⟩ := S28.appendP (P := Tryz.prog) (Inc.rfl _) te34 (i := 0) rfl (els29.mono upI) p0 hz31
  have S37 : St Ha wa Ha w35 [.row 3 1 v32 n33 cs34] := S37
  have els38 : Els (up wa.heap.size Ha) eI 1 cs34 xs30 := els38.any (fun _ _ _ _ h => h)
  refine FL.v (E.append rfl rfl run36) ?_
  refine FL.v (E.assign (v := v32) rfl) ?_
  refine FL.nil ?_
  refine FW.ret ?_
  obtain rfl := Option.some.inj hp
  exact ⟨.inr rfl, res1 rfl rfl ⟨_, _, _, _, rfl, S37, els38⟩⟩

theorem w_slices_IndexFunc_int_int {Ha : GH} {wa : World} (hs : Sl Ha wa) (v0 : Value) (a0 : List Int) (p0 : RSl Ha eI 1 v0 a0) (v1 : Value) (a1 : Int → Option Bool) (p1 : Fn_I_to_B Tryz.prog Ha v1 a1) {r : Int} (hp : (PF.slices_IndexFunc_int_int a0 a1) = some r) :
  Calls Tryz.prog 277 #[v0, v1] wa (Sc Ha wa (Value.int .i64 r)) := by
 unfold PF.slices_IndexFunc_int_int at hp
 have S0 := St.init hs
 refine calls_go (N := 19) (args := [v0, v1]) Tryz.func277 rfl rfl rfl ?_
 refine FW.seq (FW.region ?_)
 refine FL.v (E.assign (v := Value.int .i64 0) rfl) ?_
 refine FL.nil (FW.seq (FW.seq (FW.region ?_)))
 refine FL.v (E.move (v := v0) rfl) ?_
 refine FL.v (E.lenP te34 rfl p0) ?_
 refine FL.v (E.move (v := Value.int .i64 0) rfl) ?_
 refine FL.nil ?_
 obtain ⟨q22, hq, hp⟩ := bndR hp
 refine FW.block ?_
 refine FW.mono (FW.forL (S := Unit) (X := Int) (fun (i22 : Nat) (s22 : Unit) f w => ∃ H : GH, St Ha wa H w [] ∧ Inc Ha H ∧ f 8 = Value.int .i64 ((i22 : Nat) : Int) ∧ f 0 = v0 ∧ f 1 = v1 ∧ f 7 = Value.int .i64 (len a0)) (fun q e f w => match q with | .go s22 => e = Exit.exit 0 ∧ (∃ H : GH, St Ha wa H w [] ∧ Inc Ha H) | .rt x => ((e = Exit.ret) ∧ (fun e f w => (e = Exit.normal ∨ e = Exit.ret) ∧ ∀ a, Fr (δ := []) 19 a f → ∃ v, (results Tryz.f277 a.tmps).run Tryz.prog w = .ok v w ∧ (Sc Ha wa (Value.int .i64 x)) (.returned v) w) e f w)) hq ⟨_, S0, (Inc.rfl _), rfl, rfl, rfl, rfl⟩ ?_ ?_) ?_
 ·
  clear hp hq
  rintro i22 y21 s22 f53 w52 ⟨H49, S50, i51, k54, k55, k56, k57⟩ hx22 o75 hp
  refine FW.seq (FW.region ?_)
  refine FL.v (E.lssT k54 k57 (lss_len hx22)) ?_
  refine FL.nil (FW.seq ?_)
  refine FW.condT rfl rfl ?_
  refine FW.skip (FW.seq (FW.block (FW.seq (FW.region ?_))))
  refine FL.v (E.move k54) ?_
  refine FL.v (E.assign (v := Value.int .i64 ((i22 : Nat) : Int)) rfl) ?_
  refine FL.nil (FW.seq (FW.region ?_))
  refine FL.v (E.move k56) ?_
  refine FL.v (E.move k55) ?_
  refine FL.v (E.move (v := Value.int .i64 ((i22 : Nat) : Int)) rfl) ?_
  obtain ⟨p58, cs59, pt60, l61, at62, rel63⟩ := p0.at (ix_nat hx22)
  obtain rfl := eI_open rel63
  refine FL.v (E.indexAddr te34 rfl rfl pt60) ?_
  refine FL.v (E.load rfl (run_load0 Tryz.isAgg3 ((at62.mono i51).now S50.sl) rfl)) ?_
  obtain ⟨r64, hr65, hp⟩ := bnd hp
  obtain ⟨fi69, cs70, hv71, he72, hc73⟩ := (p1.mono i51) H49 w52 (Inc.rfl _) S50.sl y21 r64 hr65
  refine FL.call rfl rfl rfl (E.callV he72 (Eq.trans rfl hv71) (appA (A1 rfl) cs70)) hc73 ?_
  rintro e w66 ⟨rfl, r67⟩
  refine ⟨_, rfl, ?_⟩
  have S68 := S50.call r67
  refine FL.nil ?_
  rcases ifB hp with ⟨c74, hp⟩ | ⟨c74, hp⟩
  ·
   refine FW.condT rfl c74 ?_
   refine FW.seq (FW.region ?_)
   refine FL.v (E.move (v := Value.int .i64 ((i22 : Nat) : Int)) rfl) ?_
   refine FL.v (E.assign (v := Value.int .i64 ((i22 : Nat) : Int)) rfl) ?_
   refine FL.nil ?_
   refine FW.ret ?_
   obtain rfl := Option.some.inj hp
   exact ⟨nofun, rfl, ⟨.inr rfl, res1 rfl rfl ⟨rfl, S68.back⟩⟩⟩
  ·
   refine FW.condF rfl c74 ?_
   refine FW.skip (FW.region ?_)
   refine FL.v (E.add k54 rfl) ?_
   refine FL.v (E.move (v := Value.int .i64 (wr (((i22 : Nat) : Int) + 1))) rfl) ?_
   refine FL.nil ?_
   obtain rfl := Option.some.inj hp
   exact ⟨rfl, ⟨_, S68, i51, (nat_succ rfl (lt_of_get hx22) (p0.mono i51).le), k55, k56, k57⟩⟩
 ·
  clear hp hq
  rintro s22 f85 w84 ⟨H81, S82, i83, k86, k87, k88, k89⟩
  refine FW.seq (FW.region ?_)
  refine FL.v (E.lss k86 k89) ?_
  refine FL.nil (FW.seq ?_)
  refine FW.condF rfl dlt_len ?_
  refine FW.exit ?_
  exact ⟨nofun, rfl, ⟨_, S82, i83⟩⟩
 ·
  clear hq
  intro e f80 w79 hD
  rcases q22 with s22 | x22
  ·
   obtain ⟨rfl, hD⟩ := hD
   obtain ⟨H76, S77, i78⟩ := hD
   replace hp := el_go hp
   refine FW.seq (FW.region ?_)
   refine FL.v (E.assign (v := Value.int .i64 (-1)) rfl) ?_
   refine FL.nil ?_
   refine FW.ret ?_
   obtain rfl := Option.some.inj hp
   exact ⟨.inr rfl, res1 rfl rfl ⟨rfl, S77.back⟩⟩
  ·
   obtain ⟨he, hL⟩ := hD
   replace hp := el_rt hp
   obtain rfl := Option.some.inj hp
   subst he
   exact hL

@[reducible] def p_slices_DeleteFunc_int_int (H0 : GH) (w0 : World) (Ha : GH) (L : List MO) (r : (List Int)) : Ending → World → Prop :=
  fun e w' => ∃ H' : GH, ∃ v0r : Value, ∃ n0r : Nat, ∃ c0r : List Value, e = .returned (v0r) ∧ (St H0 w0 H' w' (.row 3 1 v0r n0r c0r :: L) ∧ Inc Ha H') ∧ Els (up w0.heap.size H') eI 1 c0r r
theorem w_slices_DeleteFunc_int_int {H0 Ha : GH} {w0 wa : World} {L : List MO} {v0 : Value} {n0 : Nat} {k0 : List Value} (S0 : St H0 w0 Ha wa (.row 3 1 v0 n0 k0 :: L)) (a0 : List Int) (p0 : Els (up w0.heap.size Ha) eI 1 k0 a0) (v1 : Value) (a1 : Int → Option Bool) (p1 : Fn_I_to_B Tryz.prog Ha v1 a1) {r : (List Int)} (hp : (PF.slices_DeleteFunc_int_int a0 a1) = some r) :
    Calls Tryz.prog 259 #[v0, v1] wa (p_slices_DeleteFunc_int_int H0 w0 Ha L r) := by
  unfold PF.slices_DeleteFunc_int_int at hp
  refine calls_go (N := 42) (args := [v0, v1]) Tryz.func259 rfl rfl rfl ?_
  refine FW.seq (FW.region ?_)
  refine FL.v (E.assign (v := Value.slice none 0 0) rfl) ?_
  refine FL.nil (FW.seq (FW.region ?_))
  refine FL.v (E.move (v := v0) rfl) ?_
  refine FL.v (E.move (v := v1) rfl) ?_
  obtain ⟨H21, S22, i23, h24, nv25⟩ := S0.sealRowU (i := 0) (l' := L) rfl p0 (by decide) rfl
  obtain ⟨r26, hr27, hp⟩ := bnd hp
  refine FL.call rfl rfl rfl (E.call Tryz.call277 (A2 rfl rfl)) (w_slices_IndexFunc_int_int S22.sl v0 a0 (h24.mono upI) v1 a1 (p1.mono i23) hr27) ?_
  rintro e w28 ⟨rfl, r29⟩
  refine ⟨_, rfl, ?_⟩
  have r29 := Run.lend i23 S0.sl r29
  have S30 := S0.call r29
  refine FL.v (E.assign (v := Value.int .i64 r26) rfl) ?_
  refine FL.nil (FW.seq (FW.seq (FW.region ?_)))
  refine FL.v (E.move (v := Value.int .i64 r26) rfl) ?_
  refine FL.v (E.eql rfl rfl) ?_
  refine FL.nil ?_
  rcases ifB hp with ⟨c31, hp⟩ | ⟨c31, hp⟩
  ·
    refine FW.condT rfl c31 ?_
    refine FW.seq (FW.region ?_)
    refine FL.v (E.move (v := v0) rfl) ?_
    refine FL.v (E.assign (v := v0) rfl) ?_
    refine FL.nil ?_
    refine FW.ret ?_
    obtain rfl := Option.some.inj hp
    exact ⟨.inr rfl, res1 rfl rfl ⟨_, _, _, _, rfl, ⟨S30, (Inc.rfl _)⟩, p0⟩⟩
  ·
    refine FW.condF rfl c31 ?_
    refine FW.skip (FW.seq (FW.seq (FW.region ?_)))
    refine FL.v (E.move (v := Value.int .i64 r26) rfl) ?_
    refine FL.v (E.add rfl rfl) ?_
    refine FL.v (E.assign (v := Value.int .i64 (wr (r26 + 1))) rfl) ?_
    refine FL.nil ?_
    obtain ⟨q32, hq, hp⟩ := bndR hp
    refine FW.block ?_
    refine FW.mono (FW.iter (S := ((List Int) × Int × Int)) (X := Empty) (fun (s32 : ((List Int) × Int × Int)) f w => ∃ H : GH, ∃ cs78 : List Value, St H0 w0 H w (.row 3 1 v0 n0 cs78 :: L) ∧ Inc Ha H ∧ Els (up w0.heap.size H) eI 1 cs78 s32.1 ∧ f 0 = v0 ∧ f 1 = v1 ∧ f 5 = Value.int .i64 s32.2.1 ∧ f 6 = Value.int .i64 s32.2.2) (fun (q : Rs ((List Int) × Int × Int) Empty) e f w => match q with | .go s32 => e = Exit.exit 0 ∧ (∃ H : GH, ∃ cs78 : List Value, St H0 w0 H w (.row 3 1 v0 n0 cs78 :: L) ∧ Inc Ha H ∧ Els (up w0.heap.size H) eI 1 cs78 s32.1 ∧ f 0 = v0 ∧ f 5 = Value.int .i64 s32.2.1) | .rt x => x.elim) hq ⟨_, _, S30, (Inc.rfl _), p0, rfl, rfl, rfl, rfl⟩ ?_) ?_
    ·
      clear hp hq
      rintro s32 f129 w128 ⟨H125, cs78, S126, i127, els79, k130, k131, k132, k133⟩ o170 hp
      refine FW.seq (FW.seq (FW.region ?_))
      refine FL.v (E.move k133) ?_
      refine FL.v (E.move k130) ?_
      refine FL.v (E.lenO te34 rfl S126 (i := 0) rfl els79 (by decide)) ?_
      refine FL.v (E.lss rfl rfl) ?_
      refine FL.nil ?_
      rcases ifB hp with ⟨c134, hp⟩ | ⟨c134, hp⟩
      ·
        refine FW.condT rfl c134 ?_
        refine FW.skip (FW.seq (FW.block (FW.seq (FW.region ?_))))
        refine FL.v (E.move k130) ?_
        refine FL.v (E.move k133) ?_
        obtain ⟨x141, hx142, hp⟩ := bnd hp
        obtain ⟨p135, cs136, pt137, l138, at139, rel140⟩ := S126.row_at (i := 0) rfl els79 (by decide) hx142
        obtain rfl := eI_open rel140
        refine FL.v (E.indexAddr te34 rfl rfl pt137) ?_
        refine FL.v (E.load rfl (run_load0 Tryz.isAgg3 at139 rfl)) ?_
        refine FL.v (E.assign (v := Value.int .i64 x141) rfl) ?_
        refine FL.nil (FW.seq (FW.region ?_))
        refine FL.v (E.move k131) ?_
        refine FL.v (E.move (v := Value.int .i64 x141) rfl) ?_
        obtain ⟨r143, hr144, hp⟩ := bnd hp
        obtain ⟨fi148, cs149, hv150, he151, hc152⟩ := (p1.mono i127) H125 w128 (Inc.rfl _) S126.sl x141 r143 hr144
        refine FL.call rfl rfl rfl (E.callV he151 (Eq.trans rfl hv150) (appA (A1 rfl) cs149)) hc152 ?_
        rintro e w145 ⟨rfl, r146⟩
        refine ⟨_, rfl, ?_⟩
        have S147 := S126.call r146
        refine FL.v (E.not rfl) ?_
        refine FL.nil ?_
        rcases ifB hp with ⟨c153, hp⟩ | ⟨c153, hp⟩
        ·
          refine FW.condT rfl c153 ?_
          refine FW.seq (FW.region ?_)
          refine FL.v (E.move k130) ?_
          refine FL.v (E.move k132) ?_
          refine FL.v (E.move (v := Value.int .i64 x141) rfl) ?_
          obtain ⟨x160, hx161, hp⟩ := bnd hp
          obtain ⟨p154, cs155, pt156, l157, at158, rel159⟩ := S147.row_at (i := 0) rfl els79 (by decide) hx161
          obtain rfl := eI_open rel159
          refine FL.v (E.indexAddr te34 rfl rfl pt156) ?_
          obtain ⟨xs165, hput166, hp⟩ := bnd hp
          obtain ⟨w162, cs168, run163, S164, els167, ce169⟩ := S147.putEls (P := Tryz.prog) (t := 3) (i := 0) rfl els79 hput166 pt156 Tryz.sizeOf3 (u := Value.int .i64 x141) (c := [Value.int .i64 x141]) rfl rfl (ones_cons rfl ones_nil) rfl
          have S164 : St H0 w0 H125 w162 (.row 3 1 v0 n0 cs168 :: L) := S164
          refine FL.act rfl rfl (E.store rfl rfl run163) ?_
          refine FL.nil (FW.region ?_)
          refine FL.v (E.move k132) ?_
          refine FL.v (E.add rfl rfl) ?_
          refine FL.v (E.assign (v := Value.int .i64 (wr (s32.2.1 + 1))) rfl) ?_
          refine FL.nil (FW.region ?_)
          refine FL.v (E.move k133) ?_
          refine FL.v (E.add rfl rfl) ?_
          refine FL.v (E.assign (v := Value.int .i64 (wr (s32.2.2 + 1))) rfl) ?_
          refine FL.nil ?_
          obtain rfl := Option.some.inj hp
          exact ⟨rfl, ⟨_, _, S164, i127, els167, k130, k131, rfl, rfl⟩⟩
        ·
          refine FW.condF rfl c153 ?_
          refine FW.skip (FW.region ?_)
          refine FL.v (E.move k133) ?_
          refine FL.v (E.add rfl rfl) ?_
          refine FL.v (E.assign (v := Value.int .i64 (wr (s32.2.2 + 1))) rfl) ?_
          refine FL.nil ?_
          obtain rfl := Option.some.inj hp
          exact ⟨rfl, ⟨_, _, S147, i127, els79, k130, k131, k132, rfl⟩⟩
      ·
        refine FW.condF rfl c134 ?_
        refine FW.exit ?_
        obtain rfl := Option.some.inj hp
        exact ⟨nofun, rfl, ⟨_, _, S126, i127, els79, k130, k132⟩⟩
    ·
      clear hq
      intro e f175 w174 hD
      rcases q32 with s32 | x32
      ·
        obtain ⟨rfl, hD⟩ := hD
        obtain ⟨H171, cs78, S172, i173, els79, k176, k177⟩ := hD
        replace hp := el_go hp
        refine FW.seq (FW.region ?_)
        refine FL.v (E.move k176) ?_
        refine FL.v (E.move k177) ?_
        obtain ⟨xs178, hc179, hp⟩ := bnd hp
        obtain ⟨v180, run181, h182⟩ := S172.tail te34 (kk := .i64) (i := 0) rfl els79 hc179
        refine FL.v (E.slice te34 rfl (congrArg some rfl) rfl rfl (run181 _)) ?_
        obtain ⟨w183, cs184, run185, S186, els187⟩ := S172.clearTail (P := Tryz.prog) te34 (i := 0) rfl els79 h182 rfl (ones_cons rfl ones_nil)
        have S186 : St H0 w0 H171 w183 (.row 3 1 v0 n0 cs184 :: L) := S186
        refine FL.val0 rfl rfl (E.clear rfl run185) ?_
        refine FL.nil (FW.seq (FW.region ?_))
        refine FL.v (E.move k176) ?_
        refine FL.v (E.move k177) ?_
        obtain ⟨xs188, hc189, hp⟩ := bnd hp
        obtain ⟨v190, n191, cs192, run193, S194, els195, nd196⟩ := S186.cutRow te34 (kk := .i64) (i := 0) rfl els187 hc189
        have S194 : St H0 w0 H171 w183 (.row 3 1 v190 n191 cs192 :: L) := S194
        refine FL.v (E.slice te34 rfl rfl (congrArg some rfl) rfl (run193 _)) ?_
        refine FL.v (E.assign (v := v190) rfl) ?_
        refine FL.nil ?_
        refine FW.ret ?_
        obtain rfl := Option.some.inj hp
        exact ⟨.inr rfl, res1 rfl rfl ⟨_, _, _, _, rfl, ⟨S194, i173⟩, els195⟩⟩
      · exact x32.elim

theorem w_impl_withoutVar_1 {Ha : GH} {wa : World} (hs : Sl Ha wa) (a0 : Int) (q0 : Addr) (b0 : Int) (c0 : CAt Ha q0 [Value.int .i64 b0]) :
  Calls Tryz.prog 260 #[Value.int .i64 a0, Value.pointer (some q0)] wa (Sc Ha wa (Value.bool (PF.impl_withoutVar_1 a0 b0))) := by
 obtain ⟨r, hp⟩ : ∃ r, (PF.impl_withoutVar_1 a0 b0) = r := ⟨_, rfl⟩
 rw [hp]
 unfold PF.impl_withoutVar_1 at hp
 have S0 := St.init hs
 refine calls_go (N := 8) (args := [Value.int .i64 a0, Value.pointer (some q0)]) Tryz.func260 rfl rfl rfl ?_
 refine FW.seq (FW.region ?_)
 refine FL.v (E.assign (v := Value.bool false) rfl) ?_
 refine FL.nil (FW.seq ?_)
 refine FW.draw (fun w' => Run wa.heap.size Ha wa Ha w') (by kernel_rfl) (by kernel_rfl) (run_drew S0.sl) ?_
 refine FD.val rfl rfl rfl (fun w' hw' => (E.move (v := Value.int .i64 a0) rfl)) ?_
 refine FD.call rfl rfl rfl (fun w' hw' => (E.call Tryz.call214 (A1 rfl))) (fun w' hw' => Calls.cls hw' (w_impl_abs (S0.call hw').sl a0)) ?_
 refine FD.val rfl rfl rfl (fun w' hw' => (E.load rfl (run_load0 Tryz.isAgg3 (c0.now (S0.call hw').sl) rfl))) ?_
 refine FD.val rfl rfl rfl (fun w' hw' => (E.eql rfl rfl)) ?_
 refine FD.val rfl rfl rfl (fun w' hw' => (E.assign (v := Value.bool ((PF.impl_abs a0) == b0)) rfl)) ?_
 refine FD.nil ?_
 intro w22 r24
 have S23 := S0.call r24
 refine FW.ret ?_
 obtain rfl := hp
 exact ⟨.inr rfl, res1 rfl rfl ⟨rfl, S23.back⟩⟩

@[reducible] def p_impl_withoutVar (Ha : GH) (wa : World) (r : (List Int)) : Ending → World → Prop :=
 fun e w' => ∃ H' : GH, ∃ v0 : Value, ∃ n0 : Nat, ∃ c0 : List Value, e = .returned (v0) ∧ St Ha wa H' w' [.row 3 1 v0 n0 c0] ∧ Els (up wa.heap.size H') eI 1 c0 r
theorem w_impl_withoutVar {Ha : GH} {wa : World} (hs : Sl Ha wa) (v0 : Value) (a0 : List Int) (p0 : RSl Ha eI 1 v0 a0) (a1 : Int) {r : (List Int)} (hp : (PF.impl_withoutVar a0 a1) = some r) :
  Calls Tryz.prog 172 #[v0, Value.int .i64 a1] wa (p_impl_withoutVar Ha wa r) := by
 unfold PF.impl_withoutVar at hp
 have S0 := St.init hs
 refine calls_go (N := 9) (args := [v0, Value.int .i64 a1]) Tryz.func172 rfl rfl rfl ?_
 refine FW.seq (FW.region ?_)
 obtain ⟨b21, w22, run23, S24⟩ := S0.box (P := Tryz.prog) 3 [Value.int .i64 a1] (v := Value.int .i64 a1) rfl (ones_cons rfl ones_nil)
 refine FL.v (E.box rfl run23) ?_
 obtain ⟨H25, S26, i27, at28⟩ := S24.sealBox (i := 0) (l' := []) rfl rfl
 refine FL.v (E.assign (v := Value.slice none 0 0) rfl) ?_
 refine FL.nil (FW.seq (FW.region ?_))
 refine FL.v (E.move (v := v0) rfl) ?_
 obtain ⟨r29, hr30, hp⟩ := bnd hp
 refine FL.call rfl rfl rfl (E.call Tryz.call75 (A1 rfl)) (w_slices_Clone_int_int S26.sl v0 a0 (p0.mono i27) hr30) ?_
 rintro e w32 ⟨H31, v35, n36, cs37, rfl, r34, els38⟩
 refine ⟨_, rfl, ?_⟩
 have els38 := els38.mono (up_le S26.size)
 have S33 := S26.join (l' := [.row 3 1 v35 n36 cs37]) r34 rfl
 refine FL.v (E.makeFunc A0 (A1 rfl)) ?_
 obtain ⟨r39, hr40, hp⟩ := bnd hp
 refine FL.call rfl rfl rfl (E.call Tryz.call259 (A2 rfl rfl)) (w_slices_DeleteFunc_int_int (L := []) S33 r29 els38 (Value.func (.func 260) #[] #[Value.pointer (some ⟨b21, 0, none⟩)]) (fun x0 => some (PF.impl_withoutVar_1 x0 a1)) (fun H2 w2 hi2 hs2 x0 r hr => ⟨260, #[Value.pointer (some ⟨b21, 0, none⟩)], rfl, Tryz.call260, by cases hr; exact w_impl_withoutVar_1 hs2 x0 ⟨b21, 0, none⟩ a1 ((at28.mono r34.run.inc).mono hi2)⟩) hr40) ?_
 rintro e w42 ⟨H41, v45, n46, cs47, rfl, ⟨S43, i44⟩, els48⟩
 refine ⟨_, rfl, ?_⟩
 have S43 : St Ha wa H41 w42 [.row 3 1 v45 n46 cs47] := S43
 refine FL.v (E.assign (v := v45) rfl) ?_
 refine FL.nil ?_
 refine FW.ret ?_
 obtain rfl := Option.some.inj hp
 exact ⟨.inr rfl, res1 rfl rfl ⟨_, _, _, _, rfl, S43, els48⟩⟩

@[reducible] def p_slices_Grow_int_int (Ha : GH) (wa : World) (r : List Int) : Ending → World → Prop :=
  fun e w' => ∃ H' : GH, ∃ v0 : Value, ∃ n0 : Nat, ∃ c0 : List Value, e = .returned (v0) ∧ St Ha wa H' w' [.row 3 1 v0 n0 c0] ∧ Els (up wa.heap.size H') eI 1 c0 r
theorem w_slices_Grow_int_int {Ha : GH} {wa : World} (hs : Sl Ha wa) (a1 : Int) {r : List Int} (hp : PF.slices_Grow_int_int a1 = some r) :
    Calls Tryz.prog 258 #[.slice none 0 0, .int .i64 a1] wa (p_slices_Grow_int_int Ha wa r) := by
  unfold PF.slices_Grow_int_int at hp
  split at hp
  · rename_i h
    cases hp
    refine (growNil (En := eI) te34 hs h.1 h.2 (fun w => Any8.slices_Grow_room (P := Tryz.prog) Tryz.grow258 none 0 0 0 w (Nat.le_refl _) (by decide) (by decide) (by decide))
      (fun n w h0 hl => ?_)).mono ?_
    · have h := Any8.slices_Grow_grow (P := Tryz.prog) Tryz.grow258 _ _ Tryz.type3 rfl (by decide) none 0 0 n [] w (Nat.le_refl _) (by omega) ?_ (by unfold lim at hl; omega) (by simp) (fun _ => rfl) (by simp)
      · refine h.mono ?_
        rintro _ _ ⟨rfl, rfl⟩
        refine ⟨by simp; rfl, ?_⟩
        simp
        rfl
      · rw [Nat.zero_add]; refine Nat.le_trans (Nat.mul_le_mul hl (show _ ≤ 4096 by decide)) (by decide)
    · rintro e w' ⟨v, n, c, rfl, h1, h2⟩
      exact ⟨_, _, _, _, rfl, h1, h2 _⟩
  · cases hp

@[reducible] def p_slices_Concat_int_int (Ha : GH) (wa : World) (r : (List Int)) : Ending → World → Prop :=
  fun e w' => ∃ H' : GH, ∃ v0 : Value, ∃ n0 : Nat, ∃ c0 : List Value, e = .returned (v0) ∧ St Ha wa H' w' [.row 3 1 v0 n0 c0] ∧ Els (up wa.heap.size H') eI 1 c0 r
theorem w_slices_Concat_int_int {Ha : GH} {wa : World} (hs : Sl Ha wa) (v0 : Value) (a0 : List (List Int)) (p0 : RSl Ha (eL eI 1) 1 v0 a0) {r : (List Int)} (hp : (PF.slices_Concat_int_int a0) = some r) :
    Calls Tryz.prog 171 #[v0] wa (p_slices_Concat_int_int Ha wa r) := by
  unfold PF.slices_Concat_int_int at hp
  have S0 := St.init hs
  refine calls_go (N := 36) (args := [v0]) Tryz.func171 rfl rfl rfl ?_
  refine FW.seq (FW.region ?_)
  refine FL.v (E.assign (v := Value.slice none 0 0) rfl) ?_
  refine FL.nil (FW.seq (FW.region ?_))
  refine FL.v (E.assign (v := Value.int .i64 0) rfl) ?_
  refine FL.nil (FW.seq (FW.seq (FW.region ?_)))
  refine FL.v (E.move (v := v0) rfl) ?_
  refine FL.v (E.lenP te24 rfl p0) ?_
  refine FL.v (E.move (v := Value.int .i64 0) rfl) ?_
  refine FL.nil ?_
  obtain ⟨q22, hq, hp⟩ := bndR hp
  refine FW.block ?_
  refine FW.mono (FW.forL (S := Int) (X := Empty) (fun (i22 : Nat) (s22 : Int) f w => ∃ H : GH, St Ha wa H w [] ∧ Inc Ha H ∧ f 11 = Value.int .i64 ((i22 : Nat) : Int) ∧ f 0 = v0 ∧ f 3 = Value.int .i64 s22 ∧ f 9 = v0 ∧ f 10 = Value.int .i64 (len a0)) (fun (q : Rs Int Empty) e f w => match q with | .go s22 => e = Exit.exit 0 ∧ (∃ H : GH, St Ha wa H w [] ∧ Inc Ha H ∧ f 0 = v0 ∧ f 3 = Value.int .i64 s22) | .rt x => x.elim) hq ⟨_, S0, (Inc.rfl _), rfl, rfl, rfl, rfl, rfl⟩ ?_ ?_) ?_
  ·
    clear hp hq
    rintro i22 y21 s22 f46 w45 ⟨H42, S43, i44, k47, k48, k49, k50, k51⟩ hx22 o61 hp
    refine FW.seq (FW.region ?_)
    refine FL.v (E.lssT k47 k51 (lss_len hx22)) ?_
    refine FL.nil (FW.seq ?_)
    refine FW.condT rfl rfl ?_
    refine FW.skip (FW.seq (FW.block (FW.seq (FW.region ?_))))
    obtain ⟨p52, cs53, pt54, l55, at56, rel57⟩ := p0.at (ix_nat hx22)
    obtain ⟨v58, rfl, h59⟩ := eL_open rel57
    refine FL.v (E.indexAddr te24 k50 k47 pt54) ?_
    refine FL.v (E.load rfl (run_load0 Tryz.isAgg34 ((at56.mono i44).now S43.sl) rfl)) ?_
    refine FL.v (E.assign (v := v58) rfl) ?_
    refine FL.nil (FW.seq (FW.region ?_))
    refine FL.v (E.move k49) ?_
    refine FL.v (E.move (v := v58) rfl) ?_
    refine FL.v (E.lenP te34 rfl h59) ?_
    refine FL.v (E.add rfl rfl) ?_
    refine FL.v (E.assign (v := Value.int .i64 (wr (s22 + (len y21)))) rfl) ?_
    refine FL.nil (FW.seq (FW.region ?_))
    refine FL.v (E.move (v := Value.int .i64 (wr (s22 + (len y21)))) rfl) ?_
    refine FL.v (E.lss rfl rfl) ?_
    refine FL.nil ?_
    rcases ifB hp with ⟨c60, hp⟩ | ⟨c60, hp⟩
    ·
      refine FW.condT rfl c60 ?_
      cases hp
    ·
      refine FW.condF rfl c60 ?_
      refine FW.skip (FW.region ?_)
      refine FL.v (E.add k47 rfl) ?_
      refine FL.v (E.move (v := Value.int .i64 (wr (((i22 : Nat) : Int) + 1))) rfl) ?_
      refine FL.nil ?_
      obtain rfl := Option.some.inj hp
      exact ⟨rfl, ⟨_, S43, i44, (nat_succ rfl (lt_of_get hx22) (p0.mono i44).le), k48, rfl, k50, k51⟩⟩
  ·
    clear hp hq
    rintro s22 f159 w158 ⟨H155, S156, i157, k160, k161, k162, k163, k164⟩
    refine FW.seq (FW.region ?_)
    refine FL.v (E.lss k160 k164) ?_
    refine FL.nil (FW.seq ?_)
    refine FW.condF rfl dlt_len ?_
    refine FW.exit ?_
    exact ⟨nofun, rfl, ⟨_, S156, i157, k161, k162⟩⟩
  ·
    clear hq
    intro e f66 w65 hD
    rcases q22 with s22 | x22
    ·
      obtain ⟨rfl, hD⟩ := hD
      obtain ⟨H62, S63, i64, k67, k68⟩ := hD
      replace hp := el_go hp
      refine FW.seq (FW.region ?_)
      refine FL.v (E.move k68) ?_
      obtain ⟨r69, hr70, hp⟩ := bnd hp
      refine FL.call rfl rfl rfl (E.call Tryz.call258 (A2 rfl rfl)) (w_slices_Grow_int_int S63.sl s22 hr70) ?_
      rintro e w72 ⟨H71, v75, n76, cs77, rfl, r74, els78⟩
      refine ⟨_, rfl, ?_⟩
      have els78 := els78.mono (up_le S63.size)
      have S73 := S63.join (l' := [.row 3 1 v75 n76 cs77]) r74 rfl
      refine FL.v (E.assign (v := v75) rfl) ?_
      refine FL.nil (FW.seq (FW.seq (FW.region ?_)))
      refine FL.v (E.move k67) ?_
      refine FL.v (E.lenP te24 rfl p0) ?_
      refine FL.v (E.move (v := Value.int .i64 0) rfl) ?_
      refine FL.nil ?_
      obtain ⟨q80, hq, hp⟩ := bndR hp
      refine FW.block ?_
      refine FW.mono (FW.forL (S := (List Int)) (X := Empty) (fun (i80 : Nat) (s80 : (List Int)) f w => ∃ H : GH, ∃ v81 : Value, ∃ n82 : Nat, ∃ cs83 : List Value, St Ha wa H w [.row 3 1 v81 n82 cs83] ∧ Inc H71 H ∧ Els (up wa.heap.size H) eI 1 cs83 s80 ∧ f 27 = Value.int .i64 ((i80 : Nat) : Int) ∧ f 6 = v81 ∧ f 25 = v0 ∧ f 26 = Value.int .i64 (len a0)) (fun (q : Rs (List Int) Empty) e f w => match q with | .go s80 => e = Exit.exit 2 ∧ (∃ H : GH, ∃ v81 : Value, ∃ n82 : Nat, ∃ cs83 : List Value, St Ha wa H w [.row 3 1 v81 n82 cs83] ∧ Inc H71 H ∧ Els (up wa.heap.size H) eI 1 cs83 s80 ∧ f 6 = v81) | .rt x => x.elim) hq ⟨_, _, _, _, S73, (Inc.rfl _), els78, rfl, rfl, rfl, rfl⟩ ?_ ?_) ?_
      ·
        clear hp hq
        rintro i80 y79 s80 f116 w115 ⟨H112, v81, n82, cs83, S113, i114, els84, k117, k118, k119, k120⟩ hx80 o139 hp
        refine FW.seq (FW.region ?_)
        refine FL.v (E.lssT k117 k120 (lss_len hx80)) ?_
        refine FL.nil (FW.seq ?_)
        refine FW.condT rfl rfl ?_
        refine FW.skip (FW.seq (FW.block (FW.seq (FW.region ?_))))
        obtain ⟨p121, cs122, pt123, l124, at125, rel126⟩ := p0.at (ix_nat hx80)
        obtain ⟨v127, rfl, h128⟩ := eL_open rel126
        refine FL.v (E.indexAddr te24 k119 k117 pt123) ?_
        refine FL.v (E.load rfl (run_load0 Tryz.isAgg34 ((at125.mono ((i64.tr r74.run.inc).tr i114)).now S113.sl) rfl)) ?_
        refine FL.v (E.assign (v := v127) rfl) ?_
        refine FL.nil (FW.region ?_)
        refine FL.v (E.move k118) ?_
        refine FL.v (E.move (v := v127) rfl) ?_
        obtain ⟨xs129, hz130, hp⟩ := bnd hp
        obtain ⟨v131, w134, n132, cs133, run135, S136, els137⟩ := S113.appendP (P := Tryz.prog) (Inc.rfl _) te34 (i := 0) rfl (els84.mono upI) (h128.mono ((i64.tr r74.run.inc).tr i114)) hz130
        have S136 : St Ha wa H112 w134 [.row 3 1 v131 n132 cs133] := S136
        have els137 : Els (up wa.heap.size H112) eI 1 cs133 xs129 := els137.any (fun _ _ _ _ h => h)
        refine FL.v (E.append rfl rfl run135) ?_
        refine FL.v (E.assign (v := v131) rfl) ?_
        refine FL.nil (FW.region ?_)
        refine FL.v (E.add k117 rfl) ?_
        refine FL.v (E.move (v := Value.int .i64 (wr (((i80 : Nat) : Int) + 1))) rfl) ?_
        refine FL.nil ?_
        obtain rfl := Option.some.inj hp
        exact ⟨rfl, ⟨_, _, _, _, S136, i114, els137, (nat_succ rfl (lt_of_get hx80) (p0.mono ((i64.tr r74.run.inc).tr i114)).le), rfl, k119, k120⟩⟩
      ·
        clear hp hq
        rintro s80 f150 w149 ⟨H146, v81, n82, cs83, S147, i148, els84, k151, k152, k153, k154⟩
        refine FW.seq (FW.region ?_)
        refine FL.v (E.lss k151 k154) ?_
        refine FL.nil (FW.seq ?_)
        refine FW.condF rfl dlt_len ?_
        refine FW.exit ?_
        exact ⟨nofun, rfl, ⟨_, _, _, _, S147, i148, els84, k152⟩⟩
      ·
        clear hq
        intro e f144 w143 hD
        rcases q80 with s80 | x80
        ·
          obtain ⟨rfl, hD⟩ := hD
          obtain ⟨H140, v81, n82, cs83, S141, i142, els84, k145⟩ := hD
          replace hp := el_go hp
          refine FW.seq (FW.region ?_)
          refine FL.v (E.move k145) ?_
          refine FL.v (E.assign (v := v81) rfl) ?_
          refine FL.nil ?_
          refine FW.ret ?_
          obtain rfl := Option.some.inj hp
          exact ⟨.inr rfl, res1 rfl rfl ⟨_, _, _, _, rfl, S141, els84⟩⟩
        · exact x80.elim
    · exact x22.elim

@[reducible] def p_slices_SortFunc_int_int (H0 : GH) (w0 : World) (Ha : GH) (L : List MO) (v0 : Value) (n0 : Nat) (r : (List Int)) : Ending → World → Prop :=
 fun e w' => ∃ H' : GH, ∃ c0k : List Value, e = .returned (Value.tuple #[]) ∧ (St H0 w0 H' w' (.row 3 1 v0 n0 c0k :: L) ∧ Inc Ha H') ∧ Els (up w0.heap.size H') eI 1 c0k r
theorem w_slices_SortFunc_int_int {H0 Ha : GH} {w0 wa : World} {L : List MO} {v0 : Value} {n0 : Nat} {k0 : List Value} (S0 : St H0 w0 Ha wa (.row 3 1 v0 n0 k0 :: L)) (a0 : List Int) (p0 : Els (up w0.heap.size Ha) eI 1 k0 a0) (v1 : Value) (a1 : Int → Int → Option Int) (p1 : Fn_I_I_to_I Tryz.prog Ha v1 a1) {r : (List Int)} (hp : (PF.slices_SortFunc_int_int a0 a1) = some r) :
  Calls Tryz.prog 256 #[v0, v1] wa (p_slices_SortFunc_int_int H0 w0 Ha L v0 n0 r) := by
 refine (St.sortF (l := .row 3 1 v0 n0 k0 :: L) (i := 0) upI S0 rfl p0 (fun H2 w2 hi hs2 c x hc d y hd r hr => by cases eI_open hc; cases eI_open hd; exact p1 H2 w2 hi hs2 x y r hr) (fun p cap fv w => AnyF.slices_SortFunc_none (P := Tryz.prog) (ρ := Tryz.sort256_ren) { Tryz.sort256 with } p cap fv w) (fun α _ enc h1 cf hO g cb blk off cap d w eg hc hH hb hs => Any.slices_SortFunc Tryz.sort256 enc h1 cf hO g cb blk off cap d w eg hc hH hb hs) hp).mono ?_
 rintro e w' ⟨rfl, c', h1, h2, hq⟩
 exact ⟨_, _, rfl, ⟨h1, Inc.rfl _⟩, h2⟩

theorem w_cmp_isNaN_int {Ha : GH} {wa : World} (hs : Sl Ha wa) (a0 : Int) :
  Calls Tryz.prog 271 #[Value.int .i64 a0] wa (Sc Ha wa (Value.bool (PF.cmp_isNaN_int a0))) := by
 obtain ⟨r, hp⟩ : ∃ r, (PF.cmp_isNaN_int a0) = r := ⟨_, rfl⟩
 rw [hp]
 unfold PF.cmp_isNaN_int at hp
 have S0 := St.init hs
 refine calls_go (N := 6) (args := [Value.int .i64 a0]) Tryz.func271 rfl rfl rfl ?_
 refine FW.seq (FW.region ?_)
 refine FL.v (E.assign (v := Value.bool false) rfl) ?_
 refine FL.nil (FW.seq (FW.region ?_))
 refine FL.v (E.move (v := Value.int .i64 a0) rfl) ?_
 refine FL.v (E.move (v := Value.int .i64 a0) rfl) ?_
 refine FL.v (E.neq rfl rfl) ?_
 refine FL.v (E.assign (v := Value.bool (!(a0 == a0))) rfl) ?_
 refine FL.nil ?_
 refine FW.ret ?_
 obtain rfl := hp
 exact ⟨.inr rfl, res1 rfl rfl ⟨rfl, S0.back⟩⟩

theorem w_cmp_Compare_int {Ha : GH} {wa : World} (hs : Sl Ha wa) (a0 : Int) (a1 : Int) :
  Calls Tryz.prog 176 #[Value.int .i64 a0, Value.int .i64 a1] wa (Sc Ha wa (Value.int .i64 (PF.cmp_Compare_int a0 a1))) := by
 obtain ⟨r, hp⟩ : ∃ r, (PF.cmp_Compare_int a0 a1) = r := ⟨_, rfl⟩
 rw [hp]
 unfold PF.cmp_Compare_int at hp
 have S0 := St.init hs
 refine calls_go (N := 20) (args := [Value.int .i64 a0, Value.int .i64 a1]) Tryz.func176 rfl rfl rfl ?_
 refine FW.seq (FW.region ?_)
 refine FL.v (E.assign (v := Value.int .i64 0) rfl) ?_
 refine FL.nil (FW.seq (FW.region ?_))
 refine FL.v (E.move (v := Value.int .i64 a0) rfl) ?_
 refine FL.call rfl rfl rfl (E.call Tryz.call271 (A1 rfl)) (w_cmp_isNaN_int S0.sl a0) ?_
 rintro e w21 ⟨rfl, r22⟩
 refine ⟨_, rfl, ?_⟩
 have S23 := S0.call r22
 refine FL.v (E.assign (v := Value.bool (PF.cmp_isNaN_int a0)) rfl) ?_
 refine FL.nil (FW.seq (FW.region ?_))
 refine FL.v (E.move (v := Value.int .i64 a1) rfl) ?_
 refine FL.call rfl rfl rfl (E.call Tryz.call271 (A1 rfl)) (w_cmp_isNaN_int S23.sl a1) ?_
 rintro e w24 ⟨rfl, r25⟩
 refine ⟨_, rfl, ?_⟩
 have S26 := S23.call r25
 refine FL.v (E.assign (v := Value.bool (PF.cmp_isNaN_int a1)) rfl) ?_
 refine FL.nil (FW.seq (FW.seq (FW.region ?_)))
 refine FL.v (E.move (v := Value.bool (PF.cmp_isNaN_int a0)) rfl) ?_
 refine FL.nil ?_
 rcases ifT hp with ⟨c27, hp⟩ | ⟨c27, hp⟩
 ·
  refine FW.condT rfl c27 ?_
  refine FW.seq (FW.seq (FW.region ?_))
  refine FL.v (E.move (v := Value.bool (PF.cmp_isNaN_int a1)) rfl) ?_
  refine FL.nil ?_
  rcases ifT hp with ⟨c28, hp⟩ | ⟨c28, hp⟩
  ·
   refine FW.condT rfl c28 ?_
   refine FW.seq (FW.region ?_)
   refine FL.v (E.assign (v := Value.int .i64 0) rfl) ?_
   refine FL.nil ?_
   refine FW.ret ?_
   obtain rfl := hp
   exact ⟨.inr rfl, res1 rfl rfl ⟨rfl, S26.back⟩⟩
  ·
   refine FW.condF rfl c28 ?_
   refine FW.skip (FW.seq (FW.region ?_))
   refine FL.v (E.assign (v := Value.int .i64 (-1)) rfl) ?_
   refine FL.nil ?_
   refine FW.ret ?_
   obtain rfl := hp
   exact ⟨.inr rfl, res1 rfl rfl ⟨rfl, S26.back⟩⟩
 ·
  refine FW.condF rfl c27 ?_
  refine FW.skip (FW.seq (FW.seq (FW.region ?_)))
  refine FL.v (E.move (v := Value.bool (PF.cmp_isNaN_int a1)) rfl) ?_
  refine FL.nil ?_
  rcases ifT hp with ⟨c29, hp⟩ | ⟨c29, hp⟩
  ·
   refine FW.condT rfl c29 ?_
   refine FW.seq (FW.region ?_)
   refine FL.v (E.assign (v := Value.int .i64 1) rfl) ?_
   refine FL.nil ?_
   refine FW.ret ?_
   obtain rfl := hp
   exact ⟨.inr rfl, res1 rfl rfl ⟨rfl, S26.back⟩⟩
  ·
   refine FW.condF rfl c29 ?_
   refine FW.skip (FW.seq (FW.seq (FW.region ?_)))
   refine FL.v (E.move (v := Value.int .i64 a0) rfl) ?_
   refine FL.v (E.move (v := Value.int .i64 a1) rfl) ?_
   refine FL.v (E.lss rfl rfl) ?_
   refine FL.nil ?_
   rcases ifT hp with ⟨c30, hp⟩ | ⟨c30, hp⟩
   ·
    refine FW.condT rfl c30 ?_
    refine FW.seq (FW.region ?_)
    refine FL.v (E.assign (v := Value.int .i64 (-1)) rfl) ?_
    refine FL.nil ?_
    refine FW.ret ?_
    obtain rfl := hp
    exact ⟨.inr rfl, res1 rfl rfl ⟨rfl, S26.back⟩⟩
   ·
    refine FW.condF rfl c30 ?_
    refine FW.skip (FW.seq (FW.seq (FW.region ?_)))
    refine FL.v (E.move (v := Value.int .i64 a0) rfl) ?_
    refine FL.v (E.move (v := Value.int .i64 a1) rfl) ?_
    refine FL.v (E.gtr rfl rfl) ?_
    refine FL.nil ?_
    rcases ifT hp with ⟨c31, hp⟩ | ⟨c31, hp⟩
    ·
     refine FW.condT rfl c31 ?_
     refine FW.seq (FW.region ?_)
     refine FL.v (E.assign (v := Value.int .i64 1) rfl) ?_
     refine FL.nil ?_
     refine FW.ret ?_
     obtain rfl := hp
     exact ⟨.inr rfl, res1 rfl rfl ⟨rfl, S26.back⟩⟩
    ·
     refine FW.condF rfl c31 ?_
     refine FW.skip (FW.seq (FW.region ?_))
     refine FL.v (E.assign (v := Value.int .i64 0) rfl) ?_
     refine FL.nil ?_
     refine FW.ret ?_
     obtain rfl := hp
     exact ⟨.inr rfl, res1 rfl rfl ⟨rfl, S26.back⟩⟩

theorem w_cmp_Or_int {Ha : GH} {wa : World} (hs : Sl Ha wa) (v0 : Value) (a0 : List Int) (p0 : RSl Ha eI 1 v0 a0) {r : Int} (hp : (PF.cmp_Or_int a0) = some r) :
  Calls Tryz.prog 175 #[v0] wa (Sc Ha wa (Value.int .i64 r)) := by
 unfold PF.cmp_Or_int at hp
 have S0 := St.init hs
 refine calls_go (N := 18) (args := [v0]) Tryz.func175 rfl rfl rfl ?_
 refine FW.seq (FW.region ?_)
 refine FL.v (E.assign (v := Value.int .i64 0) rfl) ?_
 refine FL.nil (FW.seq (FW.region ?_))
 refine FL.v (E.assign (v := Value.int .i64 0) rfl) ?_
 refine FL.nil (FW.seq (FW.seq (FW.region ?_)))
 refine FL.v (E.move (v := v0) rfl) ?_
 refine FL.v (E.lenP te34 rfl p0) ?_
 refine FL.v (E.move (v := Value.int .i64 0) rfl) ?_
 refine FL.nil ?_
 obtain ⟨q22, hq, hp⟩ := bndR hp
 refine FW.block ?_
 refine FW.mono (FW.forL (S := Unit) (X := Int) (fun (i22 : Nat) (s22 : Unit) f w => ∃ H : GH, St Ha wa H w [] ∧ Inc Ha H ∧ f 8 = Value.int .i64 ((i22 : Nat) : Int) ∧ f 3 = Value.int .i64 0 ∧ f 6 = v0 ∧ f 7 = Value.int .i64 (len a0)) (fun q e f w => match q with | .go s22 => e = Exit.exit 0 ∧ (∃ H : GH, St Ha wa H w [] ∧ Inc Ha H ∧ f 3 = Value.int .i64 0) | .rt x => ((e = Exit.ret) ∧ (fun e f w => (e = Exit.normal ∨ e = Exit.ret) ∧ ∀ a, Fr (δ := []) 18 a f → ∃ v, (results Tryz.f175 a.tmps).run Tryz.prog w = .ok v w ∧ (Sc Ha wa (Value.int .i64 x)) (.returned v) w) e f w)) hq ⟨_, S0, (Inc.rfl _), rfl, rfl, rfl, rfl⟩ ?_ ?_) ?_
 ·
  clear hp hq
  rintro i22 y21 s22 f43 w42 ⟨H39, S40, i41, k44, k45, k46, k47⟩ hx22 o55 hp
  refine FW.seq (FW.region ?_)
  refine FL.v (E.lssT k44 k47 (lss_len hx22)) ?_
  refine FL.nil (FW.seq ?_)
  refine FW.condT rfl rfl ?_
  refine FW.skip (FW.seq (FW.block (FW.seq (FW.region ?_))))
  obtain ⟨p48, cs49, pt50, l51, at52, rel53⟩ := p0.at (ix_nat hx22)
  obtain rfl := eI_open rel53
  refine FL.v (E.indexAddr te34 k46 k44 pt50) ?_
  refine FL.v (E.load rfl (run_load0 Tryz.isAgg3 ((at52.mono i41).now S40.sl) rfl)) ?_
  refine FL.v (E.assign (v := Value.int .i64 y21) rfl) ?_
  refine FL.nil (FW.seq (FW.region ?_))
  refine FL.v (E.move (v := Value.int .i64 y21) rfl) ?_
  refine FL.v (E.move k45) ?_
  refine FL.v (E.neq rfl rfl) ?_
  refine FL.nil ?_
  rcases ifB hp with ⟨c54, hp⟩ | ⟨c54, hp⟩
  ·
   refine FW.condT rfl c54 ?_
   refine FW.seq (FW.region ?_)
   refine FL.v (E.move (v := Value.int .i64 y21) rfl) ?_
   refine FL.v (E.assign (v := Value.int .i64 y21) rfl) ?_
   refine FL.nil ?_
   refine FW.ret ?_
   obtain rfl := Option.some.inj hp
   exact ⟨nofun, rfl, ⟨.inr rfl, res1 rfl rfl ⟨rfl, S40.back⟩⟩⟩
  ·
   refine FW.condF rfl c54 ?_
   refine FW.skip (FW.region ?_)
   refine FL.v (E.add k44 rfl) ?_
   refine FL.v (E.move (v := Value.int .i64 (wr (((i22 : Nat) : Int) + 1))) rfl) ?_
   refine FL.nil ?_
   obtain rfl := Option.some.inj hp
   exact ⟨rfl, ⟨_, S40, i41, (nat_succ rfl (lt_of_get hx22) (p0.mono i41).le), k45, k46, k47⟩⟩
 ·
  clear hp hq
  rintro s22 f66 w65 ⟨H62, S63, i64, k67, k68, k69, k70⟩
  refine FW.seq (FW.region ?_)
  refine FL.v (E.lss k67 k70) ?_
  refine FL.nil (FW.seq ?_)
  refine FW.condF rfl dlt_len ?_
  refine FW.exit ?_
  exact ⟨nofun, rfl, ⟨_, S63, i64, k68⟩⟩
 ·
  clear hq
  intro e f60 w59 hD
  rcases q22 with s22 | x22
  ·
   obtain ⟨rfl, hD⟩ := hD
   obtain ⟨H56, S57, i58, k61⟩ := hD
   replace hp := el_go hp
   refine FW.seq (FW.region ?_)
   refine FL.v (E.move k61) ?_
   refine FL.v (E.assign (v := Value.int .i64 0) rfl) ?_
   refine FL.nil ?_
   refine FW.ret ?_
   obtain rfl := Option.some.inj hp
   exact ⟨.inr rfl, res1 rfl rfl ⟨rfl, S57.back⟩⟩
  ·
   obtain ⟨he, hL⟩ := hD
   replace hp := el_rt hp
   obtain rfl := Option.some.inj hp
   subst he
   exact hL

theorem w_impl_compareLiterals {Ha : GH} {wa : World} (hs : Sl Ha wa) (a0 : Int) (a1 : Int) {r : Int} (hp : (PF.impl_compareLiterals a0 a1) = some r) :
  Calls Tryz.prog 178 #[Value.int .i64 a0, Value.int .i64 a1] wa (Sc Ha wa (Value.int .i64 r)) := by
 unfold PF.impl_compareLiterals at hp
 have S0 := St.init hs
 refine calls_go (N := 15) (args := [Value.int .i64 a0, Value.int .i64 a1]) Tryz.func178 rfl rfl rfl ?_
 refine FW.seq (FW.region ?_)
 refine FL.v (E.assign (v := Value.int .i64 0) rfl) ?_
 refine FL.nil (FW.seq (FW.region ?_))
 refine FL.v (E.move (v := Value.int .i64 a0) rfl) ?_
 refine FL.call rfl rfl rfl (E.call Tryz.call214 (A1 rfl)) (w_impl_abs S0.sl a0) ?_
 rintro e w21 ⟨rfl, r22⟩
 refine ⟨_, rfl, ?_⟩
 have S23 := S0.call r22
 refine FL.v (E.move (v := Value.int .i64 a1) rfl) ?_
 refine FL.call rfl rfl rfl (E.call Tryz.call214 (A1 rfl)) (w_impl_abs S23.sl a1) ?_
 rintro e w24 ⟨rfl, r25⟩
 refine ⟨_, rfl, ?_⟩
 have S26 := S23.call r25
 refine FL.call rfl rfl rfl (E.call Tryz.call176 (A2 rfl rfl)) (w_cmp_Compare_int S26.sl (PF.impl_abs a0) (PF.impl_abs a1)) ?_
 rintro e w27 ⟨rfl, r28⟩
 refine ⟨_, rfl, ?_⟩
 have S29 := S26.call r28
 refine FL.v (E.move (v := Value.int .i64 a1) rfl) ?_
 refine FL.v (E.move (v := Value.int .i64 a0) rfl) ?_
 refine FL.call rfl rfl rfl (E.call Tryz.call176 (A2 rfl rfl)) (w_cmp_Compare_int S29.sl a1 a0) ?_
 rintro e w30 ⟨rfl, r31⟩
 refine ⟨_, rfl, ?_⟩
 have S32 := S29.call r31
 obtain ⟨v33, w34, run35, S36⟩ := S32.buildSlice (P := Tryz.prog) te34 [Value.int .i64 (PF.cmp_Compare_int (PF.impl_abs a0) (PF.impl_abs a1)), Value.int .i64 (PF.cmp_Compare_int a1 a0)] (parts := #[(0, Value.int .i64 (PF.cmp_Compare_int (PF.impl_abs a0) (PF.impl_abs a1))), (1, Value.int .i64 (PF.cmp_Compare_int a1 a0))]) (cells := [Value.int .i64 (PF.cmp_Compare_int (PF.impl_abs a0) (PF.impl_abs a1)), Value.int .i64 (PF.cmp_Compare_int a1 a0)]) rfl (szs_cons rfl (szs_cons rfl szs_nil)) (fc_cons rfl (fc_cons rfl fc_nil)) (ones_cons rfl (ones_cons rfl ones_nil)) (Nat.le_of_ble_eq_true rfl)
 have els37 : Els (up wa.heap.size Ha) eI 1 [Value.int .i64 (PF.cmp_Compare_int (PF.impl_abs a0) (PF.impl_abs a1)), Value.int .i64 (PF.cmp_Compare_int a1 a0)] [(PF.cmp_Compare_int (PF.impl_abs a0) (PF.impl_abs a1)), (PF.cmp_Compare_int a1 a0)] := (Els.snoc (H := (up wa.heap.size Ha)) (E := eI) (k := 1) (c := [Value.int .i64 (PF.cmp_Compare_int a1 a0)]) (x := (PF.cmp_Compare_int a1 a0)) (Els.snoc (H := (up wa.heap.size Ha)) (E := eI) (k := 1) (c := [Value.int .i64 (PF.cmp_Compare_int (PF.impl_abs a0) (PF.impl_abs a1))]) (x := (PF.cmp_Compare_int (PF.impl_abs a0) (PF.impl_abs a1))) Els.nil rfl rfl) rfl rfl)
 refine FL.v (E.buildSlice (B2 rfl rfl) run35) ?_
 obtain ⟨H38, S39, i40, h41, nv42⟩ := S36.sealRowU (i := 0) (l' := []) rfl els37 (by decide) rfl
 obtain ⟨r43, hr44, hp⟩ := bnd hp
 refine FL.call rfl rfl rfl (E.call Tryz.call175 (A1 rfl)) (w_cmp_Or_int S39.sl v33 [(PF.cmp_Compare_int (PF.impl_abs a0) (PF.impl_abs a1)), (PF.cmp_Compare_int a1 a0)] (h41.mono upI) hr44) ?_
 rintro e w45 ⟨rfl, r46⟩
 refine ⟨_, rfl, ?_⟩
 have r46 := Run.lend i40 S36.sl r46
 have S47 := S36.call r46
 refine FL.v (E.assign (v := Value.int .i64 r43) rfl) ?_
 refine FL.nil ?_
 refine FW.ret ?_
 obtain rfl := Option.some.inj hp
 exact ⟨.inr rfl, res1 rfl rfl ⟨rfl, S47.back⟩⟩

@[reducible] def p_slices_Compact_int_int (H0 : GH) (w0 : World) (Ha : GH) (L : List MO) (r : (List Int)) : Ending → World → Prop :=
 fun e w' => ∃ H' : GH, ∃ v0r : Value, ∃ n0r : Nat, ∃ c0r : List Value, e = .returned (v0r) ∧ (St H0 w0 H' w' (.row 3 1 v0r n0r c0r :: L) ∧ Inc Ha H') ∧ Els (up w0.heap.size H') eI 1 c0r r
theorem w_slices_Compact_int_int {H0 Ha : GH} {w0 wa : World} {L : List MO} {v0 : Value} {n0 : Nat} {k0 : List Value} (S0 : St H0 w0 Ha wa (.row 3 1 v0 n0 k0 :: L)) (a0 : List Int) (p0 : Els (up w0.heap.size Ha) eI 1 k0 a0) {r : (List Int)} (hp : (PF.slices_Compact_int_int a0) = some r) :
  Calls Tryz.prog 257 #[v0] wa (p_slices_Compact_int_int H0 w0 Ha L r) := by
 cases hp
 refine (St.compactF (l := .row 3 1 v0 n0 k0 :: L) (i := 0) S0 rfl p0 (enc := Value.int .i64) (fun _ => rfl) (fun _ _ _ h => by cases eI_open h; rfl) (fun _ _ => rfl) 0 (fun w => compact_none Tryz.comp257 w) (fun blk off cap d w hH hs hc => AnyE.slices_Compact Tryz.comp257 (Value.int .i64) (fun _ => rfl) (EqlAt.intD _ _ _) (NeqAt.intD _ _ _) 0 (fun w => Tryz.zeroValue3 w) blk off cap d w hH hs hc)).mono ?_
 rintro e w' ⟨v', n', c', rfl, h1, h2⟩
 exact ⟨_, _, _, _, rfl, ⟨h1, Inc.rfl _⟩, h2⟩

@[reducible] def p_impl_clause (Ha : GH) (wa : World) (r : ((List Int) × Bool)) : Ending → World → Prop :=
 fun e w' => ∃ H' : GH, ∃ v0 : Value, ∃ n0 : Nat, ∃ c0 : List Value, e = .returned (Value.tuple #[v0, Value.bool r.2]) ∧ St Ha wa H' w' [.row 3 1 v0 n0 c0] ∧ Els (up wa.heap.size H') eI 1 c0 r.1
theorem w_impl_clause {Ha : GH} {wa : World} (hs : Sl Ha wa) (v0 : Value) (a0 : List Int) (p0 : RSl Ha eI 1 v0 a0) {r : ((List Int) × Bool)} (hp : (PF.impl_clause a0) = some r) :
  Calls Tryz.prog 170 #[v0] wa (p_impl_clause Ha wa r) := by
 unfold PF.impl_clause at hp
 have S0 := St.init hs
 refine calls_go (N := 30) (args := [v0]) Tryz.func170 rfl rfl rfl ?_
 refine FW.seq (FW.region ?_)
 refine FL.v (E.assign (v := Value.slice none 0 0) rfl) ?_
 refine FL.v (E.assign (v := Value.bool false) rfl) ?_
 refine FL.nil (FW.seq (FW.region ?_))
 refine FL.v (E.move (v := v0) rfl) ?_
 obtain ⟨r21, hr22, hp⟩ := bnd hp
 refine FL.call rfl rfl rfl (E.call Tryz.call75 (A1 rfl)) (w_slices_Clone_int_int S0.sl v0 a0 p0 hr22) ?_
 rintro e w24 ⟨H23, v27, n28, cs29, rfl, r26, els30⟩
 refine ⟨_, rfl, ?_⟩
 have els30 := els30.mono (up_le S0.size)
 have S25 := S0.join (l' := [.row 3 1 v27 n28 cs29]) r26 rfl
 refine FL.v (E.assign (v := v27) rfl) ?_
 refine FL.nil (FW.seq (FW.region ?_))
 refine FL.v (E.move (v := v27) rfl) ?_
 obtain ⟨r31, hr32, hp⟩ := bnd hp
 refine FL.call rfl rfl rfl (E.call Tryz.call256 (A2 rfl rfl)) (w_slices_SortFunc_int_int (L := []) S25 r21 els30 (Value.func (.func 178) #[] #[]) (fun x0 x1 => PF.impl_compareLiterals x0 x1) (fun H2 w2 hi2 hs2 x0 x1 r hr => ⟨178, #[], rfl, Tryz.call178, w_impl_compareLiterals hs2 x0 x1  hr⟩) hr32) ?_
 rintro e w34 ⟨H33, cs37, rfl, ⟨S35, i36⟩, els38⟩
 refine ⟨_, rfl, ?_⟩
 have S35 : St Ha wa H33 w34 [.row 3 1 v27 n28 cs37] := S35
 refine FL.nil (FW.seq (FW.region ?_))
 refine FL.v (E.move (v := v27) rfl) ?_
 obtain ⟨r39, hr40, hp⟩ := bnd hp
 refine FL.call rfl rfl rfl (E.call Tryz.call257 (A1 rfl)) (w_slices_Compact_int_int (L := []) S35 r31 els38 hr40) ?_
 rintro e w42 ⟨H41, v45, n46, cs47, rfl, ⟨S43, i44⟩, els48⟩
 refine ⟨_, rfl, ?_⟩
 have S43 : St Ha wa H41 w42 [.row 3 1 v45 n46 cs47] := S43
 refine FL.v (E.assign (v := v45) rfl) ?_
 refine FL.nil (FW.seq (FW.seq (FW.region ?_)))
 refine FL.v (E.assign (v := Value.int .i64 1) rfl) ?_
 refine FL.nil ?_
 obtain ⟨q49, hq, hp⟩ := bndR hp
 refine FW.block ?_
 refine FW.mono (FW.iter (S := Int) (X := ((List Int) × Bool)) (fun (s49 : Int) f w => ∃ H : GH, St Ha wa H w [.row 3 1 v45 n46 cs47] ∧ Inc H41 H ∧ f 4 = v45 ∧ f 5 = Value.int .i64 s49) (fun q e f w => match q with | .go s49 => e = Exit.exit 0 ∧ (∃ H : GH, St Ha wa H w [.row 3 1 v45 n46 cs47] ∧ Inc H41 H ∧ f 4 = v45) | .rt x => ((e = Exit.ret) ∧ (fun e f w => (e = Exit.normal ∨ e = Exit.ret) ∧ ∀ a, Fr (δ := []) 30 a f → ∃ v, (results Tryz.f170 a.tmps).run Tryz.prog w = .ok v w ∧ (p_impl_clause Ha wa x) (.returned v) w) e f w)) hq ⟨_, S43, (Inc.rfl _), rfl, rfl⟩ ?_) ?_
 ·
  clear hp hq
  rintro s49 f83 w82 ⟨H79, S80, i81, k84, k85⟩ o108 hp
  refine FW.seq (FW.seq (FW.region ?_))
  refine FL.v (E.move k85) ?_
  refine FL.v (E.move k84) ?_
  refine FL.v (E.lenO te34 rfl S80 (i := 0) rfl els48 (by decide)) ?_
  refine FL.v (E.lss rfl rfl) ?_
  refine FL.nil ?_
  rcases ifB hp with ⟨c86, hp⟩ | ⟨c86, hp⟩
  ·
   refine FW.condT rfl c86 ?_
   refine FW.skip (FW.seq (FW.block (FW.seq ?_)))
   refine FW.draw (fun w' => Run w82.heap.size H79 w82 H79 w') (by kernel_rfl) (by kernel_rfl) (run_drew S80.sl) ?_
   refine FD.val rfl rfl rfl (fun w' hw' => (E.move k84)) ?_
   refine FD.val rfl rfl rfl (fun w' hw' => (E.move k85)) ?_
   obtain ⟨x94, hx95, hp⟩ := bnd hp
   obtain ⟨p88, cs89, pt90, l91, at92, rel93⟩ := S80.row_at (i := 0) rfl els48 (by decide) hx95
   obtain rfl := eI_open rel93
   refine FD.val rfl rfl rfl (fun w' hw' => (E.indexAddr te34 rfl rfl pt90)) ?_
   refine FD.val rfl rfl rfl (fun w' hw' => (E.load rfl (run_load0 Tryz.isAgg3 (at92.cls hw') rfl))) ?_
   refine FD.val rfl rfl rfl (fun w' hw' => (E.move k84)) ?_
   refine FD.val rfl rfl rfl (fun w' hw' => (E.move k85)) ?_
   refine FD.val rfl rfl rfl (fun w' hw' => (E.sub rfl rfl)) ?_
   obtain ⟨x102, hx103, hp⟩ := bnd hp
   obtain ⟨p96, cs97, pt98, l99, at100, rel101⟩ := S80.row_at (i := 0) rfl els48 (by decide) hx103
   obtain rfl := eI_open rel101
   refine FD.val rfl rfl rfl (fun w' hw' => (E.indexAddr te34 rfl rfl pt98)) ?_
   refine FD.val rfl rfl rfl (fun w' hw' => (E.load rfl (run_load0 Tryz.isAgg3 (at100.cls hw') rfl))) ?_
   refine FD.val rfl rfl rfl (fun w' hw' => (E.neg rfl)) ?_
   refine FD.val rfl rfl rfl (fun w' hw' => (E.eql rfl rfl)) ?_
   refine FD.nil ?_
   intro w104 r106
   have S105 := S80.call r106
   rcases ifB hp with ⟨c107, hp⟩ | ⟨c107, hp⟩
   ·
    refine FW.condT rfl c107 ?_
    refine FW.seq (FW.region ?_)
    refine FL.v (E.assign (v := Value.slice none 0 0) rfl) ?_
    refine FL.v (E.assign (v := Value.bool false) rfl) ?_
    refine FL.nil ?_
    refine FW.ret ?_
    obtain rfl := Option.some.inj hp
    exact ⟨nofun, rfl, ⟨.inr rfl, res2 rfl rfl rfl ⟨_, _, _, _, rfl, ((S105.nil 3 1).sel [0] (by decide) rfl), Els.nil⟩⟩⟩
   ·
    refine FW.condF rfl c107 ?_
    refine FW.skip (FW.region ?_)
    refine FL.v (E.move k85) ?_
    refine FL.v (E.add rfl rfl) ?_
    refine FL.v (E.assign (v := Value.int .i64 (wr (s49 + 1))) rfl) ?_
    refine FL.nil ?_
    obtain rfl := Option.some.inj hp
    exact ⟨rfl, ⟨_, S105, i81, k84, rfl⟩⟩
  ·
   refine FW.condF rfl c86 ?_
   refine FW.exit ?_
   obtain rfl := Option.some.inj hp
   exact ⟨nofun, rfl, ⟨_, S80, i81, k84⟩⟩
 ·
  clear hq
  intro e f113 w112 hD
  rcases q49 with s49 | x49
  ·
   obtain ⟨rfl, hD⟩ := hD
   obtain ⟨H109, S110, i111, k114⟩ := hD
   replace hp := el_go hp
   refine FW.seq (FW.region ?_)
   refine FL.v (E.move k114) ?_
   refine FL.v (E.assign (v := v45) rfl) ?_
   refine FL.v (E.assign (v := Value.bool true) rfl) ?_
   refine FL.nil ?_
   refine FW.ret ?_
   obtain rfl := Option.some.inj hp
   exact ⟨.inr rfl, res2 rfl rfl rfl ⟨_, _, _, _, rfl, S110, (els48.mono (up_mono i111))⟩⟩
  ·
   obtain ⟨he, hL⟩ := hD
   replace hp := el_rt hp
   obtain rfl := Option.some.inj hp
   subst he
   exact hL

@[reducible] def p_impl_resolve (Ha : GH) (wa : World) (r : ((List Int) × Bool)) : Ending → World → Prop :=
 fun e w' => ∃ H' : GH, ∃ v0 : Value, ∃ n0 : Nat, ∃ c0 : List Value, e = .returned (Value.tuple #[v0, Value.bool r.2]) ∧ St Ha wa H' w' [.row 3 1 v0 n0 c0] ∧ Els (up wa.heap.size H') eI 1 c0 r.1
theorem w_impl_resolve {Ha : GH} {wa : World} (hs : Sl Ha wa) (v0 : Value) (a0 : List Int) (p0 : RSl Ha eI 1 v0 a0) (v1 : Value) (a1 : List Int) (p1 : RSl Ha eI 1 v1 a1) (a2 : Int) {r : ((List Int) × Bool)} (hp : (PF.impl_resolve a0 a1 a2) = some r) :
  Calls Tryz.prog 76 #[v0, v1, Value.int .i64 a2] wa (p_impl_resolve Ha wa r) := by
 unfold PF.impl_resolve at hp
 have S0 := St.init hs
 refine calls_go (N := 30) (args := [v0, v1, Value.int .i64 a2]) Tryz.func76 rfl rfl rfl ?_
 refine FW.seq (FW.region ?_)
 refine FL.v (E.assign (v := Value.slice none 0 0) rfl) ?_
 refine FL.v (E.assign (v := Value.bool false) rfl) ?_
 refine FL.nil (FW.seq (FW.seq (FW.region ?_)))
 refine FL.v (E.move (v := v0) rfl) ?_
 refine FL.v (E.move (v := Value.int .i64 a2) rfl) ?_
 obtain ⟨r21, hr22, hp⟩ := bnd hp
 refine FL.call rfl rfl rfl (E.call Tryz.call74 (A2 rfl rfl)) (w_slices_Contains_int_int S0.sl v0 a0 p0 a2 hr22) ?_
 rintro e w23 ⟨rfl, r24⟩
 refine ⟨_, rfl, ?_⟩
 have S25 := S0.call r24
 refine FL.v (E.not rfl) ?_
 refine FL.v (E.move (v := Value.bool (!r21)) rfl) ?_
 obtain ⟨t31, hqt31, hp⟩ := bnd hp
 refine FL.cut 6 (fun f w => ∃ H : GH, St Ha wa H w [] ∧ Inc Ha H ∧ f 0 = v0 ∧ f 1 = v1 ∧ f 2 = Value.int .i64 a2 ∧ f 18 = Value.bool t31) ?_ ?_
 ·
  clear hp; have hp := hqt31; clear hqt31
  rcases ifB hp with ⟨c37, hp⟩ | ⟨c37, hp⟩
  ·
   refine FL.skip (wF_no rfl rfl rfl c37) rfl ?_
   refine FL.skip (wF_no rfl rfl rfl c37) rfl ?_
   refine FL.skip (wF_no rfl rfl rfl c37) rfl ?_
   refine FL.skip (wF_no rfl rfl rfl c37) rfl ?_
   refine FL.skip (wF_no rfl rfl rfl c37) rfl ?_
   obtain rfl := Option.some.inj hp
   refine FL.v (E.pickT rfl c37 rfl) ?_
   exact FL.nil ⟨rfl, _, S25, (Inc.rfl _), rfl, rfl, rfl, rfl⟩
  ·
   refine FL.val (wF_yes rfl rfl rfl c37) rfl rfl (E.move (v := v1) rfl) ?_
   refine FL.val (wF_yes rfl rfl rfl c37) rfl rfl (E.move (v := Value.int .i64 a2) rfl) ?_
   refine FL.val (wF_yes rfl rfl rfl c37) rfl rfl (E.neg rfl) ?_
   obtain ⟨r38, hr39, hp⟩ := bnd hp
   refine FL.call (wF_yes rfl rfl rfl c37) rfl rfl (E.call Tryz.call74 (A2 rfl rfl)) (w_slices_Contains_int_int S25.sl v1 a1 p1 (wr (-a2)) hr39) ?_
   rintro e w40 ⟨rfl, r41⟩
   refine ⟨_, rfl, ?_⟩
   have S42 := S25.call r41
   refine FL.val (wF_yes rfl rfl rfl c37) rfl rfl (E.not rfl) ?_
   obtain rfl := Option.some.inj hp
   refine FL.v (E.pickF rfl c37 rfl) ?_
   exact FL.nil ⟨rfl, _, S42, (Inc.rfl _), rfl, rfl, rfl, rfl⟩
 rintro f36 w35 ⟨H32, S33, i34, k43, k44, k45, k46⟩
 refine FL.nil ?_
 rcases ifB hp with ⟨c47, hp⟩ | ⟨c47, hp⟩
 ·
  refine FW.condT k46 c47 ?_
  refine FW.seq (FW.region ?_)
  refine FL.v (E.assign (v := Value.slice none 0 0) rfl) ?_
  refine FL.v (E.assign (v := Value.bool false) rfl) ?_
  refine FL.nil ?_
  refine FW.ret ?_
  obtain rfl := Option.some.inj hp
  exact ⟨.inr rfl, res2 rfl rfl rfl ⟨_, _, _, _, rfl, (S33.nil 3 1), Els.nil⟩⟩
 ·
  refine FW.condF k46 c47 ?_
  refine FW.skip (FW.seq (FW.region ?_))
  refine FL.v (E.move k43) ?_
  refine FL.v (E.move k45) ?_
  obtain ⟨r48, hr49, hp⟩ := bnd hp
  refine FL.call rfl rfl rfl (E.call Tryz.call172 (A2 rfl rfl)) (w_impl_withoutVar S33.sl v0 a0 (p0.mono i34) a2 hr49) ?_
  rintro e w51 ⟨H50, v54, n55, cs56, rfl, r53, els57⟩
  refine ⟨_, rfl, ?_⟩
  have els57 := els57.mono (up_le S33.size)
  have S52 := S33.join (l' := [.row 3 1 v54 n55 cs56]) r53 rfl
  refine FL.v (E.move k44) ?_
  refine FL.v (E.move k45) ?_
  obtain ⟨r58, hr59, hp⟩ := bnd hp
  refine FL.call rfl rfl rfl (E.call Tryz.call172 (A2 rfl rfl)) (w_impl_withoutVar S52.sl v1 a1 (p1.mono (i34.tr r53.run.inc)) a2 hr59) ?_
  rintro e w61 ⟨H60, v64, n65, cs66, rfl, r63, els67⟩
  refine ⟨_, rfl, ?_⟩
  have els67 := els67.mono (up_le S52.size)
  have S62 := S52.join (l' := [.row 3 1 v64 n65 cs66, .row 3 1 v54 n55 cs56]) r63 rfl
  obtain ⟨H68, S69, i70, h71, nv72⟩ := S62.sealRowU (i := 1) (l' := [.row 3 1 v64 n65 cs66]) rfl (els57.mono (up_mono r63.run.inc)) (by decide) rfl
  obtain ⟨H73, S74, i75, h76, nv77⟩ := S69.sealRowU (i := 0) (l' := []) rfl (els67.mono (up_mono i70)) (by decide) rfl
  obtain ⟨v78, w79, run80, S81⟩ := S74.buildSlice (P := Tryz.prog) te24 [v54, v64] (parts := #[(0, v54), (1, v64)]) (cells := [v54, v64]) rfl (szs_cons (cells_size h71.cells) (szs_cons (cells_size h76.cells) szs_nil)) (fc_cons h71.cells (fc_cons h76.cells fc_nil)) (ones_cons h71.one (ones_cons h76.one ones_nil)) (Nat.le_of_ble_eq_true rfl)
  have els82 : Els (up wa.heap.size H73) (eL eI 1) 1 [v54, v64] [r48, r58] := (Els.snoc (H := (up wa.heap.size H73)) (E := (eL eI 1)) (k := 1) (c := [v64]) (x := r58) (Els.snoc (H := (up wa.heap.size H73)) (E := (eL eI 1)) (k := 1) (c := [v54]) (x := r48) Els.nil rfl ⟨_, rfl, (h71.mono (up_mono i75))⟩) rfl ⟨_, rfl, h76⟩)
  refine FL.v (E.buildSlice (B2 rfl rfl) run80) ?_
  obtain ⟨H83, S84, i85, h86, nv87⟩ := S81.sealRowU (i := 0) (l' := []) rfl els82 (by decide) rfl
  obtain ⟨r88, hr89, hp⟩ := bnd hp
  refine FL.call rfl rfl rfl (E.call Tryz.call171 (A1 rfl)) (w_slices_Concat_int_int S84.sl v78 [r48, r58] (h86.mono upI) hr89) ?_
  rintro e w91 ⟨H90, v96, n97, cs98, rfl, r93, els99⟩
  refine ⟨_, rfl, ?_⟩
  obtain ⟨H94, r93, hU95⟩ := St.lendX i85 S81.sl r93
  have els99 := els99.mono (hU95.tr (up_le S81.size))
  have S92 := S81.join (l' := [.row 3 1 v96 n97 cs98, .row 34 1 v78 2 [v54, v64]]) r93 rfl
  obtain ⟨H100, S101, i102, h103, nv104⟩ := S92.sealRowU (i := 0) (l' := [.row 34 1 v78 2 [v54, v64]]) rfl els99 (by decide) rfl
  obtain ⟨r105, hr106, hp⟩ := bnd hp
  refine FL.call rfl rfl rfl (E.call Tryz.call170 (A1 rfl)) (w_impl_clause S101.sl v96 r88 (h103.mono upI) hr106) ?_
  rintro e w108 ⟨H107, v113, n114, cs115, rfl, r110, els116⟩
  refine ⟨_, rfl, ?_⟩
  obtain ⟨H111, r110, hU112⟩ := St.lendX i102 S92.sl r110
  have els116 := els116.mono (hU112.tr (up_le S92.size))
  have S109 := S92.join (l' := [.row 3 1 v113 n114 cs115, .row 3 1 v96 n97 cs98, .row 34 1 v78 2 [v54, v64]]) r110 rfl
  refine FL.v (E.extract (i := 0) rfl rfl) ?_
  refine FL.v (E.extract (i := 1) rfl rfl) ?_
  refine FL.v (E.assign (v := v113) rfl) ?_
  refine FL.v (E.assign (v := Value.bool r105.2) rfl) ?_
  refine FL.nil ?_
  refine FW.ret ?_
  obtain rfl := Option.some.inj hp
  exact ⟨.inr rfl, res2 rfl rfl rfl ⟨_, _, _, _, rfl, (S109.sel [0] (by decide) rfl), els116⟩⟩

@[reducible] def p_slices_SortFunc_LLint_Lint (H0 : GH) (w0 : World) (Ha : GH) (L : List MO) (v0 : Value) (n0 : Nat) (r : (List (List Int))) : Ending → World → Prop :=
 fun e w' => ∃ H' : GH, ∃ c0k : List Value, e = .returned (Value.tuple #[]) ∧ (St H0 w0 H' w' (.row 34 1 v0 n0 c0k :: L) ∧ Inc Ha H') ∧ Els (up w0.heap.size H') (eL eI 1) 1 c0k r ∧ (bl c0k).Nodup
theorem w_slices_SortFunc_LLint_Lint {H0 Ha : GH} {w0 wa : World} {L : List MO} {v0 : Value} {n0 : Nat} {k0 : List Value} (S0 : St H0 w0 Ha wa (.row 34 1 v0 n0 k0 :: L)) (a0 : List (List Int)) (p0 : Els (up w0.heap.size Ha) (eL eI 1) 1 k0 a0) (d0 : (bl k0).Nodup) (v1 : Value) (a1 : (List Int) → (List Int) → Option Int) (p1 : Fn_List_Int_List_Int_to_I Tryz.prog Ha v1 a1) {r : (List (List Int))} (hp : (PF.slices_SortFunc_LLint_Lint a0 a1) = some r) :
  Calls Tryz.prog 77 #[v0, v1] wa (p_slices_SortFunc_LLint_Lint H0 w0 Ha L v0 n0 r) := by
 refine (St.sortF (l := .row 34 1 v0 n0 k0 :: L) (i := 0) upI S0 rfl p0 (fun H2 w2 hi hs2 c x hc d y hd r hr => by obtain ⟨y0, e0, z0⟩ := eL_open hc; cases e0; obtain ⟨y1, e1, z1⟩ := eL_open hd; cases e1; exact p1 H2 w2 hi hs2 x c z0 y d z1 r hr) (fun p cap fv w => AnyF.slices_SortFunc_none (P := Tryz.prog) (ρ := Tryz.sort77_ren) { Tryz.sort77 with } p cap fv w) (fun α _ enc h1 cf hO g cb blk off cap d w eg hc hH hb hs => Any.slices_SortFunc Tryz.sort77 enc h1 cf hO g cb blk off cap d w eg hc hH hb hs) hp).mono ?_
 rintro e w' ⟨rfl, c', h1, h2, hq⟩
 exact ⟨_, _, rfl, ⟨h1, Inc.rfl _⟩, h2, nd_perm hq d0⟩

theorem w_slices_CompareFunc_int_int_int_int {Ha : GH} {wa : World} (hs : Sl Ha wa) (v0 : Value) (a0 : List Int) (p0 : RSl Ha eI 1 v0 a0) (v1 : Value) (a1 : List Int) (p1 : RSl Ha eI 1 v1 a1) (v2 : Value) (a2 : Int → Int → Option Int) (p2 : Fn_I_I_to_I Tryz.prog Ha v2 a2) {r : Int} (hp : (PF.slices_CompareFunc_int_int_int_int a0 a1 a2) = some r) :
  Calls Tryz.prog 177 #[v0, v1, v2] wa (Sc Ha wa (Value.int .i64 r)) := by
 unfold PF.slices_CompareFunc_int_int_int_int at hp
 have S0 := St.init hs
 refine calls_go (N := 39) (args := [v0, v1, v2]) Tryz.func177 rfl rfl rfl ?_
 refine FW.seq (FW.region ?_)
 refine FL.v (E.assign (v := Value.int .i64 0) rfl) ?_
 refine FL.nil (FW.seq (FW.seq (FW.region ?_)))
 refine FL.v (E.move (v := v0) rfl) ?_
 refine FL.v (E.lenP te34 rfl p0) ?_
 refine FL.v (E.move (v := Value.int .i64 0) rfl) ?_
 refine FL.nil ?_
 obtain ⟨q22, hq, hp⟩ := bndR hp
 refine FW.block ?_
 refine FW.mono (FW.forL (S := Unit) (X := Int) (fun (i22 : Nat) (s22 : Unit) f w => ∃ H : GH, St Ha wa H w [] ∧ Inc Ha H ∧ f 13 = Value.int .i64 ((i22 : Nat) : Int) ∧ f 0 = v0 ∧ f 1 = v1 ∧ f 2 = v2 ∧ f 11 = v0 ∧ f 12 = Value.int .i64 (len a0)) (fun q e f w => match q with | .go s22 => e = Exit.exit 0 ∧ (∃ H : GH, St Ha wa H w [] ∧ Inc Ha H ∧ f 0 = v0 ∧ f 1 = v1) | .rt x => ((e = Exit.ret) ∧ (fun e f w => (e = Exit.normal ∨ e = Exit.ret) ∧ ∀ a, Fr (δ := []) 39 a f → ∃ v, (results Tryz.f177 a.tmps).run Tryz.prog w = .ok v w ∧ (Sc Ha wa (Value.int .i64 x)) (.returned v) w) e f w)) hq ⟨_, S0, (Inc.rfl _), rfl, rfl, rfl, rfl, rfl, rfl⟩ ?_ ?_) ?_
 ·
  clear hp hq
  rintro i22 y21 s22 f64 w63 ⟨H60, S61, i62, k65, k66, k67, k68, k69, k70⟩ hx22 o97 hp
  refine FW.seq (FW.region ?_)
  refine FL.v (E.lssT k65 k70 (lss_len hx22)) ?_
  refine FL.nil (FW.seq ?_)
  refine FW.condT rfl rfl ?_
  refine FW.skip (FW.seq (FW.block (FW.seq (FW.region ?_))))
  refine FL.v (E.move k65) ?_
  obtain ⟨p71, cs72, pt73, l74, at75, rel76⟩ := p0.at (ix_nat hx22)
  obtain rfl := eI_open rel76
  refine FL.v (E.indexAddr te34 k69 k65 pt73) ?_
  refine FL.v (E.load rfl (run_load0 Tryz.isAgg3 ((at75.mono i62).now S61.sl) rfl)) ?_
  refine FL.v (E.assign (v := Value.int .i64 ((i22 : Nat) : Int)) rfl) ?_
  refine FL.v (E.assign (v := Value.int .i64 y21) rfl) ?_
  refine FL.nil (FW.seq (FW.seq (FW.region ?_)))
  refine FL.v (E.move (v := Value.int .i64 ((i22 : Nat) : Int)) rfl) ?_
  refine FL.v (E.move k67) ?_
  refine FL.v (E.lenP te34 rfl p1) ?_
  refine FL.v (E.geq rfl rfl) ?_
  refine FL.nil ?_
  rcases ifB hp with ⟨c77, hp⟩ | ⟨c77, hp⟩
  ·
   refine FW.condT rfl c77 ?_
   refine FW.seq (FW.region ?_)
   refine FL.v (E.assign (v := Value.int .i64 1) rfl) ?_
   refine FL.nil ?_
   refine FW.ret ?_
   obtain rfl := Option.some.inj hp
   exact ⟨nofun, rfl, ⟨.inr rfl, res1 rfl rfl ⟨rfl, S61.back⟩⟩⟩
  ·
   refine FW.condF rfl c77 ?_
   refine FW.skip (FW.seq (FW.region ?_))
   refine FL.v (E.move k67) ?_
   refine FL.v (E.move (v := Value.int .i64 ((i22 : Nat) : Int)) rfl) ?_
   obtain ⟨x84, hx85, hp⟩ := bnd hp
   obtain ⟨p78, cs79, pt80, l81, at82, rel83⟩ := p1.at hx85
   obtain rfl := eI_open rel83
   refine FL.v (E.indexAddr te34 rfl rfl pt80) ?_
   refine FL.v (E.load rfl (run_load0 Tryz.isAgg3 ((at82.mono i62).now S61.sl) rfl)) ?_
   refine FL.v (E.assign (v := Value.int .i64 x84) rfl) ?_
   refine FL.nil (FW.seq (FW.region ?_))
   refine FL.v (E.move k68) ?_
   refine FL.v (E.move (v := Value.int .i64 y21) rfl) ?_
   refine FL.v (E.move (v := Value.int .i64 x84) rfl) ?_
   obtain ⟨r86, hr87, hp⟩ := bnd hp
   obtain ⟨fi91, cs92, hv93, he94, hc95⟩ := (p2.mono i62) H60 w63 (Inc.rfl _) S61.sl y21 x84 r86 hr87
   refine FL.call rfl rfl rfl (E.callV he94 (Eq.trans rfl hv93) (appA (A2 rfl rfl) cs92)) hc95 ?_
   rintro e w88 ⟨rfl, r89⟩
   refine ⟨_, rfl, ?_⟩
   have S90 := S61.call r89
   refine FL.v (E.assign (v := Value.int .i64 r86) rfl) ?_
   refine FL.nil (FW.seq (FW.region ?_))
   refine FL.v (E.move (v := Value.int .i64 r86) rfl) ?_
   refine FL.v (E.neq rfl rfl) ?_
   refine FL.nil ?_
   rcases ifB hp with ⟨c96, hp⟩ | ⟨c96, hp⟩
   ·
    refine FW.condT rfl c96 ?_
    refine FW.seq (FW.region ?_)
    refine FL.v (E.move (v := Value.int .i64 r86) rfl) ?_
    refine FL.v (E.assign (v := Value.int .i64 r86) rfl) ?_
    refine FL.nil ?_
    refine FW.ret ?_
    obtain rfl := Option.some.inj hp
    exact ⟨nofun, rfl, ⟨.inr rfl, res1 rfl rfl ⟨rfl, S90.back⟩⟩⟩
   ·
    refine FW.condF rfl c96 ?_
    refine FW.skip (FW.region ?_)
    refine FL.v (E.add k65 rfl) ?_
    refine FL.v (E.move (v := Value.int .i64 (wr (((i22 : Nat) : Int) + 1))) rfl) ?_
    refine FL.nil ?_
    obtain rfl := Option.some.inj hp
    exact ⟨rfl, ⟨_, S90, i62, (nat_succ rfl (lt_of_get hx22) (p0.mono i62).le), k66, k67, k68, k69, k70⟩⟩
 ·
  clear hp hq
  rintro s22 f110 w109 ⟨H106, S107, i108, k111, k112, k113, k114, k115, k116⟩
  refine FW.seq (FW.region ?_)
  refine FL.v (E.lss k111 k116) ?_
  refine FL.nil (FW.seq ?_)
  refine FW.condF rfl dlt_len ?_
  refine FW.exit ?_
  exact ⟨nofun, rfl, ⟨_, S107, i108, k112, k113⟩⟩
 ·
  clear hq
  intro e f102 w101 hD
  rcases q22 with s22 | x22
  ·
   obtain ⟨rfl, hD⟩ := hD
   obtain ⟨H98, S99, i100, k103, k104⟩ := hD
   replace hp := el_go hp
   refine FW.seq (FW.seq (FW.region ?_))
   refine FL.v (E.move k103) ?_
   refine FL.v (E.lenP te34 rfl p0) ?_
   refine FL.v (E.move k104) ?_
   refine FL.v (E.lenP te34 rfl p1) ?_
   refine FL.v (E.lss rfl rfl) ?_
   refine FL.nil ?_
   rcases ifB hp with ⟨c105, hp⟩ | ⟨c105, hp⟩
   ·
    refine FW.condT rfl c105 ?_
    refine FW.seq (FW.region ?_)
    refine FL.v (E.assign (v := Value.int .i64 (-1)) rfl) ?_
    refine FL.nil ?_
    refine FW.ret ?_
    obtain rfl := Option.some.inj hp
    exact ⟨.inr rfl, res1 rfl rfl ⟨rfl, S99.back⟩⟩
   ·
    refine FW.condF rfl c105 ?_
    refine FW.skip (FW.seq (FW.region ?_))
    refine FL.v (E.assign (v := Value.int .i64 0) rfl) ?_
    refine FL.nil ?_
    refine FW.ret ?_
    obtain rfl := Option.some.inj hp
    exact ⟨.inr rfl, res1 rfl rfl ⟨rfl, S99.back⟩⟩
  ·
   obtain ⟨he, hL⟩ := hD
   replace hp := el_rt hp
   obtain rfl := Option.some.inj hp
   subst he
   exact hL

theorem w_impl_compareClauses {Ha : GH} {wa : World} (hs : Sl Ha wa) (v0 : Value) (a0 : List Int) (p0 : RSl Ha eI 1 v0 a0) (v1 : Value) (a1 : List Int) (p1 : RSl Ha eI 1 v1 a1) {r : Int} (hp : (PF.impl_compareClauses a0 a1) = some r) :
  Calls Tryz.prog 78 #[v0, v1] wa (Sc Ha wa (Value.int .i64 r)) := by
 unfold PF.impl_compareClauses at hp
 have S0 := St.init hs
 refine calls_go (N := 15) (args := [v0, v1]) Tryz.func78 rfl rfl rfl ?_
 refine FW.seq (FW.region ?_)
 refine FL.v (E.assign (v := Value.int .i64 0) rfl) ?_
 refine FL.nil (FW.seq (FW.region ?_))
 refine FL.v (E.move (v := v0) rfl) ?_
 refine FL.v (E.lenP te34 rfl p0) ?_
 refine FL.v (E.move (v := v1) rfl) ?_
 refine FL.v (E.lenP te34 rfl p1) ?_
 refine FL.call rfl rfl rfl (E.call Tryz.call176 (A2 rfl rfl)) (w_cmp_Compare_int S0.sl (len a0) (len a1)) ?_
 rintro e w21 ⟨rfl, r22⟩
 refine ⟨_, rfl, ?_⟩
 have S23 := S0.call r22
 refine FL.v (E.move (v := v0) rfl) ?_
 refine FL.v (E.move (v := v1) rfl) ?_
 obtain ⟨r24, hr25, hp⟩ := bnd hp
 refine FL.call rfl rfl rfl (E.call Tryz.call177 (A3 rfl rfl rfl)) (w_slices_CompareFunc_int_int_int_int S23.sl v0 a0 p0 v1 a1 p1 (Value.func (.func 178) #[] #[]) (fun x0 x1 => PF.impl_compareLiterals x0 x1) (fun H2 w2 hi2 hs2 x0 x1 r hr => ⟨178, #[], rfl, Tryz.call178, w_impl_compareLiterals hs2 x0 x1  hr⟩) hr25) ?_
 rintro e w26 ⟨rfl, r27⟩
 refine ⟨_, rfl, ?_⟩
 have S28 := S23.call r27
 obtain ⟨v29, w30, run31, S32⟩ := S28.buildSlice (P := Tryz.prog) te34 [Value.int .i64 (PF.cmp_Compare_int (len a0) (len a1)), Value.int .i64 r24] (parts := #[(0, Value.int .i64 (PF.cmp_Compare_int (len a0) (len a1))), (1, Value.int .i64 r24)]) (cells := [Value.int .i64 (PF.cmp_Compare_int (len a0) (len a1)), Value.int .i64 r24]) rfl (szs_cons rfl (szs_cons rfl szs_nil)) (fc_cons rfl (fc_cons rfl fc_nil)) (ones_cons rfl (ones_cons rfl ones_nil)) (Nat.le_of_ble_eq_true rfl)
 have els33 : Els (up wa.heap.size Ha) eI 1 [Value.int .i64 (PF.cmp_Compare_int (len a0) (len a1)), Value.int .i64 r24] [(PF.cmp_Compare_int (len a0) (len a1)), r24] := (Els.snoc (H := (up wa.heap.size Ha)) (E := eI) (k := 1) (c := [Value.int .i64 r24]) (x := r24) (Els.snoc (H := (up wa.heap.size Ha)) (E := eI) (k := 1) (c := [Value.int .i64 (PF.cmp_Compare_int (len a0) (len a1))]) (x := (PF.cmp_Compare_int (len a0) (len a1))) Els.nil rfl rfl) rfl rfl)
 refine FL.v (E.buildSlice (B2 rfl rfl) run31) ?_
 obtain ⟨H34, S35, i36, h37, nv38⟩ := S32.sealRowU (i := 0) (l' := []) rfl els33 (by decide) rfl
 obtain ⟨r39, hr40, hp⟩ := bnd hp
 refine FL.call rfl rfl rfl (E.call Tryz.call175 (A1 rfl)) (w_cmp_Or_int S35.sl v29 [(PF.cmp_Compare_int (len a0) (len a1)), r24] (h37.mono upI) hr40) ?_
 rintro e w41 ⟨rfl, r42⟩
 refine ⟨_, rfl, ?_⟩
 have r42 := Run.lend i36 S32.sl r42
 have S43 := S32.call r42
 refine FL.v (E.assign (v := Value.int .i64 r39) rfl) ?_
 refine FL.nil ?_
 refine FW.ret ?_
 obtain rfl := Option.some.inj hp
 exact ⟨.inr rfl, res1 rfl rfl ⟨rfl, S43.back⟩⟩

@[reducible] def pc79 (H0 : GH) (w0 : World) (Ha G : GH) (L : List MO) (r : (List (Value × List Int))) : Ending → World → Prop :=
  fun e w' => ∃ H' : GH, ∃ v0r : Value, ∃ n0r : Nat, ∃ c0r : List Value, e = .returned (v0r) ∧ (St H0 w0 H' w' (.row 34 1 v0r n0r c0r :: L) ∧ Inc Ha H') ∧ Els G (eCx (eL eI 1)) 1 c0r r
set_option maxHeartbeats 4000000 in
theorem wc79 {H0 Ha G : GH} {w0 wa : World} {L : List MO} {v0 : Value} {n0 : Nat} {k0 : List Value} (S0 : St H0 w0 Ha wa (.row 34 1 v0 n0 k0 :: L)) (hG : Inc G Ha) (a0 : List (Value × List Int)) (p0 : Els G (eCx (eL eI 1)) 1 k0 a0) (v1 : Value) (a1 : (List Int) → (List Int) → Option Bool) (p1 : Fn_List_Int_List_Int_to_B Tryz.prog Ha v1 a1) {r : (List (Value × List Int))} (hp : compL (Value.slice none 0 0, []) a0 (fun x y => a1 x.2 y.2) = some r) :
    Calls Tryz.prog 79 #[v0, v1] wa (pc79 H0 w0 Ha G L r) := by
  unfold compL at hp
  refine calls_go (N := 66) (args := [v0, v1]) Tryz.func79 rfl rfl rfl ?_
  refine FW.seq (FW.region ?_)
  refine FL.v (E.assign (v := Value.slice none 0 0) rfl) ?_
  refine FL.nil (FW.seq (FW.seq (FW.region ?_)))
  refine FL.v (E.move (v := v0) rfl) ?_
  refine FL.v (E.lenO te24 rfl S0 (i := 0) rfl p0 (by decide)) ?_
  refine FL.v (E.lss rfl rfl) ?_
  refine FL.nil ?_
  rcases ifB hp with ⟨c21, hp⟩ | ⟨c21, hp⟩
  ·
    refine FW.condT rfl c21 ?_
    refine FW.seq (FW.region ?_)
    refine FL.v (E.move (v := v0) rfl) ?_
    refine FL.v (E.assign (v := v0) rfl) ?_
    refine FL.nil ?_
    refine FW.ret ?_
    obtain rfl := Option.some.inj hp
    exact ⟨.inr rfl, res1 rfl rfl ⟨_, _, _, _, rfl, ⟨S0, (Inc.rfl _)⟩, p0⟩⟩
  ·
    refine FW.condF rfl c21 ?_
    refine FW.skip (FW.seq (FW.seq (FW.region ?_)))
    refine FL.v (E.assign (v := Value.int .i64 1) rfl) ?_
    refine FL.nil ?_
    obtain ⟨q22, hq, hp⟩ := bndR hp
    refine FW.block ?_
    refine FW.mono (FW.iter (S := Int) (X := (List (Value × List Int))) (fun (s22 : Int) f w => ∃ H : GH, St H0 w0 H w (.row 34 1 v0 n0 k0 :: L) ∧ Inc Ha H ∧ f 0 = v0 ∧ f 1 = v1 ∧ f 5 = Value.int .i64 s22) (fun q e f w => match q with | .go s22 => e = Exit.exit 0 ∧ (∃ H : GH, St H0 w0 H w (.row 34 1 v0 n0 k0 :: L) ∧ Inc Ha H ∧ f 0 = v0) | .rt x => ((e = Exit.ret) ∧ (fun e f w => (e = Exit.normal ∨ e = Exit.ret) ∧ ∀ a, Fr (δ := []) 66 a f → ∃ v, (results Tryz.f79 a.tmps).run Tryz.prog w = .ok v w ∧ (pc79 H0 w0 Ha G L x) (.returned v) w) e f w)) hq ⟨_, S0, (Inc.rfl _), rfl, rfl, rfl⟩ ?_) ?_
    ·
      clear hp hq
      rintro s22 f27 w26 ⟨H23, S24, i25, k28, k29, k30⟩ o196 hp
      refine FW.seq (FW.seq (FW.region ?_))
      refine FL.v (E.move k30) ?_
      refine FL.v (E.move k28) ?_
      refine FL.v (E.lenO te24 rfl S24 (i := 0) rfl p0 (by decide)) ?_
      refine FL.v (E.lss rfl rfl) ?_
      refine FL.nil ?_
      rcases ifB hp with ⟨c31, hp⟩ | ⟨c31, hp⟩
      ·
        refine FW.condT rfl c31 ?_
        refine FW.skip (FW.seq (FW.block (FW.seq ?_)))
        obtain ⟨x41, hx42, hp⟩ := bnd hp
        obtain ⟨x52, hx53, hp⟩ := bnd hp
        obtain ⟨r57, hr58, hp⟩ := bnd hp
        refine FW.drawB (SX H0 w0 H23 (.row 34 1 v0 n0 k0 :: L)) (fun f w => ∃ H : GH, St H0 w0 H w (.row 34 1 v0 n0 k0 :: L) ∧ Inc H23 H ∧ f 0 = v0 ∧ f 1 = v1 ∧ f 5 = Value.int .i64 s22 ∧ f 28 = Value.bool r57) (by kernel_rfl) S24.sl ?_ ?_
        ·
          intro w32 r33
          have S34 := S24.call r33
          refine FB.t (i := 0) (bs 11 1) rfl (SP.nil ⟨_, S34, (Inc.rfl _)⟩) rfl (fun w' hw' => (E.move k29)) ?_
          refine FB.t (i := 1) (bs 11 3) rfl (SP.nil ⟨_, S34, (Inc.rfl _)⟩) rfl (fun w' hw' => (E.move k28)) ?_
          refine FB.t (i := 2) (bs 11 7) rfl (SP.nil ⟨_, S34, (Inc.rfl _)⟩) rfl (fun w' hw' => (E.move k30)) ?_
          obtain ⟨p35, cs36, pt37, l38, at39, rel40, hall43⟩ := S34.row_atA (i := 0) rfl p0 (by decide) hx42
          obtain ⟨v44, rfl, ev44, h45⟩ := eCx_open rel40; obtain ⟨yv44, eyv44, h45⟩ := eL_open h45; cases eyv44
          refine FB.t (i := 3) (bs 11 15) rfl (SP.nil ⟨_, S34, (Inc.rfl _)⟩) rfl (fun w' hw' => (E.indexAddr te24 rfl rfl pt37)) ?_
          refine FB.t (i := 4) (bs 11 31) rfl (SP.nil ⟨_, S34, (Inc.rfl _)⟩) rfl (fun w' hw' => (E.load rfl (run_load0 Tryz.isAgg34 (hw'.use fun _ st => hall43 _ _ _ 0 st rfl) rfl))) ?_
          refine FB.t (i := 5) (bs 11 63) rfl (SP.nil ⟨_, S34, (Inc.rfl _)⟩) rfl (fun w' hw' => (E.move k28)) ?_
          refine FB.t (i := 6) (bs 11 127) rfl (SP.nil ⟨_, S34, (Inc.rfl _)⟩) rfl (fun w' hw' => (E.move k30)) ?_
          refine FB.t (i := 7) (bs 11 255) rfl (SP.nil ⟨_, S34, (Inc.rfl _)⟩) rfl (fun w' hw' => (E.sub rfl rfl)) ?_
          obtain ⟨p46, cs47, pt48, l49, at50, rel51, hall54⟩ := S34.row_atA (i := 0) rfl p0 (by decide) hx53
          obtain ⟨v55, rfl, ev55, h56⟩ := eCx_open rel51; obtain ⟨yv55, eyv55, h56⟩ := eL_open h56; cases eyv55
          refine FB.t (i := 8) (bs 11 511) rfl (SP.nil ⟨_, S34, (Inc.rfl _)⟩) rfl (fun w' hw' => (E.indexAddr te24 rfl rfl pt48)) ?_
          refine FB.t (i := 9) (bs 11 1023) rfl (SP.nil ⟨_, S34, (Inc.rfl _)⟩) rfl (fun w' hw' => (E.load rfl (run_load0 Tryz.isAgg34 (hw'.use fun _ st => hall54 _ _ _ 0 st rfl) rfl))) ?_
          refine FB.all1 (i := 10) (by kernel_rfl) ?_
          ·
            obtain ⟨fi62, cs63, hv64, he65, hc66⟩ := (p1.mono i25) H23 w32 (Inc.rfl _) S34.sl x41.2 v44 (h45.mono (hG.tr i25)) x52.2 v55 (h56.mono (hG.tr i25)) r57 hr58
            refine FC.call (l' := (bs 11 2047)) rfl (by kernel_rfl) rfl rfl rfl (E.callV he65 (Eq.trans rfl hv64) (appA (A2 rfl rfl) cs63)) hc66 ?_
            rintro e w59 ⟨rfl, r60⟩
            refine ⟨_, rfl, ?_⟩
            have S61 := S34.call r60
            refine ⟨(SP.nil ⟨_, S61, (Inc.rfl _)⟩), ?_⟩
            exact FB.done (by kernel_rfl) ⟨_, S61, (Inc.rfl _), k28, k29, k30, rfl⟩
        ·
          rintro f71 w70 ⟨H67, S68, i69, k72, k73, k74, k75⟩
          rcases ifB hp with ⟨c76, hp⟩ | ⟨c76, hp⟩
          ·
            refine FW.condT k75 c76 ?_
            refine FW.seq (FW.region ?_)
            refine FL.v (E.move k72) ?_
            refine FL.v (E.move k74) ?_
            obtain ⟨xs77, hc78, hp⟩ := bnd hp
            obtain ⟨v79, run80, h81⟩ := S68.tail te24 (kk := .i64) (i := 0) rfl p0 hc78
            refine FL.v (E.slice te24 rfl (congrArg some rfl) rfl rfl (run80 _)) ?_
            refine FL.v (E.assign (v := v79) rfl) ?_
            refine FL.nil (FW.seq (FW.seq (FW.region ?_)))
            refine FL.v (E.assign (v := Value.int .i64 1) rfl) ?_
            refine FL.nil ?_
            obtain ⟨q82, hq, hp⟩ := bndR hp
            refine FW.block ?_
            refine FW.mono (FW.iter (S := ((List (Value × List Int)) × Int × Int)) (X := Empty) (fun (s82 : ((List (Value × List Int)) × Int × Int)) f w => ∃ H : GH, ∃ cs83 : List Value, St H0 w0 H w (.row 34 1 v0 n0 cs83 :: L) ∧ Inc H67 H ∧ Els G (eCx (eL eI 1)) 1 cs83 s82.1 ∧ f 0 = v0 ∧ f 1 = v1 ∧ f 5 = Value.int .i64 s82.2.1 ∧ f 6 = v79 ∧ f 7 = Value.int .i64 s82.2.2) (fun (q : Rs ((List (Value × List Int)) × Int × Int) Empty) e f w => match q with | .go s82 => e = Exit.exit 2 ∧ (∃ H : GH, ∃ cs83 : List Value, St H0 w0 H w (.row 34 1 v0 n0 cs83 :: L) ∧ Inc H67 H ∧ Els G (eCx (eL eI 1)) 1 cs83 s82.1 ∧ f 0 = v0 ∧ f 5 = Value.int .i64 s82.2.1) | .rt x => x.elim) hq ⟨_, _, S68, (Inc.rfl _), p0, k72, k73, k74, rfl, rfl⟩ ?_) ?_
            ·
              clear hp hq
              rintro s82 f89 w88 ⟨H85, cs83, S86, i87, els84, k90, k91, k92, k93, k94⟩ o169 hp
              refine FW.seq (FW.seq (FW.region ?_))
              refine FL.v (E.move k94) ?_
              refine FL.v (E.move k93) ?_
              refine FL.v (E.lenT te24 rfl S86 (i := 0) rfl els84 (by decide) h81) ?_
              refine FL.v (E.lss rfl rfl) ?_
              refine FL.nil ?_
              rcases ifB hp with ⟨c95, hp⟩ | ⟨c95, hp⟩
              ·
                refine FW.condT rfl c95 ?_
                refine FW.skip (FW.seq (FW.block (FW.seq ?_)))
                obtain ⟨x105, hx106, hp⟩ := bnd hp
                obtain ⟨x115, hx116, hp⟩ := bnd hp
                obtain ⟨r119, hr120, hp⟩ := bnd hp
                refine FW.drawB (SX H0 w0 H85 (.row 34 1 v0 n0 cs83 :: L)) (fun f w => ∃ H : GH, St H0 w0 H w (.row 34 1 v0 n0 cs83 :: L) ∧ Inc H85 H ∧ f 0 = v0 ∧ f 1 = v1 ∧ f 5 = Value.int .i64 s82.2.1 ∧ f 6 = v79 ∧ f 7 = Value.int .i64 s82.2.2 ∧ f 49 = Value.bool (!r119)) (by kernel_rfl) S86.sl ?_ ?_
                ·
                  intro w96 r97
                  have S98 := S86.call r97
                  refine FB.t (i := 0) (bs 12 1) rfl (SP.nil ⟨_, S98, (Inc.rfl _)⟩) rfl (fun w' hw' => (E.move k91)) ?_
                  refine FB.t (i := 1) (bs 12 3) rfl (SP.nil ⟨_, S98, (Inc.rfl _)⟩) rfl (fun w' hw' => (E.move k93)) ?_
                  refine FB.t (i := 2) (bs 12 7) rfl (SP.nil ⟨_, S98, (Inc.rfl _)⟩) rfl (fun w' hw' => (E.move k94)) ?_
                  refine FB.t (i := 5) (bs 12 39) rfl (SP.nil ⟨_, S98, (Inc.rfl _)⟩) rfl (fun w' hw' => (E.move k93)) ?_
                  refine FB.t (i := 6) (bs 12 103) rfl (SP.nil ⟨_, S98, (Inc.rfl _)⟩) rfl (fun w' hw' => (E.move k94)) ?_
                  refine FB.t (i := 7) (bs 12 231) rfl (SP.nil ⟨_, S98, (Inc.rfl _)⟩) rfl (fun w' hw' => (E.sub rfl rfl)) ?_
                  refine FB.phase [10] (fun w' => w' = w96) ?_
                  obtain ⟨p99, cs100, pt101, l102, at103, rel104⟩ := S98.row_at (i := 0) rfl els84 (by decide) (ixT_some hx106).2
                  obtain ⟨v107, rfl, ev107, h108⟩ := eCx_open rel104; obtain ⟨yv107, eyv107, h108⟩ := eL_open h108; cases eyv107
                  refine FB.u (i := 3) (bs 12 239) [4, 10, 11] rfl (SP.on rfl (SP.nil ⟨_, S98, (Inc.rfl _)⟩)) rfl (E.indexAddr te24 rfl rfl (PtrOf.tail h81 pt101 (ixT_some hx106).1)) ?_
                  refine FB.u (i := 4) (bs 12 255) [10, 11] rfl (SP.on rfl (SP.nil ⟨_, S98, (Inc.rfl _)⟩)) rfl (E.load rfl (run_load0 Tryz.isAgg34 at103 rfl)) ?_
                  obtain ⟨p109, cs110, pt111, l112, at113, rel114⟩ := S98.row_at (i := 0) rfl els84 (by decide) (ixT_some hx116).2
                  obtain ⟨v117, rfl, ev117, h118⟩ := eCx_open rel114; obtain ⟨yv117, eyv117, h118⟩ := eL_open h118; cases eyv117
                  refine FB.u (i := 8) (bs 12 511) [9, 10, 11] rfl (SP.on rfl (SP.nil ⟨_, S98, (Inc.rfl _)⟩)) rfl (E.indexAddr te24 rfl rfl (PtrOf.tail h81 pt111 (ixT_some hx116).1)) ?_
                  refine FB.u (i := 9) (bs 12 1023) [10, 11] rfl (SP.on rfl (SP.nil ⟨_, S98, (Inc.rfl _)⟩)) rfl (E.load rfl (run_load0 Tryz.isAgg34 at113 rfl)) ?_
                  refine FB.all1 (i := 10) (by kernel_rfl) ?_
                  ·
                    obtain ⟨fi124, cs125, hv126, he127, hc128⟩ := (p1.mono ((i25.tr i69).tr i87)) H85 w96 (Inc.rfl _) S98.sl x105.2 v107 (h108.mono (hG.tr ((i25.tr i69).tr i87))) x115.2 v117 (h118.mono (hG.tr ((i25.tr i69).tr i87))) r119 hr120
                    refine FC.call (l' := (bs 12 2047)) rfl (by kernel_rfl) rfl rfl rfl (E.callV he127 (Eq.trans rfl hv126) (appA (A2 rfl rfl) cs125)) hc128 ?_
                    rintro e w121 ⟨rfl, r122⟩
                    refine ⟨_, rfl, ?_⟩
                    have S123 := S98.call r122
                    refine ⟨(SP.o (SP.nil ⟨_, S123, (Inc.rfl _)⟩)), ?_⟩
                    refine FB.t (i := 11) (bs 12 4095) rfl (SP.o (SP.nil ⟨_, S123, (Inc.rfl _)⟩)) rfl (fun w' hw' => (E.not rfl)) ?_
                    exact FB.done (by kernel_rfl) ⟨_, S123, (Inc.rfl _), k90, k91, k92, k93, k94, rfl⟩
                ·
                  rintro f133 w132 ⟨H129, S130, i131, k134, k135, k136, k137, k138, k139⟩
                  rcases ifB hp with ⟨c140, hp⟩ | ⟨c140, hp⟩
                  ·
                    refine FW.condT k139 c140 ?_
                    refine FW.seq (FW.region ?_)
                    refine FL.v (E.move k134) ?_
                    refine FL.v (E.move k136) ?_
                    refine FL.v (E.move k137) ?_
                    refine FL.v (E.move k138) ?_
                    obtain ⟨x147, hx148, hp⟩ := bnd hp
                    obtain ⟨p141, cs142, pt143, l144, at145, rel146⟩ := S130.row_at (i := 0) rfl els84 (by decide) (ixT_some hx148).2
                    obtain ⟨v149, rfl, ev149, h150⟩ := eCx_open rel146; obtain ⟨yv149, eyv149, h150⟩ := eL_open h150; cases eyv149
                    refine FL.v (E.indexAddr te24 rfl rfl (PtrOf.tail h81 pt143 (ixT_some hx148).1)) ?_
                    refine FL.v (E.load rfl (run_load0 Tryz.isAgg34 at145 rfl)) ?_
                    obtain ⟨x157, hx158, hp⟩ := bnd hp
                    obtain ⟨p151, cs152, pt153, l154, at155, rel156⟩ := S130.row_at (i := 0) rfl els84 (by decide) hx158
                    obtain ⟨v159, rfl, ev159, h160⟩ := eCx_open rel156; obtain ⟨yv159, eyv159, h160⟩ := eL_open h160; cases eyv159
                    refine FL.v (E.indexAddr te24 rfl rfl pt153) ?_
                    obtain ⟨xs164, hput165, hp⟩ := bnd hp
                    obtain ⟨w161, cs167, run162, S163, els166, ce168⟩ := S130.putEls (P := Tryz.prog) (t := 34) (i := 0) rfl els84 hput165 pt153 Tryz.sizeOf34 (u := v149) (c := [v149]) h150.cells rfl (ones_cons h150.one ones_nil) (eCx_mk ev149 ⟨_, rfl, h150⟩)
                    have S163 : St H0 w0 H129 w161 (.row 34 1 v0 n0 cs167 :: L) := S163
                    refine FL.act rfl rfl (E.store rfl rfl run162) ?_
                    refine FL.nil (FW.region ?_)
                    refine FL.v (E.move k136) ?_
                    refine FL.v (E.add rfl rfl) ?_
                    refine FL.v (E.assign (v := Value.int .i64 (wr (s82.2.1 + 1))) rfl) ?_
                    refine FL.nil (FW.region ?_)
                    refine FL.v (E.move k138) ?_
                    refine FL.v (E.add rfl rfl) ?_
                    refine FL.v (E.assign (v := Value.int .i64 (wr (s82.2.2 + 1))) rfl) ?_
                    refine FL.nil ?_
                    obtain rfl := Option.some.inj hp
                    exact ⟨rfl, ⟨_, _, S163, (i87.tr i131), els166, k134, k135, rfl, k137, rfl⟩⟩
                  ·
                    refine FW.condF k139 c140 ?_
                    refine FW.skip (FW.region ?_)
                    refine FL.v (E.move k138) ?_
                    refine FL.v (E.add rfl rfl) ?_
                    refine FL.v (E.assign (v := Value.int .i64 (wr (s82.2.2 + 1))) rfl) ?_
                    refine FL.nil ?_
                    obtain rfl := Option.some.inj hp
                    exact ⟨rfl, ⟨_, _, S130, (i87.tr i131), els84, k134, k135, k136, k137, rfl⟩⟩
              ·
                refine FW.condF rfl c95 ?_
                refine FW.exit ?_
                obtain rfl := Option.some.inj hp
                exact ⟨nofun, rfl, ⟨_, _, S86, i87, els84, k90, k92⟩⟩
            ·
              clear hq
              intro e f174 w173 hD
              rcases q82 with s82 | x82
              ·
                obtain ⟨rfl, hD⟩ := hD
                obtain ⟨H170, cs83, S171, i172, els84, k175, k176⟩ := hD
                replace hp := el_go hp
                refine FW.seq (FW.region ?_)
                refine FL.v (E.move k175) ?_
                refine FL.v (E.move k176) ?_
                obtain ⟨xs177, hc178, hp⟩ := bnd hp
                obtain ⟨v179, run180, h181⟩ := S171.tail te24 (kk := .i64) (i := 0) rfl els84 hc178
                refine FL.v (E.slice te24 rfl (congrArg some rfl) rfl rfl (run180 _)) ?_
                obtain ⟨w182, cs183, run184, S185, els186⟩ := S171.clearTail (P := Tryz.prog) te24 (i := 0) (x0 := (Value.slice none 0 0, [])) rfl els84 h181 (eCx_mk rfl ⟨_, rfl, RSl.nil _ _ _⟩) (ones_cons rfl ones_nil)
                have S185 : St H0 w0 H170 w182 (.row 34 1 v0 n0 cs183 :: L) := S185
                refine FL.val0 rfl rfl (E.clear rfl run184) ?_
                refine FL.nil (FW.seq (FW.region ?_))
                refine FL.v (E.move k175) ?_
                refine FL.v (E.move k176) ?_
                obtain ⟨xs187, hc188, hp⟩ := bnd hp
                obtain ⟨v189, n190, cs191, run192, S193, els194, nd195⟩ := S185.cutRow te24 (kk := .i64) (i := 0) rfl els186 hc188
                have S193 : St H0 w0 H170 w182 (.row 34 1 v189 n190 cs191 :: L) := S193
                refine FL.v (E.slice te24 rfl rfl (congrArg some rfl) rfl (run192 _)) ?_
                refine FL.v (E.assign (v := v189) rfl) ?_
                refine FL.nil ?_
                refine FW.ret ?_
                obtain rfl := Option.some.inj hp
                exact ⟨nofun, rfl, ⟨.inr rfl, res1 rfl rfl ⟨_, _, _, _, rfl, ⟨S193, ((i25.tr i69).tr i172)⟩, els194⟩⟩⟩
              · exact x82.elim
          ·
            refine FW.condF k75 c76 ?_
            refine FW.skip (FW.region ?_)
            refine FL.v (E.move k74) ?_
            refine FL.v (E.add rfl rfl) ?_
            refine FL.v (E.assign (v := Value.int .i64 (wr (s22 + 1))) rfl) ?_
            refine FL.nil ?_
            obtain rfl := Option.some.inj hp
            exact ⟨rfl, ⟨_, S68, (i25.tr i69), k72, k73, rfl⟩⟩
      ·
        refine FW.condF rfl c31 ?_
        refine FW.exit ?_
        obtain rfl := Option.some.inj hp
        exact ⟨nofun, rfl, ⟨_, S24, i25, k28⟩⟩
    ·
      clear hq
      intro e f201 w200 hD
      rcases q22 with s22 | x22
      ·
        obtain ⟨rfl, hD⟩ := hD
        obtain ⟨H197, S198, i199, k202⟩ := hD
        replace hp := el_go hp
        refine FW.seq (FW.region ?_)
        refine FL.v (E.move k202) ?_
        refine FL.v (E.assign (v := v0) rfl) ?_
        refine FL.nil ?_
        refine FW.ret ?_
        obtain rfl := Option.some.inj hp
        exact ⟨.inr rfl, res1 rfl rfl ⟨_, _, _, _, rfl, ⟨S198, i199⟩, p0⟩⟩
      ·
        obtain ⟨he, hL⟩ := hD
        replace hp := el_rt hp
        obtain rfl := Option.some.inj hp
        subst he
        exact hL
@[reducible] def p_slices_CompactFunc_LLint_Lint (H0 : GH) (w0 : World) (Ha : GH) (L : List MO) (r : (List (List Int))) : Ending → World → Prop :=
  fun e w' => ∃ H' : GH, ∃ v0r : Value, ∃ n0r : Nat, ∃ c0r : List Value, e = .returned (v0r) ∧ (St H0 w0 H' w' (.row 34 1 v0r n0r c0r :: L) ∧ Inc Ha H') ∧ Els (up w0.heap.size H') (eL eI 1) 1 c0r r ∧ (bl c0r).Nodup
theorem w_slices_CompactFunc_LLint_Lint {H0 Ha : GH} {w0 wa : World} {L : List MO} {v0 : Value} {n0 : Nat} {k0 : List Value} (S0 : St H0 w0 Ha wa (.row 34 1 v0 n0 k0 :: L)) (a0 : List (List Int)) (p0 : Els (up w0.heap.size Ha) (eL eI 1) 1 k0 a0) (d0 : (bl k0).Nodup) (v1 : Value) (a1 : (List Int) → (List Int) → Option Bool) (p1 : Fn_List_Int_List_Int_to_B Tryz.prog Ha v1 a1) {r : (List (List Int))} (hp : (PF.slices_CompactFunc_LLint_Lint a0 a1) = some r) :
    Calls Tryz.prog 79 #[v0, v1] wa (p_slices_CompactFunc_LLint_Lint H0 w0 Ha L r) := by
  unfold PF.slices_CompactFunc_LLint_Lint at hp
  have hl := S0.row_lim (i := 0) rfl p0
  obtain ⟨d, h1, rfl, rfl⟩ := els_pair p0
  obtain ⟨q, hq, rfl⟩ := compF_map hp
  refine (wc79 S0 upI d h1 v1 a1 p1 (compL_eq (by simpa using hl) hq)).mono ?_
  rintro e w' ⟨H', v, n, c, rfl, ⟨h2, hi⟩, h3⟩
  obtain ⟨h4, rfl⟩ := pair_els h3
  exact ⟨H', v, n, _, rfl, ⟨h2, hi⟩, h4.mono (up_mono hi), nd_sub ((compF_sub hq).map _) d0⟩

theorem w_slices_Equal_int_int {Ha : GH} {wa : World} (hs : Sl Ha wa) (v0 : Value) (a0 : List Int) (p0 : RSl Ha eI 1 v0 a0) (v1 : Value) (a1 : List Int) (p1 : RSl Ha eI 1 v1 a1) {r : Bool} (hp : (PF.slices_Equal_int_int a0 a1) = some r) :
  Calls Tryz.prog 80 #[v0, v1] wa (Sc Ha wa (Value.bool r)) := by
 unfold PF.slices_Equal_int_int at hp
 have S0 := St.init hs
 refine calls_go (N := 26) (args := [v0, v1]) Tryz.func80 rfl rfl rfl ?_
 refine FW.seq (FW.region ?_)
 refine FL.v (E.assign (v := Value.bool false) rfl) ?_
 refine FL.nil (FW.seq (FW.seq (FW.region ?_)))
 refine FL.v (E.move (v := v0) rfl) ?_
 refine FL.v (E.lenP te34 rfl p0) ?_
 refine FL.v (E.move (v := v1) rfl) ?_
 refine FL.v (E.lenP te34 rfl p1) ?_
 refine FL.v (E.neq rfl rfl) ?_
 refine FL.nil ?_
 rcases ifB hp with ⟨c21, hp⟩ | ⟨c21, hp⟩
 ·
  refine FW.condT rfl c21 ?_
  refine FW.seq (FW.region ?_)
  refine FL.v (E.assign (v := Value.bool false) rfl) ?_
  refine FL.nil ?_
  refine FW.ret ?_
  obtain rfl := Option.some.inj hp
  exact ⟨.inr rfl, res1 rfl rfl ⟨rfl, S0.back⟩⟩
 ·
  refine FW.condF rfl c21 ?_
  refine FW.skip (FW.seq (FW.seq (FW.region ?_)))
  refine FL.v (E.move (v := v0) rfl) ?_
  refine FL.v (E.lenP te34 rfl p0) ?_
  refine FL.v (E.move (v := Value.int .i64 0) rfl) ?_
  refine FL.nil ?_
  obtain ⟨q23, hq, hp⟩ := bndR hp
  refine FW.block ?_
  refine FW.mono (FW.forL (S := Unit) (X := Bool) (fun (i23 : Nat) (s23 : Unit) f w => ∃ H : GH, St Ha wa H w [] ∧ Inc Ha H ∧ f 13 = Value.int .i64 ((i23 : Nat) : Int) ∧ f 0 = v0 ∧ f 1 = v1 ∧ f 12 = Value.int .i64 (len a0)) (fun q e f w => match q with | .go s23 => e = Exit.exit 0 ∧ (∃ H : GH, St Ha wa H w [] ∧ Inc Ha H) | .rt x => ((e = Exit.ret) ∧ (fun e f w => (e = Exit.normal ∨ e = Exit.ret) ∧ ∀ a, Fr (δ := []) 26 a f → ∃ v, (results Tryz.f80 a.tmps).run Tryz.prog w = .ok v w ∧ (Sc Ha wa (Value.bool x)) (.returned v) w) e f w)) hq ⟨_, S0, (Inc.rfl _), rfl, rfl, rfl, rfl⟩ ?_ ?_) ?_
  ·
   clear hp hq
   rintro i23 y22 s23 f56 w55 ⟨H52, S53, i54, k57, k58, k59, k60⟩ hx23 o80 hp
   refine FW.seq (FW.region ?_)
   refine FL.v (E.lssT k57 k60 (lss_len hx23)) ?_
   refine FL.nil (FW.seq ?_)
   refine FW.condT rfl rfl ?_
   refine FW.skip (FW.seq (FW.block (FW.seq (FW.region ?_))))
   refine FL.v (E.move k57) ?_
   refine FL.v (E.assign (v := Value.int .i64 ((i23 : Nat) : Int)) rfl) ?_
   refine FL.nil (FW.seq ?_)
   refine FW.draw (fun w' => Run w55.heap.size H52 w55 H52 w') (by kernel_rfl) (by kernel_rfl) (run_drew S53.sl) ?_
   refine FD.val rfl rfl rfl (fun w' hw' => (E.move k58)) ?_
   refine FD.val rfl rfl rfl (fun w' hw' => (E.move (v := Value.int .i64 ((i23 : Nat) : Int)) rfl)) ?_
   obtain ⟨p62, cs63, pt64, l65, at66, rel67⟩ := p0.at (ix_nat hx23)
   obtain rfl := eI_open rel67
   refine FD.val rfl rfl rfl (fun w' hw' => (E.indexAddr te34 rfl rfl pt64)) ?_
   refine FD.val rfl rfl rfl (fun w' hw' => (E.load rfl (run_load0 Tryz.isAgg3 ((at66.mono i54).now (S53.call hw').sl) rfl))) ?_
   refine FD.val rfl rfl rfl (fun w' hw' => (E.move k59)) ?_
   refine FD.val rfl rfl rfl (fun w' hw' => (E.move (v := Value.int .i64 ((i23 : Nat) : Int)) rfl)) ?_
   obtain ⟨x74, hx75, hp⟩ := bnd hp
   obtain ⟨p68, cs69, pt70, l71, at72, rel73⟩ := p1.at hx75
   obtain rfl := eI_open rel73
   refine FD.val rfl rfl rfl (fun w' hw' => (E.indexAddr te34 rfl rfl pt70)) ?_
   refine FD.val rfl rfl rfl (fun w' hw' => (E.load rfl (run_load0 Tryz.isAgg3 ((at72.mono i54).now (S53.call hw').sl) rfl))) ?_
   refine FD.val rfl rfl rfl (fun w' hw' => (E.neq rfl rfl)) ?_
   refine FD.nil ?_
   intro w76 r78
   have S77 := S53.call r78
   rcases ifB hp with ⟨c79, hp⟩ | ⟨c79, hp⟩
   ·
    refine FW.condT rfl c79 ?_
    refine FW.seq (FW.region ?_)
    refine FL.v (E.assign (v := Value.bool false) rfl) ?_
    refine FL.nil ?_
    refine FW.ret ?_
    obtain rfl := Option.some.inj hp
    exact ⟨nofun, rfl, ⟨.inr rfl, res1 rfl rfl ⟨rfl, S77.back⟩⟩⟩
   ·
    refine FW.condF rfl c79 ?_
    refine FW.skip (FW.region ?_)
    refine FL.v (E.add k57 rfl) ?_
    refine FL.v (E.move (v := Value.int .i64 (wr (((i23 : Nat) : Int) + 1))) rfl) ?_
    refine FL.nil ?_
    obtain rfl := Option.some.inj hp
    exact ⟨rfl, ⟨_, S77, i54, (nat_succ rfl (lt_of_get hx23) (p0.mono i54).le), k58, k59, k60⟩⟩
  ·
   clear hp hq
   rintro s23 f90 w89 ⟨H86, S87, i88, k91, k92, k93, k94⟩
   refine FW.seq (FW.region ?_)
   refine FL.v (E.lss k91 k94) ?_
   refine FL.nil (FW.seq ?_)
   refine FW.condF rfl dlt_len ?_
   refine FW.exit ?_
   exact ⟨nofun, rfl, ⟨_, S87, i88⟩⟩
  ·
   clear hq
   intro e f85 w84 hD
   rcases q23 with s23 | x23
   ·
    obtain ⟨rfl, hD⟩ := hD
    obtain ⟨H81, S82, i83⟩ := hD
    replace hp := el_go hp
    refine FW.seq (FW.region ?_)
    refine FL.v (E.assign (v := Value.bool true) rfl) ?_
    refine FL.nil ?_
    refine FW.ret ?_
    obtain rfl := Option.some.inj hp
    exact ⟨.inr rfl, res1 rfl rfl ⟨rfl, S82.back⟩⟩
   ·
    obtain ⟨he, hL⟩ := hD
    replace hp := el_rt hp
    obtain rfl := Option.some.inj hp
    subst he
    exact hL

@[reducible] def p_impl_EliminateVar (Ha : GH) (wa : World) (r : (Cnf × Bool)) : Ending → World → Prop :=
  fun e w' => ∃ H' : GH, ∃ v0_1 : Value, e = .returned (Value.tuple #[Value.agg #[Value.int .i64 r.1.vars, v0_1], Value.bool r.2]) ∧ Run wa.heap.size Ha wa H' w' ∧ (∃ c, Nest (up wa.heap.size H') (eL eI 1) 1 v0_1 r.1.clauses c)
set_option maxHeartbeats 4000000 in
theorem w_impl_EliminateVar {Ha : GH} {wa : World} (hs : Sl Ha wa) (a0 : Cnf) (v0_1 : Value) (p0_1 : RSl Ha (eL eI 1) 1 v0_1 a0.clauses) (a1 : Int) {r : (Cnf × Bool)} (hp : (PF.impl_EliminateVar a0 a1) = some r) :
    Calls Tryz.prog 10 #[Value.agg #[Value.int .i64 a0.vars, v0_1], Value.int .i64 a1] wa (p_impl_EliminateVar Ha wa r) := by
  unfold PF.impl_EliminateVar at hp
  have S0 := St.init hs
  refine calls_go (N := 88) (args := [Value.agg #[Value.int .i64 a0.vars, v0_1], Value.int .i64 a1]) Tryz.func10 rfl rfl rfl ?_
  refine FW.seq (FW.region ?_)
  obtain ⟨b21, w22, run23, S24⟩ := S0.box (P := Tryz.prog) 26 [Value.int .i64 a0.vars, v0_1] (v := Value.agg #[Value.int .i64 a0.vars, v0_1]) rfl (ones_cons rfl (ones_cons p0_1.one ones_nil))
  refine FL.v (E.box rfl run23) ?_
  obtain ⟨H25, S26, i27, at28⟩ := S24.sealBox (i := 0) (l' := []) rfl rfl
  have S33 := S26.nil 34 1
  have els34 : Els (up wa.heap.size H25) (eL eI 1) 1 [] [] := Els.nil
  obtain ⟨b29, w30, run31, S32⟩ := S33.alloc (P := Tryz.prog) 26 [Value.int .i64 0, Value.slice none 0 0] Tryz.zeroValue26 rfl (ones_cons rfl (ones_cons rfl ones_nil))
  refine FL.v (E.alloc run31) ?_
  refine FL.v (E.assign (v := Value.bool false) rfl) ?_
  refine FL.nil (FW.seq (FW.seq (FW.region ?_)))
  refine FL.v (E.load rfl (run_loadA Tryz.isAgg26 Tryz.sizeOf26 (at28.now S32.sl) rfl)) ?_
  obtain ⟨r35, hr36, hp⟩ := bnd hp
  refine FL.call rfl rfl rfl (E.call Tryz.call72 (A1 rfl)) (w_impl_IsCnf S32.sl a0 v0_1 (p0_1.mono i27) hr36) ?_
  rintro e w37 ⟨rfl, r38⟩
  refine ⟨_, rfl, ?_⟩
  have S39 := S32.call r38
  refine FL.v (E.not rfl) ?_
  refine FL.v (E.move (v := Value.bool (!r35)) rfl) ?_
  refine FL.cut 6 (fun f w => ∃ H : GH, St Ha wa H w [.box b29 26 [Value.int .i64 0, (Value.slice none 0 0)], .row 34 1 (Value.slice none 0 0) 0 []] ∧ Inc H25 H ∧ f 1 = Value.int .i64 a1 ∧ f 2 = Value.pointer (some ⟨b21, 0, none⟩) ∧ f 4 = Value.pointer (some (⟨b29, 0, none⟩ : Addr)) ∧ f 22 = Value.bool (bif (!r35) then true else (!(PF.impl_isVar a0.vars a1)))) ?_ ?_
  ·
    rcases bcase (!r35) with c49 | c49
    ·
      refine FL.skip (wF_no rfl rfl rfl c49) rfl ?_
      refine FL.skip (wF_no rfl rfl rfl c49) rfl ?_
      refine FL.skip (wF_no rfl rfl rfl c49) rfl ?_
      refine FL.skip (wF_no rfl rfl rfl c49) rfl ?_
      refine FL.skip (wF_no rfl rfl rfl c49) rfl ?_
      refine FL.v (E.pickT rfl c49 rfl) ?_
      exact FL.nil ⟨rfl, _, S39, (Inc.rfl _), rfl, rfl, rfl, (congrArg Value.bool (bifT c49).symm)⟩
    ·
      refine FL.val (wF_yes rfl rfl rfl c49) rfl rfl (E.fieldAddr tf26_0 rfl) ?_
      refine FL.val (wF_yes rfl rfl rfl c49) rfl rfl (E.load rfl (run_load1 Tryz.isAgg3 (at28.now S39.sl) rfl)) ?_
      refine FL.val (wF_yes rfl rfl rfl c49) rfl rfl (E.move (v := Value.int .i64 a1) rfl) ?_
      refine FL.call (wF_yes rfl rfl rfl c49) rfl rfl (E.call Tryz.call73 (A2 rfl rfl)) (w_impl_isVar S39.sl a0.vars a1) ?_
      rintro e w50 ⟨rfl, r51⟩
      refine ⟨_, rfl, ?_⟩
      have S52 := S39.call r51
      refine FL.val (wF_yes rfl rfl rfl c49) rfl rfl (E.not rfl) ?_
      refine FL.v (E.pickF rfl c49 rfl) ?_
      exact FL.nil ⟨rfl, _, S52, (Inc.rfl _), rfl, rfl, rfl, (congrArg Value.bool (bifF c49).symm)⟩
  rintro f48 w47 ⟨H44, S45, i46, k53, k54, k55, k56⟩
  refine FL.nil ?_
  rcases ifB hp with ⟨c57, hp⟩ | ⟨c57, hp⟩
  ·
    refine FW.condT k56 c57 ?_
    refine FW.seq (FW.region ?_)
    refine FL.v (E.build (B0) (run_build _ 26 #[] #[Value.int .i64 0, Value.slice none 0 0] (by rfl))) ?_
    have S58 := S45.nil 34 1
    have els59 : Els (up wa.heap.size H44) (eL eI 1) 1 [] [] := Els.nil
    obtain ⟨w60, run61, S62⟩ := S58.store0 (P := Tryz.prog) (t := 26) (i := 1) (cs' := [Value.int .i64 0, (Value.slice none 0 0)]) (l' := [.row 34 1 (Value.slice none 0 0) 0 [], .box b29 26 [Value.int .i64 0, (Value.slice none 0 0)], .row 34 1 (Value.slice none 0 0) 0 []]) (v := Value.agg #[Value.int .i64 0, (Value.slice none 0 0)]) (c := [Value.int .i64 0, (Value.slice none 0 0)]) rfl Tryz.sizeOf26 rfl rfl (ones_cons rfl (ones_cons (Ln.one (S58.row_ln (i := 0) rfl)) ones_nil)) (Nat.le_of_ble_eq_true rfl) rfl rfl
    refine FL.act rfl rfl (E.store k55 rfl run61) ?_
    refine FL.v (E.assign (v := Value.bool false) rfl) ?_
    refine FL.nil ?_
    refine FW.ret ?_
    obtain ⟨H63, S64, i65, ns68, nv67⟩ := S62.sealRowN (i := 0) (l' := [.box b29 26 [Value.int .i64 0, (Value.slice none 0 0)], .row 34 1 (Value.slice none 0 0) 0 []]) rfl els59 (show (bl []).Nodup from List.nodup_nil) (by decide) rfl
    have h66 := ns68.rsl
    obtain rfl := Option.some.inj hp
    exact ⟨.inr rfl, resC2 rfl k55 (loadVar_A Tryz.isAgg26 Tryz.sizeOf26 (S64.box_now (i := 0) rfl) rfl) rfl ⟨_, _, rfl, S64.run, ⟨_, ns68⟩⟩⟩
  ·
    refine FW.condF k56 c57 ?_
    refine FW.skip (FW.seq (FW.region ?_))
    refine FL.v (E.fieldAddr tf26_0 k54) ?_
    refine FL.v (E.load rfl (run_load1 Tryz.isAgg3 ((at28.mono i46).now S45.sl) rfl)) ?_
    refine FL.v (E.build (B1 rfl) (run_build _ 26 #[(0, Value.int .i64 a0.vars)] #[Value.int .i64 a0.vars, Value.slice none 0 0] (by rfl))) ?_
    have S73 := S45.nil 34 1
    have els74 : Els (up wa.heap.size H44) (eL eI 1) 1 [] [] := Els.nil
    obtain ⟨b69, w70, run71, S72⟩ := S73.alloc (P := Tryz.prog) 26 [Value.int .i64 0, Value.slice none 0 0] Tryz.zeroValue26 rfl (ones_cons rfl (ones_cons rfl ones_nil))
    refine FL.v (E.alloc run71) ?_
    have S75 := S72.nil 34 1
    have els76 : Els (up wa.heap.size H44) (eL eI 1) 1 [] [] := Els.nil
    obtain ⟨w77, run78, S79⟩ := S75.store0 (P := Tryz.prog) (t := 26) (i := 1) (cs' := [Value.int .i64 a0.vars, (Value.slice none 0 0)]) (l' := [.row 34 1 (Value.slice none 0 0) 0 [], .box b69 26 [Value.int .i64 a0.vars, (Value.slice none 0 0)], .row 34 1 (Value.slice none 0 0) 0 [], .box b29 26 [Value.int .i64 0, (Value.slice none 0 0)], .row 34 1 (Value.slice none 0 0) 0 []]) (v := Value.agg #[Value.int .i64 a0.vars, (Value.slice none 0 0)]) (c := [Value.int .i64 a0.vars, (Value.slice none 0 0)]) rfl Tryz.sizeOf26 rfl rfl (ones_cons rfl (ones_cons (Ln.one (S75.row_ln (i := 0) rfl)) ones_nil)) (Nat.le_of_ble_eq_true rfl) rfl rfl
    refine FL.act rfl rfl (E.store rfl rfl run78) ?_
    refine FL.nil (FW.seq (FW.seq (FW.region ?_)))
    refine FL.v (E.fieldAddr tf26_1 k54) ?_
    refine FL.v (E.load rfl (run_load1 Tryz.isAgg24 ((at28.mono i46).now S79.sl) rfl)) ?_
    refine FL.v (E.lenP te24 rfl p0_1) ?_
    refine FL.v (E.move (v := Value.int .i64 0) rfl) ?_
    refine FL.nil ?_
    obtain ⟨q81, hq, hp⟩ := bndR hp
    refine FW.block ?_
    refine FW.mono (FW.forL (S := ((List (List Int)) × Int)) (X := Empty) (fun (i81 : Nat) (s81 : ((List (List Int)) × Int)) f w => ∃ H : GH, ∃ v40 : Value, ∃ n41 : Nat, ∃ cs42 : List Value, St Ha wa H w [.row 34 1 v40 n41 cs42, .box b69 26 [Value.int .i64 s81.2, v40], .box b29 26 [Value.int .i64 0, (Value.slice none 0 0)], .row 34 1 (Value.slice none 0 0) 0 []] ∧ Inc H44 H ∧ Els (up wa.heap.size H) (eL eI 1) 1 cs42 s81.1 ∧ (bl cs42).Nodup ∧ f 30 = Value.int .i64 ((i81 : Nat) : Int) ∧ f 1 = Value.int .i64 a1 ∧ f 2 = Value.pointer (some ⟨b21, 0, none⟩) ∧ f 4 = Value.pointer (some (⟨b29, 0, none⟩ : Addr)) ∧ f 6 = Value.pointer (some (⟨b69, 0, none⟩ : Addr)) ∧ f 28 = v0_1 ∧ f 29 = Value.int .i64 (len a0.clauses)) (fun (q : Rs ((List (List Int)) × Int) Empty) e f w => match q with | .go s81 => e = Exit.exit 0 ∧ (∃ H : GH, ∃ v40 : Value, ∃ n41 : Nat, ∃ cs42 : List Value, St Ha wa H w [.row 34 1 v40 n41 cs42, .box b69 26 [Value.int .i64 s81.2, v40], .box b29 26 [Value.int .i64 0, (Value.slice none 0 0)], .row 34 1 (Value.slice none 0 0) 0 []] ∧ Inc H44 H ∧ Els (up wa.heap.size H) (eL eI 1) 1 cs42 s81.1 ∧ (bl cs42).Nodup ∧ f 4 = Value.pointer (some (⟨b29, 0, none⟩ : Addr)) ∧ f 6 = Value.pointer (some (⟨b69, 0, none⟩ : Addr))) | .rt x => x.elim) hq ⟨_, _, _, _, (S79.sel [0, 1, 3, 4] (by decide) rfl), (Inc.rfl _), els76, (show (bl []).Nodup from List.nodup_nil), rfl, k53, k54, k55, rfl, rfl, rfl⟩ ?_ ?_) ?_
    ·
      clear hp hq
      rintro i81 y80 s81 f87 w86 ⟨H83, v40, n41, cs42, S84, i85, els43, nd82, k88, k89, k90, k91, k92, k93, k94⟩ hx81 o381 hp
      refine FW.seq (FW.region ?_)
      refine FL.v (E.lssT k88 k94 (lss_len hx81)) ?_
      refine FL.nil (FW.seq ?_)
      refine FW.condT rfl rfl ?_
      refine FW.skip (FW.seq (FW.block (FW.seq (FW.region ?_))))
      obtain ⟨p95, cs96, pt97, l98, at99, rel100⟩ := p0_1.at (ix_nat hx81)
      obtain ⟨v101, rfl, h102⟩ := eL_open rel100
      refine FL.v (E.indexAddr te24 k93 k88 pt97) ?_
      refine FL.v (E.load rfl (run_load0 Tryz.isAgg34 ((at99.mono ((i27.tr i46).tr i85)).now S84.sl) rfl)) ?_
      refine FL.v (E.assign (v := v101) rfl) ?_
      refine FL.nil (FW.seq (FW.seq (FW.region ?_)))
      refine FL.v (E.move (v := v101) rfl) ?_
      refine FL.v (E.move k89) ?_
      obtain ⟨r103, hr104, hp⟩ := bnd hp
      refine FL.call rfl rfl rfl (E.call Tryz.call74 (A2 rfl rfl)) (w_slices_Contains_int_int S84.sl v101 y80 (h102.mono ((i27.tr i46).tr i85)) a1 hr104) ?_
      rintro e w105 ⟨rfl, r106⟩
      refine ⟨_, rfl, ?_⟩
      have S107 := S84.call r106
      refine FL.v (E.not rfl) ?_
      refine FL.v (E.move (v := Value.bool (!r103)) rfl) ?_
      obtain ⟨t108, hqt108, hp⟩ := bnd hp
      refine FL.cut 6 (fun f w => ∃ H : GH, St Ha wa H w [.row 34 1 v40 n41 cs42, .box b69 26 [Value.int .i64 s81.2, v40], .box b29 26 [Value.int .i64 0, (Value.slice none 0 0)], .row 34 1 (Value.slice none 0 0) 0 []] ∧ Inc H83 H ∧ f 1 = Value.int .i64 a1 ∧ f 2 = Value.pointer (some ⟨b21, 0, none⟩) ∧ f 4 = Value.pointer (some (⟨b29, 0, none⟩ : Addr)) ∧ f 6 = Value.pointer (some (⟨b69, 0, none⟩ : Addr)) ∧ f 8 = v101 ∧ f 28 = v0_1 ∧ f 29 = Value.int .i64 (len a0.clauses) ∧ f 30 = Value.int .i64 ((i81 : Nat) : Int) ∧ f 44 = Value.bool t108) ?_ ?_
      ·
        clear hp; have hp := hqt108; clear hqt108
        rcases ifB hp with ⟨c114, hp⟩ | ⟨c114, hp⟩
        ·
          refine FL.val (wF_yes rfl rfl rfl c114) rfl rfl (E.move (v := v101) rfl) ?_
          refine FL.val (wF_yes rfl rfl rfl c114) rfl rfl (E.move k89) ?_
          refine FL.val (wF_yes rfl rfl rfl c114) rfl rfl (E.neg rfl) ?_
          obtain ⟨r115, hr116, hp⟩ := bnd hp
          refine FL.call (wF_yes rfl rfl rfl c114) rfl rfl (E.call Tryz.call74 (A2 rfl rfl)) (w_slices_Contains_int_int S107.sl v101 y80 (h102.mono ((i27.tr i46).tr i85)) (wr (-a1)) hr116) ?_
          rintro e w117 ⟨rfl, r118⟩
          refine ⟨_, rfl, ?_⟩
          have S119 := S107.call r118
          refine FL.val (wF_yes rfl rfl rfl c114) rfl rfl (E.not rfl) ?_
          obtain rfl := Option.some.inj hp
          refine FL.v (E.pickT rfl c114 rfl) ?_
          exact FL.nil ⟨rfl, _, S119, (Inc.rfl _), k89, k90, k91, k92, rfl, k93, k94, k88, rfl⟩
        ·
          refine FL.skip (wF_no rfl rfl rfl c114) rfl ?_
          refine FL.skip (wF_no rfl rfl rfl c114) rfl ?_
          refine FL.skip (wF_no rfl rfl rfl c114) rfl ?_
          refine FL.skip (wF_no rfl rfl rfl c114) rfl ?_
          refine FL.skip (wF_no rfl rfl rfl c114) rfl ?_
          obtain rfl := Option.some.inj hp
          refine FL.v (E.pickF rfl c114 rfl) ?_
          exact FL.nil ⟨rfl, _, S107, (Inc.rfl _), k89, k90, k91, k92, rfl, k93, k94, k88, rfl⟩
      rintro f113 w112 ⟨H109, S110, i111, k120, k121, k122, k123, k124, k125, k126, k127, k128⟩
      refine FL.nil ?_
      rcases ifB hp with ⟨c129, hp⟩ | ⟨c129, hp⟩
      ·
        refine FW.condT k128 c129 ?_
        obtain ⟨r133, hr134, hp⟩ := bnd hp
        obtain ⟨xs154, hz155, hp⟩ := bnd hp
        refine FW.drawB (Sl H109) (fun f w => ∃ H : GH, ∃ v169 : Value, ∃ n170 : Nat, ∃ cs171 : List Value, St Ha wa H w [.row 34 1 v169 n170 cs171, .box b69 26 [Value.int .i64 s81.2, v169], .box b29 26 [Value.int .i64 0, (Value.slice none 0 0)], .row 34 1 (Value.slice none 0 0) 0 []] ∧ Inc H109 H ∧ Els (up wa.heap.size H) (eL eI 1) 1 cs171 xs154 ∧ (bl cs171).Nodup ∧ f 1 = Value.int .i64 a1 ∧ f 2 = Value.pointer (some ⟨b21, 0, none⟩) ∧ f 4 = Value.pointer (some (⟨b29, 0, none⟩ : Addr)) ∧ f 6 = Value.pointer (some (⟨b69, 0, none⟩ : Addr)) ∧ f 8 = v101 ∧ f 28 = v0_1 ∧ f 29 = Value.int .i64 (len a0.clauses) ∧ f 30 = Value.int .i64 ((i81 : Nat) : Int)) (by kernel_rfl) S110.sl ?_ ?_
        ·
          intro w130 r131
          have S132 := S110.call r131
          refine FB.phase [7] (fun w => WAt w (Addr.add ⟨b69, 0, none⟩ 1) [v40]) ?_
          refine FB.t (i := 0) (bs 8 1) rfl (SP.on ((S132.box_now (i := 1) rfl).sub (j := 1) (n := 1) (c := [v40]) rfl) (SP.nil S132.sl)) rfl (fun w' hw' => (E.fieldAddr tf26_1 k123)) ?_
          refine FB.p (i := 1) (bs 8 3) 0 [5, 6, 7] rfl (SP.on ((S132.box_now (i := 1) rfl).sub (j := 1) (n := 1) (c := [v40]) rfl) (SP.nil S132.sl)) rfl rfl (fun w' hw' => (E.load rfl (run_load0 Tryz.isAgg24 hw' rfl))) ?_
          refine FB.t (i := 2) (bs 8 7) rfl (SP.on ((S132.box_now (i := 1) rfl).sub (j := 1) (n := 1) (c := [v40]) rfl) (SP.nil S132.sl)) rfl (fun w' hw' => (E.move k124)) ?_
          refine FB.all1 (i := 3) (by kernel_rfl) ?_
          ·
            refine FC.call (l' := (bs 8 15)) rfl (by kernel_rfl) rfl rfl rfl (E.call Tryz.call75 (A1 rfl)) (w_slices_Clone_int_int S132.sl v101 y80 (h102.mono (((i27.tr i46).tr i85).tr i111)) hr134) ?_
            rintro e w136 ⟨H135, v139, n140, cs141, rfl, r138, els142⟩
            refine ⟨_, rfl, ?_⟩
            have els142 := els142.mono (up_le S132.size)
            have S137 := S132.join (l' := [.row 3 1 v139 n140 cs141, .row 34 1 v40 n41 cs42, .box b69 26 [Value.int .i64 s81.2, v40], .box b29 26 [Value.int .i64 0, (Value.slice none 0 0)], .row 34 1 (Value.slice none 0 0) 0 []]) r138 rfl
            refine ⟨(SP.on ((S137.box_now (i := 2) rfl).sub (j := 1) (n := 1) (c := [v40]) rfl) (SP.nil (Sl.of_inc r138.run.inc S137.sl))), ?_⟩
            refine FB.all1 (i := 4) (by kernel_rfl) ?_
            ·
              obtain ⟨H143, S144, i145, h146, nv147⟩ := S137.sealRowU (i := 0) (l' := [.row 34 1 v40 n41 cs42, .box b69 26 [Value.int .i64 s81.2, v40], .box b29 26 [Value.int .i64 0, (Value.slice none 0 0)], .row 34 1 (Value.slice none 0 0) 0 []]) rfl els142 (by decide) rfl
              obtain ⟨v148, w149, run150, S151⟩ := S144.buildSlice (P := Tryz.prog) te24 [v139] (parts := #[(0, v139)]) (cells := [v139]) rfl (szs_cons (cells_size h146.cells) szs_nil) (fc_cons h146.cells fc_nil) (ones_cons h146.one ones_nil) (Nat.le_of_ble_eq_true rfl)
              have els152 : Els (up wa.heap.size H143) (eL eI 1) 1 [v139] [r133] := (Els.snoc (H := (up wa.heap.size H143)) (E := (eL eI 1)) (k := 1) (c := [v139]) (x := r133) Els.nil rfl ⟨_, rfl, h146⟩)
              have nd153 : (bl [v139]).Nodup := by exact nd_one v139
              refine FC.val (l' := (bs 8 31)) rfl (by kernel_rfl) rfl rfl rfl (E.buildSlice (B1 rfl) run150) ?_
              refine ⟨(SP.on ((S151.box_now (i := 2) rfl).sub (j := 1) (n := 1) (c := [v40]) rfl) (SP.nil (Sl.of_inc (r138.run.inc.tr i145) S151.sl))), ?_⟩
              refine FB.all1 (i := 5) (by kernel_rfl) ?_
              ·
                obtain ⟨v156, w159, n157, cs158, run160, S161, els162, ce163⟩ := S151.appendO (P := Tryz.prog) te24 (i := 1) (j := 0) rfl (els43.mono (up_mono ((i111.tr r138.run.inc).tr i145))) rfl els152 hz155
                have S161 : St Ha wa H143 w159 [.row 34 1 v148 1 [v139], .row 34 1 v156 n157 cs158, .box b69 26 [Value.int .i64 s81.2, v40], .box b29 26 [Value.int .i64 0, (Value.slice none 0 0)], .row 34 1 (Value.slice none 0 0) 0 []] := S161
                have nd164 : (bl cs158).Nodup := by rw [ce163]; exact nd_app nd82 nd153 (Els.dom (els43.mono (upI.tr (i111.tr r138.run.inc)))) (by exact nv147)
                have S165 : St Ha wa H143 w159 [.row 34 1 v156 n157 cs158, .box b69 26 [Value.int .i64 s81.2, v40], .box b29 26 [Value.int .i64 0, (Value.slice none 0 0)], .row 34 1 (Value.slice none 0 0) 0 []] := S161.drop 0
                refine FC.val (l' := (bs 8 63)) rfl (by kernel_rfl) rfl rfl rfl (E.append rfl rfl run160) ?_
                refine ⟨(SP.on ((S165.box_now (i := 1) rfl).sub (j := 1) (n := 1) (c := [v40]) rfl) (SP.nil (Sl.of_inc (r138.run.inc.tr i145) S165.sl))), ?_⟩
                refine FB.t (i := 6) (bs 8 127) rfl (SP.on ((S165.box_now (i := 1) rfl).sub (j := 1) (n := 1) (c := [v40]) rfl) (SP.nil (Sl.of_inc (r138.run.inc.tr i145) S165.sl))) rfl (fun w' hw' => (E.fieldAddr tf26_1 k123)) ?_
                refine FB.all1 (i := 7) (by kernel_rfl) ?_
                ·
                  obtain ⟨w166, run167, S168⟩ := S165.store (P := Tryz.prog) (t := 24) (i := 1) (j := 1) (cs' := [Value.int .i64 s81.2, v156]) (l' := [.row 34 1 v156 n157 cs158, .box b69 26 [Value.int .i64 s81.2, v156], .box b29 26 [Value.int .i64 0, (Value.slice none 0 0)], .row 34 1 (Value.slice none 0 0) 0 []]) (v := v156) (c := [v156]) rfl Tryz.sizeOf24 (Ln.cells (S165.row_ln (i := 0) rfl)) rfl (ones_cons (Ln.one (S165.row_ln (i := 0) rfl)) ones_nil) (Nat.le_of_ble_eq_true rfl) rfl rfl
                  refine FC.act (l' := (bs 8 255)) rfl (by kernel_rfl) rfl rfl (E.store rfl rfl run167) ?_
                  refine ⟨(SP.o (SP.nil (Sl.of_inc (r138.run.inc.tr i145) S168.sl))), ?_⟩
                  exact FB.done (by kernel_rfl) ⟨_, _, _, _, S168, (r138.run.inc.tr i145), els162, nd164, k120, k121, k122, k123, k124, k125, k126, k127⟩
        ·
          rintro f178 w177 ⟨H174, v169, n170, cs171, S175, i176, els172, nd173, k179, k180, k181, k182, k183, k184, k185, k186⟩
          refine FW.seq (FW.region ?_)
          refine FL.v (E.fieldAddr tf26_1 k180) ?_
          refine FL.v (E.load rfl (run_load1 Tryz.isAgg24 ((at28.mono (((i46.tr i85).tr i111).tr i176)).now S175.sl) rfl)) ?_
          refine FL.v (E.lenP te24 rfl p0_1) ?_
          refine FL.v (E.move (v := Value.int .i64 0) rfl) ?_
          refine FL.nil ?_
          obtain ⟨q188, hq, hp⟩ := bndR hp
          refine FW.block ?_
          refine FW.mono (FW.forL (S := ((List (List Int)) × Int)) (X := Empty) (fun (i188 : Nat) (s188 : ((List (List Int)) × Int)) f w => ∃ H : GH, ∃ v189 : Value, ∃ n190 : Nat, ∃ cs191 : List Value, St Ha wa H w [.row 34 1 v189 n190 cs191, .box b69 26 [Value.int .i64 s188.2, v189], .box b29 26 [Value.int .i64 0, (Value.slice none 0 0)], .row 34 1 (Value.slice none 0 0) 0 []] ∧ Inc H174 H ∧ Els (up wa.heap.size H) (eL eI 1) 1 cs191 s188.1 ∧ (bl cs191).Nodup ∧ f 55 = Value.int .i64 ((i188 : Nat) : Int) ∧ f 1 = Value.int .i64 a1 ∧ f 2 = Value.pointer (some ⟨b21, 0, none⟩) ∧ f 4 = Value.pointer (some (⟨b29, 0, none⟩ : Addr)) ∧ f 6 = Value.pointer (some (⟨b69, 0, none⟩ : Addr)) ∧ f 8 = v101 ∧ f 28 = v0_1 ∧ f 29 = Value.int .i64 (len a0.clauses) ∧ f 30 = Value.int .i64 ((i81 : Nat) : Int) ∧ f 53 = v0_1 ∧ f 54 = Value.int .i64 (len a0.clauses)) (fun (q : Rs ((List (List Int)) × Int) Empty) e f w => match q with | .go s188 => e = Exit.exit 2 ∧ (∃ H : GH, ∃ v189 : Value, ∃ n190 : Nat, ∃ cs191 : List Value, St Ha wa H w [.row 34 1 v189 n190 cs191, .box b69 26 [Value.int .i64 s188.2, v189], .box b29 26 [Value.int .i64 0, (Value.slice none 0 0)], .row 34 1 (Value.slice none 0 0) 0 []] ∧ Inc H174 H ∧ Els (up wa.heap.size H) (eL eI 1) 1 cs191 s188.1 ∧ (bl cs191).Nodup ∧ f 1 = Value.int .i64 a1 ∧ f 2 = Value.pointer (some ⟨b21, 0, none⟩) ∧ f 4 = Value.pointer (some (⟨b29, 0, none⟩ : Addr)) ∧ f 6 = Value.pointer (some (⟨b69, 0, none⟩ : Addr)) ∧ f 28 = v0_1 ∧ f 29 = Value.int .i64 (len a0.clauses) ∧ f 30 = Value.int .i64 ((i81 : Nat) : Int)) | .rt x => x.elim) hq ⟨_, _, _, _, S175, (Inc.rfl _), els172, nd173, rfl, k179, k180, k181, k182, k183, k184, k185, k186, rfl, rfl⟩ ?_ ?_) ?_
          ·
            clear hp hq
            rintro i188 y187 s188 f198 w197 ⟨H194, v189, n190, cs191, S195, i196, els192, nd193, k199, k200, k201, k202, k203, k204, k205, k206, k207, k208, k209⟩ hx188 o255 hp
            refine FW.seq (FW.region ?_)
            refine FL.v (E.lssT k199 k209 (lss_len hx188)) ?_
            refine FL.nil (FW.seq ?_)
            refine FW.condT rfl rfl ?_
            refine FW.skip (FW.seq (FW.block (FW.seq (FW.region ?_))))
            obtain ⟨p210, cs211, pt212, l213, at214, rel215⟩ := p0_1.at (ix_nat hx188)
            obtain ⟨v216, rfl, h217⟩ := eL_open rel215
            refine FL.v (E.indexAddr te24 k208 k199 pt212) ?_
            refine FL.v (E.load rfl (run_load0 Tryz.isAgg34 ((at214.mono (((((i27.tr i46).tr i85).tr i111).tr i176).tr i196)).now S195.sl) rfl)) ?_
            refine FL.v (E.assign (v := v216) rfl) ?_
            refine FL.nil (FW.seq (FW.region ?_))
            refine FL.v (E.move k204) ?_
            refine FL.v (E.move (v := v216) rfl) ?_
            refine FL.v (E.move k200) ?_
            obtain ⟨r218, hr219, hp⟩ := bnd hp
            refine FL.call rfl rfl rfl (E.call Tryz.call76 (A3 rfl rfl rfl)) (w_impl_resolve S195.sl v101 y80 (h102.mono (((((i27.tr i46).tr i85).tr i111).tr i176).tr i196)) v216 y187 (h217.mono (((((i27.tr i46).tr i85).tr i111).tr i176).tr i196)) a1 hr219) ?_
            rintro e w221 ⟨H220, v224, n225, cs226, rfl, r223, els227⟩
            refine ⟨_, rfl, ?_⟩
            have els227 := els227.mono (up_le S195.size)
            have S222 := S195.join (l' := [.row 3 1 v224 n225 cs226, .row 34 1 v189 n190 cs191, .box b69 26 [Value.int .i64 s188.2, v189], .box b29 26 [Value.int .i64 0, (Value.slice none 0 0)], .row 34 1 (Value.slice none 0 0) 0 []]) r223 rfl
            refine FL.v (E.move (v := Value.tuple #[v224, Value.bool r218.2]) rfl) ?_
            refine FL.v (E.extract (i := 0) rfl rfl) ?_
            refine FL.v (E.extract (i := 1) rfl rfl) ?_
            refine FL.v (E.assign (v := v224) rfl) ?_
            refine FL.v (E.assign (v := Value.bool r218.2) rfl) ?_
            refine FL.nil (FW.seq (FW.region ?_))
            refine FL.v (E.move (v := Value.bool r218.2) rfl) ?_
            refine FL.nil ?_
            rcases ifB hp with ⟨c228, hp⟩ | ⟨c228, hp⟩
            ·
              refine FW.condT rfl c228 ?_
              refine FW.region ?_
              refine FL.v (E.fieldAddr tf26_1 k203) ?_
              refine FL.v (E.load rfl (run_load1 Tryz.isAgg24 (S222.box_now (i := 2) rfl) rfl)) ?_
              refine FL.v (E.move (v := v224) rfl) ?_
              obtain ⟨H229, S230, i231, h232, nv233⟩ := S222.sealRowU (i := 0) (l' := [.row 34 1 v189 n190 cs191, .box b69 26 [Value.int .i64 s188.2, v189], .box b29 26 [Value.int .i64 0, (Value.slice none 0 0)], .row 34 1 (Value.slice none 0 0) 0 []]) rfl els227 (by decide) rfl
              obtain ⟨v234, w235, run236, S237⟩ := S230.buildSlice (P := Tryz.prog) te24 [v224] (parts := #[(0, v224)]) (cells := [v224]) rfl (szs_cons (cells_size h232.cells) szs_nil) (fc_cons h232.cells fc_nil) (ones_cons h232.one ones_nil) (Nat.le_of_ble_eq_true rfl)
              have els238 : Els (up wa.heap.size H229) (eL eI 1) 1 [v224] [r218.1] := (Els.snoc (H := (up wa.heap.size H229)) (E := (eL eI 1)) (k := 1) (c := [v224]) (x := r218.1) Els.nil rfl ⟨_, rfl, h232⟩)
              have nd239 : (bl [v224]).Nodup := by exact nd_one v224
              refine FL.v (E.buildSlice (B1 rfl) run236) ?_
              obtain ⟨xs240, hz241, hp⟩ := bnd hp
              obtain ⟨v242, w245, n243, cs244, run246, S247, els248, ce249⟩ := S237.appendO (P := Tryz.prog) te24 (i := 1) (j := 0) rfl (els192.mono (up_mono (r223.run.inc.tr i231))) rfl els238 hz241
              have S247 : St Ha wa H229 w245 [.row 34 1 v234 1 [v224], .row 34 1 v242 n243 cs244, .box b69 26 [Value.int .i64 s188.2, v189], .box b29 26 [Value.int .i64 0, (Value.slice none 0 0)], .row 34 1 (Value.slice none 0 0) 0 []] := S247
              have nd250 : (bl cs244).Nodup := by rw [ce249]; exact nd_app nd193 nd239 (Els.dom (els192.mono (upI.tr r223.run.inc))) (by exact nv233)
              have S251 : St Ha wa H229 w245 [.row 34 1 v242 n243 cs244, .box b69 26 [Value.int .i64 s188.2, v189], .box b29 26 [Value.int .i64 0, (Value.slice none 0 0)], .row 34 1 (Value.slice none 0 0) 0 []] := S247.drop 0
              refine FL.v (E.append rfl rfl run246) ?_
              refine FL.v (E.fieldAddr tf26_1 k203) ?_
              obtain ⟨w252, run253, S254⟩ := S251.store (P := Tryz.prog) (t := 24) (i := 1) (j := 1) (cs' := [Value.int .i64 s188.2, v242]) (l' := [.row 34 1 v242 n243 cs244, .box b69 26 [Value.int .i64 s188.2, v242], .box b29 26 [Value.int .i64 0, (Value.slice none 0 0)], .row 34 1 (Value.slice none 0 0) 0 []]) (v := v242) (c := [v242]) rfl Tryz.sizeOf24 (Ln.cells (S251.row_ln (i := 0) rfl)) rfl (ones_cons (Ln.one (S251.row_ln (i := 0) rfl)) ones_nil) (Nat.le_of_ble_eq_true rfl) rfl rfl
              refine FL.act rfl rfl (E.store rfl rfl run253) ?_
              refine FL.nil (FW.region ?_)
              refine FL.v (E.add k199 rfl) ?_
              refine FL.v (E.move (v := Value.int .i64 (wr (((i188 : Nat) : Int) + 1))) rfl) ?_
              refine FL.nil ?_
              obtain rfl := Option.some.inj hp
              exact ⟨rfl, ⟨_, _, _, _, S254, ((i196.tr r223.run.inc).tr i231), els248, nd250, (nat_succ rfl (lt_of_get hx188) (p0_1.mono (((((((i27.tr i46).tr i85).tr i111).tr i176).tr i196).tr r223.run.inc).tr i231)).le), k200, k201, k202, k203, k204, k205, k206, k207, k208, k209⟩⟩
            ·
              refine FW.condF rfl c228 ?_
              refine FW.skip (FW.region ?_)
              refine FL.v (E.add k199 rfl) ?_
              refine FL.v (E.move (v := Value.int .i64 (wr (((i188 : Nat) : Int) + 1))) rfl) ?_
              refine FL.nil ?_
              obtain rfl := Option.some.inj hp
              exact ⟨rfl, ⟨_, _, _, _, (S222.sel [1, 2, 3, 4] (by decide) rfl), (i196.tr r223.run.inc), (els192.mono (up_mono r223.run.inc)), nd193, (nat_succ rfl (lt_of_get hx188) (p0_1.mono ((((((i27.tr i46).tr i85).tr i111).tr i176).tr i196).tr r223.run.inc)).le), k200, k201, k202, k203, k204, k205, k206, k207, k208, k209⟩⟩
          ·
            clear hp hq
            rintro s188 f272 w271 ⟨H268, v189, n190, cs191, S269, i270, els192, nd193, k273, k274, k275, k276, k277, k278, k279, k280, k281, k282, k283⟩
            refine FW.seq (FW.region ?_)
            refine FL.v (E.lss k273 k283) ?_
            refine FL.nil (FW.seq ?_)
            refine FW.condF rfl dlt_len ?_
            refine FW.exit ?_
            exact ⟨nofun, rfl, ⟨_, _, _, _, S269, i270, els192, nd193, k274, k275, k276, k277, k279, k280, k281⟩⟩
          ·
            clear hq
            intro e f260 w259 hD
            rcases q188 with s188 | x188
            ·
              obtain ⟨rfl, hD⟩ := hD
              obtain ⟨H256, v189, n190, cs191, S257, i258, els192, nd193, k261, k262, k263, k264, k265, k266, k267⟩ := hD
              replace hp := el_go hp
              refine FW.region ?_
              refine FL.v (E.add k267 rfl) ?_
              refine FL.v (E.move (v := Value.int .i64 (wr (((i81 : Nat) : Int) + 1))) rfl) ?_
              refine FL.nil ?_
              obtain rfl := Option.some.inj hp
              exact ⟨rfl, ⟨_, _, _, _, S257, (((i85.tr i111).tr i176).tr i258), els192, nd193, (nat_succ rfl (lt_of_get hx81) (p0_1.mono (((((i27.tr i46).tr i85).tr i111).tr i176).tr i258)).le), k261, k262, k263, k264, k265, k266⟩⟩
            · exact x188.elim
      ·
        refine FW.condF k128 c129 ?_
        refine FW.skip (FW.seq (FW.region ?_))
        refine FL.v (E.fieldAddr tf26_1 k121) ?_
        refine FL.v (E.load rfl (run_load1 Tryz.isAgg24 ((at28.mono ((i46.tr i85).tr i111)).now S110.sl) rfl)) ?_
        refine FL.v (E.lenP te24 rfl p0_1) ?_
        refine FL.v (E.move (v := Value.int .i64 0) rfl) ?_
        refine FL.nil ?_
        obtain ⟨q285, hq, hp⟩ := bndR hp
        refine FW.block ?_
        refine FW.mono (FW.forL (S := ((List (List Int)) × Int)) (X := Empty) (fun (i285 : Nat) (s285 : ((List (List Int)) × Int)) f w => ∃ H : GH, ∃ v286 : Value, ∃ n287 : Nat, ∃ cs288 : List Value, St Ha wa H w [.row 34 1 v286 n287 cs288, .box b69 26 [Value.int .i64 s285.2, v286], .box b29 26 [Value.int .i64 0, (Value.slice none 0 0)], .row 34 1 (Value.slice none 0 0) 0 []] ∧ Inc H109 H ∧ Els (up wa.heap.size H) (eL eI 1) 1 cs288 s285.1 ∧ (bl cs288).Nodup ∧ f 55 = Value.int .i64 ((i285 : Nat) : Int) ∧ f 1 = Value.int .i64 a1 ∧ f 2 = Value.pointer (some ⟨b21, 0, none⟩) ∧ f 4 = Value.pointer (some (⟨b29, 0, none⟩ : Addr)) ∧ f 6 = Value.pointer (some (⟨b69, 0, none⟩ : Addr)) ∧ f 8 = v101 ∧ f 28 = v0_1 ∧ f 29 = Value.int .i64 (len a0.clauses) ∧ f 30 = Value.int .i64 ((i81 : Nat) : Int) ∧ f 53 = v0_1 ∧ f 54 = Value.int .i64 (len a0.clauses)) (fun (q : Rs ((List (List Int)) × Int) Empty) e f w => match q with | .go s285 => e = Exit.exit 2 ∧ (∃ H : GH, ∃ v286 : Value, ∃ n287 : Nat, ∃ cs288 : List Value, St Ha wa H w [.row 34 1 v286 n287 cs288, .box b69 26 [Value.int .i64 s285.2, v286], .box b29 26 [Value.int .i64 0, (Value.slice none 0 0)], .row 34 1 (Value.slice none 0 0) 0 []] ∧ Inc H109 H ∧ Els (up wa.heap.size H) (eL eI 1) 1 cs288 s285.1 ∧ (bl cs288).Nodup ∧ f 1 = Value.int .i64 a1 ∧ f 2 = Value.pointer (some ⟨b21, 0, none⟩) ∧ f 4 = Value.pointer (some (⟨b29, 0, none⟩ : Addr)) ∧ f 6 = Value.pointer (some (⟨b69, 0, none⟩ : Addr)) ∧ f 28 = v0_1 ∧ f 29 = Value.int .i64 (len a0.clauses) ∧ f 30 = Value.int .i64 ((i81 : Nat) : Int)) | .rt x => x.elim) hq ⟨_, _, _, _, S110, (Inc.rfl _), (els43.mono (up_mono i111)), nd82, rfl, k120, k121, k122, k123, k124, k125, k126, k127, rfl, rfl⟩ ?_ ?_) ?_
        ·
          clear hp hq
          rintro i285 y284 s285 f295 w294 ⟨H291, v286, n287, cs288, S292, i293, els289, nd290, k296, k297, k298, k299, k300, k301, k302, k303, k304, k305, k306⟩ hx285 o352 hp
          refine FW.seq (FW.region ?_)
          refine FL.v (E.lssT k296 k306 (lss_len hx285)) ?_
          refine FL.nil (FW.seq ?_)
          refine FW.condT rfl rfl ?_
          refine FW.skip (FW.seq (FW.block (FW.seq (FW.region ?_))))
          obtain ⟨p307, cs308, pt309, l310, at311, rel312⟩ := p0_1.at (ix_nat hx285)
          obtain ⟨v313, rfl, h314⟩ := eL_open rel312
          refine FL.v (E.indexAddr te24 k305 k296 pt309) ?_
          refine FL.v (E.load rfl (run_load0 Tryz.isAgg34 ((at311.mono ((((i27.tr i46).tr i85).tr i111).tr i293)).now S292.sl) rfl)) ?_
          refine FL.v (E.assign (v := v313) rfl) ?_
          refine FL.nil (FW.seq (FW.region ?_))
          refine FL.v (E.move k301) ?_
          refine FL.v (E.move (v := v313) rfl) ?_
          refine FL.v (E.move k297) ?_
          obtain ⟨r315, hr316, hp⟩ := bnd hp
          refine FL.call rfl rfl rfl (E.call Tryz.call76 (A3 rfl rfl rfl)) (w_impl_resolve S292.sl v101 y80 (h102.mono ((((i27.tr i46).tr i85).tr i111).tr i293)) v313 y284 (h314.mono ((((i27.tr i46).tr i85).tr i111).tr i293)) a1 hr316) ?_
          rintro e w318 ⟨H317, v321, n322, cs323, rfl, r320, els324⟩
          refine ⟨_, rfl, ?_⟩
          have els324 := els324.mono (up_le S292.size)
          have S319 := S292.join (l' := [.row 3 1 v321 n322 cs323, .row 34 1 v286 n287 cs288, .box b69 26 [Value.int .i64 s285.2, v286], .box b29 26 [Value.int .i64 0, (Value.slice none 0 0)], .row 34 1 (Value.slice none 0 0) 0 []]) r320 rfl
          refine FL.v (E.move (v := Value.tuple #[v321, Value.bool r315.2]) rfl) ?_
          refine FL.v (E.extract (i := 0) rfl rfl) ?_
          refine FL.v (E.extract (i := 1) rfl rfl) ?_
          refine FL.v (E.assign (v := v321) rfl) ?_
          refine FL.v (E.assign (v := Value.bool r315.2) rfl) ?_
          refine FL.nil (FW.seq (FW.region ?_))
          refine FL.v (E.move (v := Value.bool r315.2) rfl) ?_
          refine FL.nil ?_
          rcases ifB hp with ⟨c325, hp⟩ | ⟨c325, hp⟩
          ·
            refine FW.condT rfl c325 ?_
            refine FW.region ?_
            refine FL.v (E.fieldAddr tf26_1 k300) ?_
            refine FL.v (E.load rfl (run_load1 Tryz.isAgg24 (S319.box_now (i := 2) rfl) rfl)) ?_
            refine FL.v (E.move (v := v321) rfl) ?_
            obtain ⟨H326, S327, i328, h329, nv330⟩ := S319.sealRowU (i := 0) (l' := [.row 34 1 v286 n287 cs288, .box b69 26 [Value.int .i64 s285.2, v286], .box b29 26 [Value.int .i64 0, (Value.slice none 0 0)], .row 34 1 (Value.slice none 0 0) 0 []]) rfl els324 (by decide) rfl
            obtain ⟨v331, w332, run333, S334⟩ := S327.buildSlice (P := Tryz.prog) te24 [v321] (parts := #[(0, v321)]) (cells := [v321]) rfl (szs_cons (cells_size h329.cells) szs_nil) (fc_cons h329.cells fc_nil) (ones_cons h329.one ones_nil) (Nat.le_of_ble_eq_true rfl)
            have els335 : Els (up wa.heap.size H326) (eL eI 1) 1 [v321] [r315.1] := (Els.snoc (H := (up wa.heap.size H326)) (E := (eL eI 1)) (k := 1) (c := [v321]) (x := r315.1) Els.nil rfl ⟨_, rfl, h329⟩)
            have nd336 : (bl [v321]).Nodup := by exact nd_one v321
            refine FL.v (E.buildSlice (B1 rfl) run333) ?_
            obtain ⟨xs337, hz338, hp⟩ := bnd hp
            obtain ⟨v339, w342, n340, cs341, run343, S344, els345, ce346⟩ := S334.appendO (P := Tryz.prog) te24 (i := 1) (j := 0) rfl (els289.mono (up_mono (r320.run.inc.tr i328))) rfl els335 hz338
            have S344 : St Ha wa H326 w342 [.row 34 1 v331 1 [v321], .row 34 1 v339 n340 cs341, .box b69 26 [Value.int .i64 s285.2, v286], .box b29 26 [Value.int .i64 0, (Value.slice none 0 0)], .row 34 1 (Value.slice none 0 0) 0 []] := S344
            have nd347 : (bl cs341).Nodup := by rw [ce346]; exact nd_app nd290 nd336 (Els.dom (els289.mono (upI.tr r320.run.inc))) (by exact nv330)
            have S348 : St Ha wa H326 w342 [.row 34 1 v339 n340 cs341, .box b69 26 [Value.int .i64 s285.2, v286], .box b29 26 [Value.int .i64 0, (Value.slice none 0 0)], .row 34 1 (Value.slice none 0 0) 0 []] := S344.drop 0
            refine FL.v (E.append rfl rfl run343) ?_
            refine FL.v (E.fieldAddr tf26_1 k300) ?_
            obtain ⟨w349, run350, S351⟩ := S348.store (P := Tryz.prog) (t := 24) (i := 1) (j := 1) (cs' := [Value.int .i64 s285.2, v339]) (l' := [.row 34 1 v339 n340 cs341, .box b69 26 [Value.int .i64 s285.2, v339], .box b29 26 [Value.int .i64 0, (Value.slice none 0 0)], .row 34 1 (Value.slice none 0 0) 0 []]) (v := v339) (c := [v339]) rfl Tryz.sizeOf24 (Ln.cells (S348.row_ln (i := 0) rfl)) rfl (ones_cons (Ln.one (S348.row_ln (i := 0) rfl)) ones_nil) (Nat.le_of_ble_eq_true rfl) rfl rfl
            refine FL.act rfl rfl (E.store rfl rfl run350) ?_
            refine FL.nil (FW.region ?_)
            refine FL.v (E.add k296 rfl) ?_
            refine FL.v (E.move (v := Value.int .i64 (wr (((i285 : Nat) : Int) + 1))) rfl) ?_
            refine FL.nil ?_
            obtain rfl := Option.some.inj hp
            exact ⟨rfl, ⟨_, _, _, _, S351, ((i293.tr r320.run.inc).tr i328), els345, nd347, (nat_succ rfl (lt_of_get hx285) (p0_1.mono ((((((i27.tr i46).tr i85).tr i111).tr i293).tr r320.run.inc).tr i328)).le), k297, k298, k299, k300, k301, k302, k303, k304, k305, k306⟩⟩
          ·
            refine FW.condF rfl c325 ?_
            refine FW.skip (FW.region ?_)
            refine FL.v (E.add k296 rfl) ?_
            refine FL.v (E.move (v := Value.int .i64 (wr (((i285 : Nat) : Int) + 1))) rfl) ?_
            refine FL.nil ?_
            obtain rfl := Option.some.inj hp
            exact ⟨rfl, ⟨_, _, _, _, (S319.sel [1, 2, 3, 4] (by decide) rfl), (i293.tr r320.run.inc), (els289.mono (up_mono r320.run.inc)), nd290, (nat_succ rfl (lt_of_get hx285) (p0_1.mono (((((i27.tr i46).tr i85).tr i111).tr i293).tr r320.run.inc)).le), k297, k298, k299, k300, k301, k302, k303, k304, k305, k306⟩⟩
        ·
          clear hp hq
          rintro s285 f369 w368 ⟨H365, v286, n287, cs288, S366, i367, els289, nd290, k370, k371, k372, k373, k374, k375, k376, k377, k378, k379, k380⟩
          refine FW.seq (FW.region ?_)
          refine FL.v (E.lss k370 k380) ?_
          refine FL.nil (FW.seq ?_)
          refine FW.condF rfl dlt_len ?_
          refine FW.exit ?_
          exact ⟨nofun, rfl, ⟨_, _, _, _, S366, i367, els289, nd290, k371, k372, k373, k374, k376, k377, k378⟩⟩
        ·
          clear hq
          intro e f357 w356 hD
          rcases q285 with s285 | x285
          ·
            obtain ⟨rfl, hD⟩ := hD
            obtain ⟨H353, v286, n287, cs288, S354, i355, els289, nd290, k358, k359, k360, k361, k362, k363, k364⟩ := hD
            replace hp := el_go hp
            refine FW.region ?_
            refine FL.v (E.add k364 rfl) ?_
            refine FL.v (E.move (v := Value.int .i64 (wr (((i81 : Nat) : Int) + 1))) rfl) ?_
            refine FL.nil ?_
            obtain rfl := Option.some.inj hp
            exact ⟨rfl, ⟨_, _, _, _, S354, ((i85.tr i111).tr i355), els289, nd290, (nat_succ rfl (lt_of_get hx81) (p0_1.mono ((((i27.tr i46).tr i85).tr i111).tr i355)).le), k358, k359, k360, k361, k362, k363⟩⟩
          · exact x285.elim
    ·
      clear hp hq
      rintro s81 f437 w436 ⟨H433, v40, n41, cs42, S434, i435, els43, nd82, k438, k439, k440, k441, k442, k443, k444⟩
      refine FW.seq (FW.region ?_)
      refine FL.v (E.lss k438 k444) ?_
      refine FL.nil (FW.seq ?_)
      refine FW.condF rfl dlt_len ?_
      refine FW.exit ?_
      exact ⟨nofun, rfl, ⟨_, _, _, _, S434, i435, els43, nd82, k441, k442⟩⟩
    ·
      clear hq
      intro e f386 w385 hD
      rcases q81 with s81 | x81
      ·
        obtain ⟨rfl, hD⟩ := hD
        obtain ⟨H382, v40, n41, cs42, S383, i384, els43, nd82, k387, k388⟩ := hD
        replace hp := el_go hp
        refine FW.seq (FW.region ?_)
        refine FL.v (E.fieldAddr tf26_1 k388) ?_
        refine FL.v (E.load rfl (run_load1 Tryz.isAgg24 (S383.box_now (i := 1) rfl) rfl)) ?_
        obtain ⟨r389, hr390, hp⟩ := bnd hp
        refine FL.call rfl rfl rfl (E.call Tryz.call77 (A2 rfl rfl)) (w_slices_SortFunc_LLint_Lint (L := [.box b69 26 [Value.int .i64 s81.2, v40], .box b29 26 [Value.int .i64 0, (Value.slice none 0 0)], .row 34 1 (Value.slice none 0 0) 0 []]) S383 s81.1 els43 nd82 (Value.func (.func 78) #[] #[]) (fun x0 x1 => PF.impl_compareClauses x0 x1) (fun H2 w2 hi2 hs2 x0 y0 z0 x1 y1 z1 r hr => ⟨78, #[], rfl, Tryz.call78, w_impl_compareClauses hs2 y0 x0 z0 y1 x1 z1  hr⟩) hr390) ?_
        rintro e w392 ⟨H391, cs395, rfl, ⟨S393, i394⟩, els396, nd397⟩
        refine ⟨_, rfl, ?_⟩
        have S393 : St Ha wa H391 w392 [.row 34 1 v40 n41 cs395, .box b69 26 [Value.int .i64 s81.2, v40], .box b29 26 [Value.int .i64 0, (Value.slice none 0 0)], .row 34 1 (Value.slice none 0 0) 0 []] := S393
        refine FL.nil (FW.seq (FW.region ?_))
        refine FL.v (E.fieldAddr tf26_1 k388) ?_
        refine FL.v (E.load rfl (run_load1 Tryz.isAgg24 (S393.box_now (i := 1) rfl) rfl)) ?_
        obtain ⟨r398, hr399, hp⟩ := bnd hp
        refine FL.call rfl rfl rfl (E.call Tryz.call79 (A2 rfl rfl)) (w_slices_CompactFunc_LLint_Lint (L := [.box b69 26 [Value.int .i64 s81.2, v40], .box b29 26 [Value.int .i64 0, (Value.slice none 0 0)], .row 34 1 (Value.slice none 0 0) 0 []]) S393 r389 els396 nd397 (Value.func (.func 80) #[] #[]) (fun x0 x1 => PF.slices_Equal_int_int x0 x1) (fun H2 w2 hi2 hs2 x0 y0 z0 x1 y1 z1 r hr => ⟨80, #[], rfl, Tryz.call80, w_slices_Equal_int_int hs2 y0 x0 z0 y1 x1 z1  hr⟩) hr399) ?_
        rintro e w401 ⟨H400, v404, n405, cs406, rfl, ⟨S402, i403⟩, els407, nd408⟩
        refine ⟨_, rfl, ?_⟩
        have S402 : St Ha wa H400 w401 [.row 34 1 v404 n405 cs406, .box b69 26 [Value.int .i64 s81.2, v40], .box b29 26 [Value.int .i64 0, (Value.slice none 0 0)], .row 34 1 (Value.slice none 0 0) 0 []] := S402
        refine FL.v (E.fieldAddr tf26_1 k388) ?_
        obtain ⟨w409, run410, S411⟩ := S402.store (P := Tryz.prog) (t := 24) (i := 1) (j := 1) (cs' := [Value.int .i64 s81.2, v404]) (l' := [.row 34 1 v404 n405 cs406, .box b69 26 [Value.int .i64 s81.2, v404], .box b29 26 [Value.int .i64 0, (Value.slice none 0 0)], .row 34 1 (Value.slice none 0 0) 0 []]) (v := v404) (c := [v404]) rfl Tryz.sizeOf24 (Ln.cells (S402.row_ln (i := 0) rfl)) rfl (ones_cons (Ln.one (S402.row_ln (i := 0) rfl)) ones_nil) (Nat.le_of_ble_eq_true rfl) rfl rfl
        refine FL.act rfl rfl (E.store rfl rfl run410) ?_
        refine FL.nil (FW.seq (FW.seq (FW.region ?_)))
        refine FL.v (E.fieldAddr tf26_1 k388) ?_
        refine FL.v (E.load rfl (run_load1 Tryz.isAgg24 (S411.box_now (i := 1) rfl) rfl)) ?_
        refine FL.v (E.lenO te24 rfl S411 (i := 0) rfl els407 (by decide)) ?_
        refine FL.v (E.gtr rfl rfl) ?_
        refine FL.nil ?_
        rcases ifB hp with ⟨c412, hp⟩ | ⟨c412, hp⟩
        ·
          refine FW.condT rfl c412 ?_
          refine FW.seq (FW.region ?_)
          refine FL.v (E.build (B0) (run_build _ 26 #[] #[Value.int .i64 0, Value.slice none 0 0] (by rfl))) ?_
          have S413 := S411.nil 34 1
          have els414 : Els (up wa.heap.size H400) (eL eI 1) 1 [] [] := Els.nil
          obtain ⟨w415, run416, S417⟩ := S413.store0 (P := Tryz.prog) (t := 26) (i := 3) (cs' := [Value.int .i64 0, (Value.slice none 0 0)]) (l' := [.row 34 1 (Value.slice none 0 0) 0 [], .row 34 1 v404 n405 cs406, .box b69 26 [Value.int .i64 s81.2, v404], .box b29 26 [Value.int .i64 0, (Value.slice none 0 0)], .row 34 1 (Value.slice none 0 0) 0 []]) (v := Value.agg #[Value.int .i64 0, (Value.slice none 0 0)]) (c := [Value.int .i64 0, (Value.slice none 0 0)]) rfl Tryz.sizeOf26 rfl rfl (ones_cons rfl (ones_cons (Ln.one (S413.row_ln (i := 0) rfl)) ones_nil)) (Nat.le_of_ble_eq_true rfl) rfl rfl
          refine FL.act rfl rfl (E.store k387 rfl run416) ?_
          refine FL.v (E.assign (v := Value.bool false) rfl) ?_
          refine FL.nil ?_
          refine FW.ret ?_
          obtain ⟨H418, S419, i420, ns423, nv422⟩ := S417.sealRowN (i := 0) (l' := [.row 34 1 v404 n405 cs406, .box b69 26 [Value.int .i64 s81.2, v404], .box b29 26 [Value.int .i64 0, (Value.slice none 0 0)], .row 34 1 (Value.slice none 0 0) 0 []]) rfl els414 (show (bl []).Nodup from List.nodup_nil) (by decide) rfl
          have h421 := ns423.rsl
          obtain rfl := Option.some.inj hp
          exact ⟨.inr rfl, resC2 rfl k387 (loadVar_A Tryz.isAgg26 Tryz.sizeOf26 (S419.box_now (i := 2) rfl) rfl) rfl ⟨_, _, rfl, S419.run, ⟨_, ns423⟩⟩⟩
        ·
          refine FW.condF rfl c412 ?_
          refine FW.skip (FW.seq (FW.region ?_))
          refine FL.v (E.load k388 (run_loadA Tryz.isAgg26 Tryz.sizeOf26 (S411.box_now (i := 1) rfl) rfl)) ?_
          obtain ⟨w424, run425, S426⟩ := S411.store0 (P := Tryz.prog) (t := 26) (i := 2) (cs' := [Value.int .i64 s81.2, v404]) (l' := [.row 34 1 v404 n405 cs406, .box b69 26 [Value.int .i64 s81.2, v404], .box b29 26 [Value.int .i64 s81.2, v404], .row 34 1 (Value.slice none 0 0) 0 []]) (v := Value.agg #[Value.int .i64 s81.2, v404]) (c := [Value.int .i64 s81.2, v404]) rfl Tryz.sizeOf26 rfl rfl (ones_cons rfl (ones_cons (Ln.one (S411.row_ln (i := 0) rfl)) ones_nil)) (Nat.le_of_ble_eq_true rfl) rfl rfl
          refine FL.act rfl rfl (E.store k387 rfl run425) ?_
          refine FL.v (E.assign (v := Value.bool true) rfl) ?_
          refine FL.nil ?_
          refine FW.ret ?_
          obtain ⟨H427, S428, i429, ns432, nv431⟩ := S426.sealRowN (i := 0) (l' := [.box b69 26 [Value.int .i64 s81.2, v404], .box b29 26 [Value.int .i64 s81.2, v404], .row 34 1 (Value.slice none 0 0) 0 []]) rfl els407 nd408 (by decide) rfl
          have h430 := ns432.rsl
          obtain rfl := Option.some.inj hp
          exact ⟨.inr rfl, resC2 rfl k387 (loadVar_A Tryz.isAgg26 Tryz.sizeOf26 (S428.box_now (i := 1) rfl) rfl) rfl ⟨_, _, rfl, S428.run, ⟨_, ns432⟩⟩⟩
      · exact x81.elim

theorem w_spec_l2Key {Ha : GH} {wa : World} (hs : Sl Ha wa) (a0 : Int) :
  Calls Tryz.prog 318 #[Value.int .i64 a0] wa (Sc Ha wa (Value.int .i64 (PF.spec_l2Key a0))) := by
 obtain ⟨r, hp⟩ : ∃ r, (PF.spec_l2Key a0) = r := ⟨_, rfl⟩
 rw [hp]
 unfold PF.spec_l2Key at hp
 have S0 := St.init hs
 refine calls_go (N := 10) (args := [Value.int .i64 a0]) Tryz.func318 rfl rfl rfl ?_
 refine FW.seq (FW.region ?_)
 refine FL.v (E.assign (v := Value.int .i64 0) rfl) ?_
 refine FL.nil (FW.seq (FW.seq (FW.region ?_)))
 refine FL.v (E.move (v := Value.int .i64 a0) rfl) ?_
 refine FL.v (E.lss rfl rfl) ?_
 refine FL.nil ?_
 rcases ifT hp with ⟨c21, hp⟩ | ⟨c21, hp⟩
 ·
  refine FW.condT rfl c21 ?_
  refine FW.seq (FW.region ?_)
  refine FL.v (E.move (v := Value.int .i64 a0) rfl) ?_
  refine FL.v (E.mul rfl rfl) ?_
  refine FL.v (E.add rfl rfl) ?_
  refine FL.v (E.assign (v := Value.int .i64 (wr ((wr ((-2) * a0)) + 1))) rfl) ?_
  refine FL.nil ?_
  refine FW.ret ?_
  obtain rfl := hp
  exact ⟨.inr rfl, res1 rfl rfl ⟨rfl, S0.back⟩⟩
 ·
  refine FW.condF rfl c21 ?_
  refine FW.skip (FW.seq (FW.region ?_))
  refine FL.v (E.move (v := Value.int .i64 a0) rfl) ?_
  refine FL.v (E.mul rfl rfl) ?_
  refine FL.v (E.assign (v := Value.int .i64 (wr (2 * a0))) rfl) ?_
  refine FL.nil ?_
  refine FW.ret ?_
  obtain rfl := hp
  exact ⟨.inr rfl, res1 rfl rfl ⟨rfl, S0.back⟩⟩

theorem w_spec_l2Before {Ha : GH} {wa : World} (hs : Sl Ha wa) (v0 : Value) (a0 : List Int) (p0 : RSl Ha eI 1 v0 a0) (v1 : Value) (a1 : List Int) (p1 : RSl Ha eI 1 v1 a1) {r : Bool} (hp : (PF.spec_l2Before a0 a1) = some r) :
  Calls Tryz.prog 273 #[v0, v1] wa (Sc Ha wa (Value.bool r)) := by
 unfold PF.spec_l2Before at hp
 have S0 := St.init hs
 refine calls_go (N := 42) (args := [v0, v1]) Tryz.func273 rfl rfl rfl ?_
 refine FW.seq (FW.region ?_)
 refine FL.v (E.assign (v := Value.bool false) rfl) ?_
 refine FL.nil (FW.seq (FW.seq (FW.region ?_)))
 refine FL.v (E.move (v := v0) rfl) ?_
 refine FL.v (E.lenP te34 rfl p0) ?_
 refine FL.v (E.move (v := v1) rfl) ?_
 refine FL.v (E.lenP te34 rfl p1) ?_
 refine FL.v (E.neq rfl rfl) ?_
 refine FL.nil ?_
 rcases ifB hp with ⟨c21, hp⟩ | ⟨c21, hp⟩
 ·
  refine FW.condT rfl c21 ?_
  refine FW.seq (FW.region ?_)
  refine FL.v (E.move (v := v0) rfl) ?_
  refine FL.v (E.lenP te34 rfl p0) ?_
  refine FL.v (E.move (v := v1) rfl) ?_
  refine FL.v (E.lenP te34 rfl p1) ?_
  refine FL.v (E.lss rfl rfl) ?_
  refine FL.v (E.assign (v := Value.bool (decide ((len a0) < (len a1)))) rfl) ?_
  refine FL.nil ?_
  refine FW.ret ?_
  obtain rfl := Option.some.inj hp
  exact ⟨.inr rfl, res1 rfl rfl ⟨rfl, S0.back⟩⟩
 ·
  refine FW.condF rfl c21 ?_
  refine FW.skip (FW.seq (FW.seq (FW.region ?_)))
  refine FL.v (E.assign (v := Value.int .i64 0) rfl) ?_
  refine FL.nil ?_
  obtain ⟨q23, hq, hp⟩ := bndR hp
  refine FW.block ?_
  refine FW.mono (FW.forL (S := Unit) (X := Bool) (fun (i23 : Nat) (s23 : Unit) f w => ∃ H : GH, St Ha wa H w [] ∧ Inc Ha H ∧ f 5 = Value.int .i64 ((i23 : Nat) : Int) ∧ f 0 = v0 ∧ f 1 = v1) (fun q e f w => match q with | .go s23 => e = Exit.exit 0 ∧ (∃ H : GH, St Ha wa H w [] ∧ Inc Ha H) | .rt x => ((e = Exit.ret) ∧ (fun e f w => (e = Exit.normal ∨ e = Exit.ret) ∧ ∀ a, Fr (δ := []) 42 a f → ∃ v, (results Tryz.f273 a.tmps).run Tryz.prog w = .ok v w ∧ (Sc Ha wa (Value.bool x)) (.returned v) w) e f w)) hq ⟨_, S0, (Inc.rfl _), rfl, rfl, rfl⟩ ?_ ?_) ?_
  ·
   clear hp hq
   rintro i23 y22 s23 f73 w72 ⟨H69, S70, i71, k74, k75, k76⟩ hx23 o114 hp
   refine FW.seq (FW.seq (FW.region ?_))
   refine FL.v (E.move k74) ?_
   refine FL.v (E.move k75) ?_
   refine FL.v (E.lenP te34 rfl p0) ?_
   refine FL.v (E.lssT rfl rfl (lss_len hx23)) ?_
   refine FL.nil ?_
   refine FW.condT rfl rfl ?_
   refine FW.skip (FW.seq (FW.block (FW.seq ?_)))
   refine FW.draw (fun w' => Run w72.heap.size H69 w72 H69 w') (by kernel_rfl) (by kernel_rfl) (run_drew S70.sl) ?_
   refine FD.val rfl rfl rfl (fun w' hw' => (E.move k75)) ?_
   refine FD.val rfl rfl rfl (fun w' hw' => (E.move k74)) ?_
   obtain ⟨p78, cs79, pt80, l81, at82, rel83⟩ := p0.at (ix_nat hx23)
   obtain rfl := eI_open rel83
   refine FD.val rfl rfl rfl (fun w' hw' => (E.indexAddr te34 rfl rfl pt80)) ?_
   refine FD.val rfl rfl rfl (fun w' hw' => (E.load rfl (run_load0 Tryz.isAgg3 ((at82.mono i71).now (S70.call hw').sl) rfl))) ?_
   refine FD.val rfl rfl rfl (fun w' hw' => (E.move k76)) ?_
   refine FD.val rfl rfl rfl (fun w' hw' => (E.move k74)) ?_
   obtain ⟨x90, hx91, hp⟩ := bnd hp
   obtain ⟨p84, cs85, pt86, l87, at88, rel89⟩ := p1.at hx91
   obtain rfl := eI_open rel89
   refine FD.val rfl rfl rfl (fun w' hw' => (E.indexAddr te34 rfl rfl pt86)) ?_
   refine FD.val rfl rfl rfl (fun w' hw' => (E.load rfl (run_load0 Tryz.isAgg3 ((at88.mono i71).now (S70.call hw').sl) rfl))) ?_
   refine FD.val rfl rfl rfl (fun w' hw' => (E.neq rfl rfl)) ?_
   refine FD.nil ?_
   intro w92 r94
   have S93 := S70.call r94
   rcases ifB hp with ⟨c95, hp⟩ | ⟨c95, hp⟩
   ·
    refine FW.condT rfl c95 ?_
    refine FW.seq ?_
    refine FW.draw (fun w' => Run w92.heap.size H69 w92 H69 w') (by kernel_rfl) (by kernel_rfl) (run_drew S93.sl) ?_
    refine FD.val rfl rfl rfl (fun w' hw' => (E.move k75)) ?_
    refine FD.val rfl rfl rfl (fun w' hw' => (E.move k74)) ?_
    obtain ⟨p97, cs98, pt99, l100, at101, rel102⟩ := p0.at (ix_nat hx23)
    obtain rfl := eI_open rel102
    refine FD.val rfl rfl rfl (fun w' hw' => (E.indexAddr te34 rfl rfl pt99)) ?_
    refine FD.val rfl rfl rfl (fun w' hw' => (E.load rfl (run_load0 Tryz.isAgg3 ((at101.mono i71).now (S93.call hw').sl) rfl))) ?_
    refine FD.call rfl rfl rfl (fun w' hw' => (E.call Tryz.call318 (A1 rfl))) (fun w' hw' => Calls.cls hw' (w_spec_l2Key (S93.call hw').sl y22)) ?_
    refine FD.val rfl rfl rfl (fun w' hw' => (E.move k76)) ?_
    refine FD.val rfl rfl rfl (fun w' hw' => (E.move k74)) ?_
    obtain ⟨x109, hx110, hp⟩ := bnd hp
    obtain ⟨p103, cs104, pt105, l106, at107, rel108⟩ := p1.at hx110
    obtain rfl := eI_open rel108
    refine FD.val rfl rfl rfl (fun w' hw' => (E.indexAddr te34 rfl rfl pt105)) ?_
    refine FD.val rfl rfl rfl (fun w' hw' => (E.load rfl (run_load0 Tryz.isAgg3 ((at107.mono i71).now (S93.call hw').sl) rfl))) ?_
    refine FD.call rfl rfl rfl (fun w' hw' => (E.call Tryz.call318 (A1 rfl))) (fun w' hw' => Calls.cls hw' (w_spec_l2Key (S93.call hw').sl x109)) ?_
    refine FD.val rfl rfl rfl (fun w' hw' => (E.lss rfl rfl)) ?_
    refine FD.val rfl rfl rfl (fun w' hw' => (E.assign (v := Value.bool (decide ((PF.spec_l2Key y22) < (PF.spec_l2Key x109)))) rfl)) ?_
    refine FD.nil ?_
    intro w111 r113
    have S112 := S93.call r113
    refine FW.ret ?_
    obtain rfl := Option.some.inj hp
    exact ⟨nofun, rfl, ⟨.inr rfl, res1 rfl rfl ⟨rfl, S112.back⟩⟩⟩
   ·
    refine FW.condF rfl c95 ?_
    refine FW.skip (FW.region ?_)
    refine FL.v (E.move k74) ?_
    refine FL.v (E.add rfl rfl) ?_
    refine FL.v (E.assign (v := Value.int .i64 (wr (((i23 : Nat) : Int) + 1))) rfl) ?_
    refine FL.nil ?_
    obtain rfl := Option.some.inj hp
    exact ⟨rfl, ⟨_, S93, i71, (nat_succ rfl (lt_of_get hx23) (p0.mono i71).le), k75, k76⟩⟩
  ·
   clear hp hq
   rintro s23 f124 w123 ⟨H120, S121, i122, k125, k126, k127⟩
   refine FW.seq (FW.seq (FW.region ?_))
   refine FL.v (E.move k125) ?_
   refine FL.v (E.move k126) ?_
   refine FL.v (E.lenP te34 rfl p0) ?_
   refine FL.v (E.lss rfl rfl) ?_
   refine FL.nil ?_
   refine FW.condF rfl dlt_len ?_
   refine FW.exit ?_
   exact ⟨nofun, rfl, ⟨_, S121, i122⟩⟩
  ·
   clear hq
   intro e f119 w118 hD
   rcases q23 with s23 | x23
   ·
    obtain ⟨rfl, hD⟩ := hD
    obtain ⟨H115, S116, i117⟩ := hD
    replace hp := el_go hp
    refine FW.seq (FW.region ?_)
    refine FL.v (E.assign (v := Value.bool false) rfl) ?_
    refine FL.nil ?_
    refine FW.ret ?_
    obtain rfl := Option.some.inj hp
    exact ⟨.inr rfl, res1 rfl rfl ⟨rfl, S116.back⟩⟩
   ·
    obtain ⟨he, hL⟩ := hD
    replace hp := el_rt hp
    obtain rfl := Option.some.inj hp
    subst he
    exact hL

end Go.Proofs
