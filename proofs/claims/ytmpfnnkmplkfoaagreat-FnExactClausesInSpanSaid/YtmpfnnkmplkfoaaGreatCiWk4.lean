/- Part of the walks and plain laws behind the claim: it proves helpers, under no condition beyond their own. -/
import Derived.Test.YtmpfnnkmplkfoaaGreatCiWk3
set_option linter.unusedVariables false
set_option maxRecDepth 100000
namespace Go.Proofs
open Go.Mr Go.Pu Go.PF Go.RowKit

@[reducible] def p_laws_markCnf (H0 : GH) (w0 : World) (Ha : GH) (l : List MO) (v0 : Value) (c0 : List Value) (r : Cnf × Int) : Ending → World → Prop := fun e w' =>
 ∃ (H' : GH) (c' : List Value), e = .returned (.int .i64 r.2) ∧ St H0 w0 H' w' l ∧ Nest (up w0.heap.size H') (eL eI 1) 1 v0 r.1.clauses c' ∧ bl c' = bl c0 ∧ ∀ b, b ∉ bl [v0] → b ∉ bl c0 → ∀ o, Ha b = some o → H' b = some o
theorem w_laws_markCnf {H0 Ha : GH} {w0 wa : World} {l : List MO} (S0 : St H0 w0 Ha wa l) (hs0 : Sl H0 w0) (a0 : Cnf) (v0 : Value) (c0 : List Value) (n0 : Nest (up w0.heap.size Ha) (eL eI 1) 1 v0 a0.clauses c0) (a1 : Int) :
  Calls Tryz.prog 17 #[.agg #[Value.int .i64 a0.vars, v0], Value.int .i64 a1] wa (p_laws_markCnf H0 w0 Ha l v0 c0 (PF.laws_markCnf a0 a1)) := by
 refine calls_go (N := 10) (args := [.agg #[Value.int .i64 a0.vars, v0], Value.int .i64 a1]) Tryz.func17 rfl rfl rfl ?_
 refine FW.seq (FW.region ?_)
 obtain ⟨b21, w22, run23, S24⟩ := S0.box (P := Tryz.prog) 30 [Value.int .i64 a0.vars, v0] (v := Value.agg #[Value.int .i64 a0.vars, v0]) rfl (ones_cons rfl (ones_cons n0.rsl.one ones_nil))
 refine FL.v (E.box rfl run23) ?_
 obtain ⟨H25, S26, i27, at28⟩ := S24.sealBox (i := 0) (l' := l) rfl rfl
 refine FL.v (E.assign (v := Value.int .i64 0) rfl) ?_
 refine FL.nil (FW.seq (FW.region ?_))
 refine FL.v (E.fieldAddr tf30_1 rfl) ?_
 refine FL.v (E.load rfl (run_load1 Tryz.isAgg22 (at28.now S26.sl) rfl)) ?_
 refine FL.v (E.move (v := Value.int .i64 a1) rfl) ?_
 refine FL.call rfl rfl rfl (E.call Tryz.call19 (A2 rfl rfl)) (w_laws_markIntSS S26 hs0 v0 a0.clauses c0 (n0.mono (up_mono i27)) a1) ?_
 rintro e w30 ⟨H29, c34, rfl, S31, h32, hb35, o33⟩
 refine ⟨_, rfl, ?_⟩
 refine FL.v (E.assign (v := Value.int .i64 ((PF.laws_markIntSS a0.clauses a1).2)) rfl) ?_
 refine FL.nil (FW.seq (FW.region ?_))
 refine FL.v (E.move (v := Value.int .i64 ((PF.laws_markIntSS a0.clauses a1).2)) rfl) ?_
 refine FL.v (E.assign (v := Value.int .i64 ((PF.laws_markIntSS a0.clauses a1).2)) rfl) ?_
 refine FL.nil ?_
 refine FW.ret ?_
 exact ⟨.inr rfl, res1 rfl rfl ⟨_, _, rfl, S31, h32, hb35, fun b q1 q2 o ho => o33 b q1 q2 o (i27 b o ho)⟩⟩

theorem w_laws_heldIntS {Ha : GH} {wa : World} (hs : Sl Ha wa) (v0 : Value) (a0 : List Int) (p0 : RSl Ha eI 1 v0 a0) (a1 : Int) {r : Int} (hp : (PF.laws_heldIntS a0 a1) = some r) :
  Calls Tryz.prog 57 #[v0, Value.int .i64 a1] wa (Sc Ha wa (Value.int .i64 r)) := by
 unfold PF.laws_heldIntS at hp
 have S0 := St.init hs
 refine calls_go (N := 21) (args := [v0, Value.int .i64 a1]) Tryz.func57 rfl rfl rfl ?_
 refine FW.seq (FW.region ?_)
 refine FL.v (E.assign (v := Value.int .i64 0) rfl) ?_
 refine FL.nil (FW.seq (FW.seq (FW.region ?_)))
 refine FL.v (E.assign (v := Value.int .i64 0) rfl) ?_
 refine FL.nil ?_
 obtain ⟨q22, hq, hp⟩ := bndR hp
 refine FW.block ?_
 refine FW.mono (FW.forL (S := Int) (X := Int) (fun (i22 : Nat) (s22 : Int) f w => ∃ H : GH, St Ha wa H w [] ∧ Inc Ha H ∧ f 5 = Value.int .i64 ((i22 : Nat) : Int) ∧ f 0 = v0 ∧ f 1 = Value.int .i64 s22) (fun q e f w => match q with | .go s22 => e = Exit.exit 0 ∧ (∃ H : GH, St Ha wa H w [] ∧ Inc Ha H ∧ f 1 = Value.int .i64 s22) | .rt x => ((e = Exit.ret) ∧ (fun e f w => (e = Exit.normal ∨ e = Exit.ret) ∧ ∀ a, Fr (δ := []) 21 a f → ∃ v, (results Tryz.f57 a.tmps).run Tryz.prog w = .ok v w ∧ (Sc Ha wa (Value.int .i64 x)) (.returned v) w) e f w)) hq ⟨_, S0, (Inc.rfl _), rfl, rfl, rfl⟩ ?_ ?_) ?_
 ·
  clear hp hq
  rintro i22 y21 s22 f42 w41 ⟨H38, S39, i40, k43, k44, k45⟩ hx22 o53 hp
  refine FW.seq (FW.seq (FW.region ?_))
  refine FL.v (E.move k43) ?_
  refine FL.v (E.move k44) ?_
  refine FL.v (E.lenP te84 rfl p0) ?_
  refine FL.v (E.lssT rfl rfl (lss_len hx22)) ?_
  refine FL.nil ?_
  refine FW.condT rfl rfl ?_
  refine FW.skip (FW.seq (FW.block (FW.seq (FW.seq (FW.region ?_)))))
  refine FL.v (E.move k44) ?_
  refine FL.v (E.move k43) ?_
  obtain ⟨p46, cs47, pt48, l49, at50, rel51⟩ := p0.at (ix_nat hx22)
  obtain rfl := eI_open rel51
  refine FL.v (E.indexAddr te84 rfl rfl pt48) ?_
  refine FL.v (E.load rfl (run_load0 Tryz.isAgg3 ((at50.mono i40).now S39.sl) rfl)) ?_
  refine FL.v (E.move k45) ?_
  refine FL.v (E.neq rfl rfl) ?_
  refine FL.nil ?_
  rcases ifB hp with ⟨c52, hp⟩ | ⟨c52, hp⟩
  ·
   refine FW.condT rfl c52 ?_
   refine FW.seq (FW.region ?_)
   refine FL.v (E.assign (v := Value.int .i64 (-1)) rfl) ?_
   refine FL.nil ?_
   refine FW.ret ?_
   obtain rfl := Option.some.inj hp
   exact ⟨nofun, rfl, ⟨.inr rfl, res1 rfl rfl ⟨rfl, S39.back⟩⟩⟩
  ·
   refine FW.condF rfl c52 ?_
   refine FW.skip (FW.region ?_)
   refine FL.v (E.move k45) ?_
   refine FL.v (E.add rfl rfl) ?_
   refine FL.v (E.assign (v := Value.int .i64 (wr (s22 + 1))) rfl) ?_
   refine FL.nil (FW.region ?_)
   refine FL.v (E.move k43) ?_
   refine FL.v (E.add rfl rfl) ?_
   refine FL.v (E.assign (v := Value.int .i64 (wr (((i22 : Nat) : Int) + 1))) rfl) ?_
   refine FL.nil ?_
   obtain rfl := Option.some.inj hp
   exact ⟨rfl, ⟨_, S39, i40, (nat_succ rfl (lt_of_get hx22) (p0.mono i40).le), k44, rfl⟩⟩
 ·
  clear hp hq
  rintro s22 f64 w63 ⟨H60, S61, i62, k65, k66, k67⟩
  refine FW.seq (FW.seq (FW.region ?_))
  refine FL.v (E.move k65) ?_
  refine FL.v (E.move k66) ?_
  refine FL.v (E.lenP te84 rfl p0) ?_
  refine FL.v (E.lss rfl rfl) ?_
  refine FL.nil ?_
  refine FW.condF rfl dlt_len ?_
  refine FW.exit ?_
  exact ⟨nofun, rfl, ⟨_, S61, i62, k67⟩⟩
 ·
  clear hq
  intro e f58 w57 hD
  rcases q22 with s22 | x22
  ·
   obtain ⟨rfl, hD⟩ := hD
   obtain ⟨H54, S55, i56, k59⟩ := hD
   replace hp := el_go hp
   refine FW.seq (FW.region ?_)
   refine FL.v (E.move k59) ?_
   refine FL.v (E.assign (v := Value.int .i64 s22) rfl) ?_
   refine FL.nil ?_
   refine FW.ret ?_
   obtain rfl := Option.some.inj hp
   exact ⟨.inr rfl, res1 rfl rfl ⟨rfl, S55.back⟩⟩
  ·
   obtain ⟨he, hL⟩ := hD
   replace hp := el_rt hp
   obtain rfl := Option.some.inj hp
   subst he
   exact hL

theorem w_laws_heldIntSS {Ha : GH} {wa : World} (hs : Sl Ha wa) (v0 : Value) (a0 : List (List Int)) (p0 : RSl Ha (eL eI 1) 1 v0 a0) (a1 : Int) {r : Int} (hp : (PF.laws_heldIntSS a0 a1) = some r) :
  Calls Tryz.prog 20 #[v0, Value.int .i64 a1] wa (Sc Ha wa (Value.int .i64 r)) := by
 unfold PF.laws_heldIntSS at hp
 have S0 := St.init hs
 refine calls_go (N := 21) (args := [v0, Value.int .i64 a1]) Tryz.func20 rfl rfl rfl ?_
 refine FW.seq (FW.region ?_)
 refine FL.v (E.assign (v := Value.int .i64 0) rfl) ?_
 refine FL.nil (FW.seq (FW.seq (FW.region ?_)))
 refine FL.v (E.assign (v := Value.int .i64 0) rfl) ?_
 refine FL.nil ?_
 obtain ⟨q22, hq, hp⟩ := bndR hp
 refine FW.block ?_
 refine FW.mono (FW.forL (S := Int) (X := Int) (fun (i22 : Nat) (s22 : Int) f w => ∃ H : GH, St Ha wa H w [] ∧ Inc Ha H ∧ f 5 = Value.int .i64 ((i22 : Nat) : Int) ∧ f 0 = v0 ∧ f 1 = Value.int .i64 s22) (fun q e f w => match q with | .go s22 => e = Exit.exit 0 ∧ (∃ H : GH, St Ha wa H w [] ∧ Inc Ha H ∧ f 1 = Value.int .i64 s22) | .rt x => ((e = Exit.ret) ∧ (fun e f w => (e = Exit.normal ∨ e = Exit.ret) ∧ ∀ a, Fr (δ := []) 21 a f → ∃ v, (results Tryz.f20 a.tmps).run Tryz.prog w = .ok v w ∧ (Sc Ha wa (Value.int .i64 x)) (.returned v) w) e f w)) hq ⟨_, S0, (Inc.rfl _), rfl, rfl, rfl⟩ ?_ ?_) ?_
 ·
  clear hp hq
  rintro i22 y21 s22 f49 w48 ⟨H45, S46, i47, k50, k51, k52⟩ hx22 o67 hp
  refine FW.seq (FW.seq (FW.region ?_))
  refine FL.v (E.move k50) ?_
  refine FL.v (E.move k51) ?_
  refine FL.v (E.lenP te22 rfl p0) ?_
  refine FL.v (E.lssT rfl rfl (lss_len hx22)) ?_
  refine FL.nil ?_
  refine FW.condT rfl rfl ?_
  refine FW.skip (FW.seq (FW.block (FW.seq (FW.region ?_))))
  refine FL.v (E.move k51) ?_
  refine FL.v (E.move k50) ?_
  obtain ⟨p53, cs54, pt55, l56, at57, rel58⟩ := p0.at (ix_nat hx22)
  obtain ⟨v59, rfl, h60⟩ := eL_open rel58
  refine FL.v (E.indexAddr te22 rfl rfl pt55) ?_
  refine FL.v (E.load rfl (run_load0 Tryz.isAgg84 ((at57.mono i47).now S46.sl) rfl)) ?_
  refine FL.v (E.move k52) ?_
  obtain ⟨r61, hr62, hp⟩ := bnd hp
  refine FL.call rfl rfl rfl (E.call Tryz.call57 (A2 rfl rfl)) (w_laws_heldIntS S46.sl v59 y21 (h60.mono i47) s22 hr62) ?_
  rintro e w63 ⟨rfl, r64⟩
  refine ⟨_, rfl, ?_⟩
  have S65 := S46.call r64
  refine FL.v (E.assign (v := Value.int .i64 r61) rfl) ?_
  refine FL.nil (FW.seq (FW.region ?_))
  refine FL.v (E.move (v := Value.int .i64 r61) rfl) ?_
  refine FL.v (E.lss rfl rfl) ?_
  refine FL.nil ?_
  rcases ifB hp with ⟨c66, hp⟩ | ⟨c66, hp⟩
  ·
   refine FW.condT rfl c66 ?_
   refine FW.seq (FW.region ?_)
   refine FL.v (E.assign (v := Value.int .i64 (-1)) rfl) ?_
   refine FL.nil ?_
   refine FW.ret ?_
   obtain rfl := Option.some.inj hp
   exact ⟨nofun, rfl, ⟨.inr rfl, res1 rfl rfl ⟨rfl, S65.back⟩⟩⟩
  ·
   refine FW.condF rfl c66 ?_
   refine FW.skip (FW.region ?_)
   refine FL.v (E.move k50) ?_
   refine FL.v (E.add rfl rfl) ?_
   refine FL.v (E.assign (v := Value.int .i64 (wr (((i22 : Nat) : Int) + 1))) rfl) ?_
   refine FL.nil ?_
   obtain rfl := Option.some.inj hp
   exact ⟨rfl, ⟨_, S65, i47, (nat_succ rfl (lt_of_get hx22) (p0.mono i47).le), k51, rfl⟩⟩
 ·
  clear hp hq
  rintro s22 f78 w77 ⟨H74, S75, i76, k79, k80, k81⟩
  refine FW.seq (FW.seq (FW.region ?_))
  refine FL.v (E.move k79) ?_
  refine FL.v (E.move k80) ?_
  refine FL.v (E.lenP te22 rfl p0) ?_
  refine FL.v (E.lss rfl rfl) ?_
  refine FL.nil ?_
  refine FW.condF rfl dlt_len ?_
  refine FW.exit ?_
  exact ⟨nofun, rfl, ⟨_, S75, i76, k81⟩⟩
 ·
  clear hq
  intro e f72 w71 hD
  rcases q22 with s22 | x22
  ·
   obtain ⟨rfl, hD⟩ := hD
   obtain ⟨H68, S69, i70, k73⟩ := hD
   replace hp := el_go hp
   refine FW.seq (FW.region ?_)
   refine FL.v (E.move k73) ?_
   refine FL.v (E.assign (v := Value.int .i64 s22) rfl) ?_
   refine FL.nil ?_
   refine FW.ret ?_
   obtain rfl := Option.some.inj hp
   exact ⟨.inr rfl, res1 rfl rfl ⟨rfl, S69.back⟩⟩
  ·
   obtain ⟨he, hL⟩ := hD
   replace hp := el_rt hp
   obtain rfl := Option.some.inj hp
   subst he
   exact hL

set_option maxHeartbeats 4000000 in
theorem w_laws_FnExactClausesInSpan {Ha : GH} {wa : World} (hs : Sl Ha wa) (a0 : Int) (a1 : Cnf) (v1_1 : Value) (p1_1 : RSl Ha (eL eI 1) 1 v1_1 a1.clauses) (a2 : Int) {r : Bool} (hp : (PF.laws_FnExactClausesInSpan a0 a1 a2) = some r) :
  Calls Tryz.prog 7 #[Value.int .i64 a0, Value.agg #[Value.int .i64 a1.vars, v1_1], Value.int .i64 a2] wa (Sc Ha wa (Value.bool r)) := by
 unfold PF.laws_FnExactClausesInSpan at hp
 have S0 := St.init hs
 refine calls_go (N := 106) (args := [Value.int .i64 a0, Value.agg #[Value.int .i64 a1.vars, v1_1], Value.int .i64 a2]) Tryz.func7 rfl rfl rfl ?_
 refine FW.seq (FW.region ?_)
 obtain ⟨w21, run22, S23, z24⟩ := S0.boxB (P := Tryz.prog) 24 [Value.int .i64 a1.vars, v1_1] (v := Value.agg #[Value.int .i64 a1.vars, v1_1]) rfl (ones_cons rfl (ones_cons p1_1.one ones_nil))
 refine FL.v (E.box rfl run22) ?_
 obtain ⟨H25, S26, i27, at28⟩ := S23.sealBoxB (i := 0) (l' := []) rfl rfl
 refine FL.v (E.assign (v := Value.bool false) rfl) ?_
 refine FL.nil (FW.seq (FW.region ?_))
 refine FL.v (E.assign (v := Value.int .i64 1048576) rfl) ?_
 refine FL.nil (FW.seq (FW.region ?_))
 refine FL.v (E.load rfl (run_loadA Tryz.isAgg24 Tryz.sizeOf24 ((at28.mono sgI).now S26.sl) rfl)) ?_
 refine FL.v (E.move (v := Value.int .i64 1048576) rfl) ?_
 obtain ⟨r29, hr30, hp⟩ := bnd hp
 refine FL.call rfl rfl rfl (E.call Tryz.call8 (A2 rfl rfl)) (w_laws_szCnf S26.sl a1 v1_1 (p1_1.mono i27) 1048576 hr30) ?_
 rintro e w31 ⟨rfl, r32⟩
 refine ⟨_, rfl, ?_⟩
 have S33 := S26.call r32
 have z34 := r32.bel.size
 refine FL.v (E.assign (v := Value.int .i64 r29) rfl) ?_
 refine FL.nil (FW.seq (FW.seq (FW.region ?_)))
 refine FL.v (E.move (v := Value.int .i64 r29) rfl) ?_
 refine FL.v (E.lss rfl rfl) ?_
 refine FL.nil ?_
 rcases ifB hp with ⟨c35, hp⟩ | ⟨c35, hp⟩
 ·
  refine FW.condT rfl c35 ?_
  refine FW.seq (FW.region ?_)
  refine FL.v (E.assign (v := Value.bool true) rfl) ?_
  refine FL.nil ?_
  refine FW.ret ?_
  obtain rfl := Option.some.inj hp
  exact ⟨.inr rfl, res1 rfl rfl ⟨rfl, S33.back⟩⟩
 ·
  refine FW.condF rfl c35 ?_
  refine FW.skip (FW.seq (FW.region ?_))
  refine FL.v (E.move (v := Value.int .i64 a0) rfl) ?_
  refine FL.v (E.load rfl (run_loadA Tryz.isAgg24 Tryz.sizeOf24 ((at28.mono sgI).now S33.sl) rfl)) ?_
  obtain ⟨r36, hr37, hp⟩ := bnd hp
  refine FL.call rfl rfl rfl (E.call Tryz.call11 (A1 rfl)) (w_laws_toCnf S33.sl a1 v1_1 (p1_1.mono i27) hr37) ?_
  rintro e w39 ⟨H38, v42, rfl, r41, ⟨c45, ns44⟩⟩
  refine ⟨_, rfl, ?_⟩
  have h43 := ns44.rsl
  have nv46 : New H25 c45 := New.of_up S33.sl (fun b hb => ns44.dom b (.inr hb))
  have nv47 : New H25 [v42] := New.of_up S33.sl h43.dom
  have S40 := S33.call r41
  have z48 := r41.bel.size
  have h43 := h43.mono (sg_of S40.sl)
  have ns44 := ns44.mono (sg_of S40.sl)
  refine FL.v (E.move (v := Value.int .i64 a2) rfl) ?_
  obtain ⟨r49, hr50, hp⟩ := bnd hp
  refine FL.call rfl rfl rfl (E.call Tryz.call40 (A3 rfl rfl rfl)) (w_spec_ClausesInSpan S40.sl a0 r36 v42 (h43.mono sgI) a2 hr50) ?_
  rintro e w52 ⟨H51, v55, rfl, r54, h56⟩
  refine ⟨_, rfl, ?_⟩
  have S53 := S40.call r54
  have z57 := r54.bel.size
  have h56 := h56.mono (bw_of S53.sl)
  refine FL.v (E.move (v := Value.tuple #[v55, Value.bool r49.2]) rfl) ?_
  refine FL.v (E.extract (i := 0) rfl rfl) ?_
  refine FL.v (E.extract (i := 1) rfl rfl) ?_
  refine FL.v (E.assign (v := v55) rfl) ?_
  refine FL.v (E.assign (v := Value.bool r49.2) rfl) ?_
  refine FL.nil (FW.seq (FW.region ?_))
  refine FL.v (E.load rfl (run_loadA Tryz.isAgg24 Tryz.sizeOf24 ((at28.mono (sgI.tr (r41.inc.tr r54.inc))).now S53.sl) rfl)) ?_
  obtain ⟨r58, hr59, hp⟩ := bnd hp
  refine FL.call rfl rfl rfl (E.call Tryz.call11 (A1 rfl)) (w_laws_toCnf S53.sl a1 v1_1 (p1_1.mono ((i27.tr r41.inc).tr r54.inc)) hr59) ?_
  rintro e w61 ⟨H60, v64, rfl, r63, ⟨c67, ns66⟩⟩
  refine ⟨_, rfl, ?_⟩
  have h65 := ns66.rsl
  have nv68 : New H51 c67 := New.of_up S53.sl (fun b hb => ns66.dom b (.inr hb))
  have nv69 : New H51 [v64] := New.of_up S53.sl h65.dom
  have S62 := S53.call r63
  have z70 := r63.bel.size
  have h65 := h65.mono (sg_of S62.sl)
  have ns66 := ns66.mono (sg_of S62.sl)
  obtain ⟨w71, run72, S73, z74⟩ := S62.allocB (P := Tryz.prog) 30 [Value.int .i64 0, Value.slice none 0 0] Tryz.zeroValue30 rfl (ones_cons rfl (ones_cons rfl ones_nil))
  refine FL.v (E.alloc run72) ?_
  obtain ⟨w75, run76, S77, z78⟩ := S73.store0B (P := Tryz.prog) (t := 30) (i := 0) (cs' := [Value.int .i64 r58.vars, v64]) (l' := [.box w61.heap.size 30 [Value.int .i64 r58.vars, v64]]) (v := Value.agg #[Value.int .i64 r58.vars, v64]) (c := [Value.int .i64 r58.vars, v64]) rfl Tryz.sizeOf30 rfl rfl (ones_cons rfl (ones_cons h65.one ones_nil)) (Nat.le_of_ble_eq_true rfl) rfl rfl
  refine FL.act rfl rfl (E.store rfl rfl run76) ?_
  obtain ⟨H79, S80, i81, at82⟩ := S77.sealBoxB (i := 0) (l' := []) rfl rfl
  refine FL.nil (FW.seq (FW.region ?_))
  refine FL.v (E.move (v := Value.int .i64 a0) rfl) ?_
  refine FL.v (E.load rfl (run_loadA Tryz.isAgg30 Tryz.sizeOf30 ((at82.mono sgI).now S80.sl) rfl)) ?_
  refine FL.v (E.move (v := Value.int .i64 a2) rfl) ?_
  obtain ⟨r83, hr84, hp⟩ := bnd hp
  refine FL.call rfl rfl rfl (E.call Tryz.call41 (A3 rfl rfl rfl)) (w_impl_ClausesInSpan S80.sl a0 r58 v64 (h65.mono (sgI.tr i81)) a2 hr84) ?_
  rintro e w86 ⟨H85, v89, n90, cs91, rfl, r88, els92, nd93⟩
  refine ⟨_, rfl, ?_⟩
  have nv94 : New H79 cs91 := New.of_up S80.sl els92.dom
  obtain ⟨H95, r96, i97, ns100, nv99⟩ := r88.sealRowN (i := 0) (l' := []) rfl els92 nd93 (by decide) rfl
  have h98 := ns100.rsl
  have S87 := S80.call r96.run
  have z101 := r96.run.bel.size
  have h98 := h98.mono (sg_of S87.sl)
  have ns100 := ns100.mono (sg_of S87.sl)
  refine FL.v (E.move (v := Value.tuple #[v89, Value.bool r83.2]) rfl) ?_
  refine FL.v (E.extract (i := 0) rfl rfl) ?_
  refine FL.v (E.extract (i := 1) rfl rfl) ?_
  refine FL.v (E.assign (v := v89) rfl) ?_
  refine FL.v (E.assign (v := Value.bool r83.2) rfl) ?_
  refine FL.nil (FW.seq (FW.seq (FW.region ?_)))
  refine FL.v (E.move (v := v89) rfl) ?_
  refine FL.v (E.move (v := v55) rfl) ?_
  obtain ⟨r102, hr103, hp⟩ := bnd hp
  refine FL.call rfl rfl rfl (E.call Tryz.call14 (A2 rfl rfl)) (w_laws_eqIntSS S87.sl v89 r83.1 (h98.mono sgI) v55 r49.1 (h56.mono (bwI.tr ((r63.inc.tr i81).tr r96.run.inc))) hr103) ?_
  rintro e w104 ⟨rfl, r105⟩
  refine ⟨_, rfl, ?_⟩
  have S106 := S87.call r105
  have z107 := r105.bel.size
  refine FL.v (E.not rfl) ?_
  refine FL.v (E.move (v := Value.bool (!r102)) rfl) ?_
  refine FL.cut 4 (fun f w => ∃ H : GH, St Ha wa H w [] ∧ Inc H95 H ∧ f 0 = Value.int .i64 a0 ∧ f 2 = Value.int .i64 a2 ∧ f 4 = Value.pointer (some ⟨wa.heap.size, 0, none⟩) ∧ f 8 = v55 ∧ f 9 = Value.bool r49.2 ∧ f 10 = Value.pointer (some ⟨w61.heap.size, 0, none⟩) ∧ f 11 = v89 ∧ f 12 = Value.bool r83.2 ∧ f 48 = Value.bool (bif (!r102) then true else (!(r83.2 == r49.2)))) ?_ ?_
  ·
   rcases bcase (!r102) with c114 | c114
   ·
    refine FL.skip (wF_no rfl rfl rfl c114) rfl ?_
    refine FL.skip (wF_no rfl rfl rfl c114) rfl ?_
    refine FL.skip (wF_no rfl rfl rfl c114) rfl ?_
    refine FL.v (E.pickT rfl c114 rfl) ?_
    exact FL.nil ⟨rfl, _, S106, (Inc.rfl _), rfl, rfl, rfl, rfl, rfl, rfl, rfl, rfl, (congrArg Value.bool (bifT c114).symm)⟩
   ·
    refine FL.val (wF_yes rfl rfl rfl c114) rfl rfl (E.move (v := Value.bool r83.2) rfl) ?_
    refine FL.val (wF_yes rfl rfl rfl c114) rfl rfl (E.move (v := Value.bool r49.2) rfl) ?_
    refine FL.val (wF_yes rfl rfl rfl c114) rfl rfl (E.neqB Tryz.runUnderlying4 rfl rfl) ?_
    refine FL.v (E.pickF rfl c114 rfl) ?_
    exact FL.nil ⟨rfl, _, S106, (Inc.rfl _), rfl, rfl, rfl, rfl, rfl, rfl, rfl, rfl, (congrArg Value.bool (bifF c114).symm)⟩
  rintro f113 w112 ⟨H109, S110, i111, k115, k116, k117, k118, k119, k120, k121, k122, k123⟩
  refine FL.nil ?_
  rcases ifB hp with ⟨c124, hp⟩ | ⟨c124, hp⟩
  ·
   refine FW.condT k123 c124 ?_
   refine FW.seq (FW.region ?_)
   refine FL.v (E.assign (v := Value.bool false) rfl) ?_
   refine FL.nil ?_
   refine FW.ret ?_
   obtain rfl := Option.some.inj hp
   exact ⟨.inr rfl, res1 rfl rfl ⟨rfl, S110.back⟩⟩
  ·
   refine FW.condF k123 c124 ?_
   refine FW.skip (FW.seq (FW.seq ?_))
   obtain ⟨r108, hr128, hp⟩ := bnd hp
   obtain ⟨r140, hr141, hp⟩ := bnd hp
   refine FW.drawB (Sl H109) (fun f w => ∃ H : GH, St Ha wa H w [] ∧ Inc H109 H ∧ f 0 = Value.int .i64 a0 ∧ f 2 = Value.int .i64 a2 ∧ f 4 = Value.pointer (some ⟨wa.heap.size, 0, none⟩) ∧ f 8 = v55 ∧ f 9 = Value.bool r49.2 ∧ f 10 = Value.pointer (some ⟨w61.heap.size, 0, none⟩) ∧ f 11 = v89 ∧ f 12 = Value.bool r83.2 ∧ f 53 = Value.bool (!r140)) (by kernel_rfl) S110.sl ?_ ?_
   ·
    intro w125 r126
    have S127 := S110.call r126
    refine FB.t (i := 0) (bs 5 1) rfl (SP.nil S127.sl) rfl (fun w' hw' => (E.load k120 (run_loadA Tryz.isAgg30 Tryz.sizeOf30 ((at82.mono (sgI.tr (r96.run.inc.tr i111))).now hw') rfl))) ?_
    refine FB.t (i := 1) (bs 5 3) rfl (SP.nil S127.sl) rfl (fun w' hw' => (E.load k117 (run_loadA Tryz.isAgg24 Tryz.sizeOf24 ((at28.mono (sgI.tr (((((r41.inc.tr r54.inc).tr r63.inc).tr i81).tr r96.run.inc).tr i111))).now hw') rfl))) ?_
    refine FB.all1 (i := 2) (by kernel_rfl) ?_
    ·
     refine FC.call (l' := (bs 5 7)) rfl (by kernel_rfl) rfl rfl rfl (E.call Tryz.call11 (A1 rfl)) (w_laws_toCnf S127.sl a1 v1_1 (p1_1.mono ((((((i27.tr r41.inc).tr r54.inc).tr r63.inc).tr i81).tr r96.run.inc).tr i111)) hr128) ?_
     rintro e w130 ⟨H129, v133, rfl, r132, ⟨c136, ns135⟩⟩
     refine ⟨_, rfl, ?_⟩
     have h134 := ns135.rsl
     have nv137 : New H109 c136 := New.of_up S127.sl (fun b hb => ns135.dom b (.inr hb))
     have nv138 : New H109 [v133] := New.of_up S127.sl h134.dom
     have S131 := S127.call r132
     have z139 := r132.bel.size
     have h134 := h134.mono (sg_of S131.sl)
     have ns135 := ns135.mono (sg_of S131.sl)
     refine ⟨(SP.nil (Sl.of_inc r132.inc S131.sl)), ?_⟩
     refine FB.all1 (i := 3) (by kernel_rfl) ?_
     ·
      refine FC.call (l' := (bs 5 15)) rfl (by kernel_rfl) rfl rfl rfl (E.call Tryz.call15 (A2 rfl rfl)) (w_laws_eqCnf S131.sl r58 v64 (h65.mono (sgI.tr (((i81.tr r96.run.inc).tr i111).tr r132.inc))) r108 v133 (h134.mono sgI) hr141) ?_
      rintro e w142 ⟨rfl, r143⟩
      refine ⟨_, rfl, ?_⟩
      have S144 := S131.call r143
      have z145 := r143.bel.size
      refine ⟨(SP.nil (Sl.of_inc r132.inc S144.sl)), ?_⟩
      refine FB.t (i := 4) (bs 5 31) rfl (SP.nil (Sl.of_inc r132.inc S144.sl)) rfl (fun w' hw' => (E.not rfl)) ?_
      exact FB.done (by kernel_rfl) ⟨_, S144, r132.inc, k115, k116, k117, k118, k119, k120, k121, k122, rfl⟩
   ·
    rintro f150 w149 ⟨H146, S147, i148, k151, k152, k153, k154, k155, k156, k157, k158, k159⟩
    rcases ifB hp with ⟨c160, hp⟩ | ⟨c160, hp⟩
    ·
     refine FW.condT k159 c160 ?_
     refine FW.seq (FW.region ?_)
     refine FL.v (E.assign (v := Value.bool false) rfl) ?_
     refine FL.nil ?_
     refine FW.ret ?_
     obtain rfl := Option.some.inj hp
     exact ⟨.inr rfl, res1 rfl rfl ⟨rfl, S147.back⟩⟩
    ·
     refine FW.condF k159 c160 ?_
     refine FW.skip (FW.seq (FW.region ?_))
     refine FL.v (E.assign (v := Value.int .i64 1) rfl) ?_
     refine FL.nil (FW.seq (FW.region ?_))
     refine FL.v (E.load k156 (run_loadA Tryz.isAgg30 Tryz.sizeOf30 ((at82.mono (sgI.tr ((r96.run.inc.tr i111).tr i148))).now S147.sl) rfl)) ?_
     refine FL.v (E.move (v := Value.int .i64 1) rfl) ?_
     refine FL.call rfl rfl rfl (E.call Tryz.call17 (A2 rfl rfl)) (w_laws_markCnf S147 hs r58 v64 c67 (ns66.mono (sg_up (by omega) (((i81.tr r96.run.inc).tr i111).tr i148))) 1) ?_
     rintro e w162 ⟨H161, c167, rfl, S163, ns169, hb168, o165⟩
     refine ⟨_, rfl, ?_⟩
     have o166 := (ns66.mono (sg_mono (hi := w61.heap.size) (((i81.tr r96.run.inc).tr i111).tr i148))).outside o165
     have ns169 := ns66.span (eL_loc eI_flat) (by omega) ns169 hb168
     have h164 := ns169.rsl
     have f170 := at28.mono ((sg_mono (lo := wa.heap.size) (hi := wa.heap.size + 1) ((((((r41.inc.tr r54.inc).tr r63.inc).tr i81).tr r96.run.inc).tr i111).tr i148)).tr (sg_keep o166 (by omega)))
     have f171 := h56.mono ((bw_mono (hi := w52.heap.size) ((((r63.inc.tr i81).tr r96.run.inc).tr i111).tr i148)).tr (bw_keep o166 (by omega)))
     have f172 := at82.mono ((sg_mono (lo := w61.heap.size) (hi := w61.heap.size + 1) ((r96.run.inc.tr i111).tr i148)).tr (sg_keep o166 (by omega)))
     have f173 := h98.mono ((sg_mono (lo := w75.heap.size) (hi := w86.heap.size) (i111.tr i148)).tr (sg_keep o166 (by omega)))
     have f174 := ns100.mono ((sg_mono (lo := w75.heap.size) (hi := w86.heap.size) (i111.tr i148)).tr (sg_keep o166 (by omega)))
     refine FL.v (E.assign (v := Value.int .i64 ((PF.laws_markCnf r58 1).2)) rfl) ?_
     refine FL.nil (FW.seq (FW.seq (FW.region ?_)))
     refine FL.v (E.move (v := Value.int .i64 ((PF.laws_markCnf r58 1).2)) rfl) ?_
     refine FL.v (E.lss rfl rfl) ?_
     refine FL.v (E.move (v := Value.bool (decide ((PF.laws_markCnf r58 1).2 < 0))) rfl) ?_
     obtain ⟨t175, hqt175, hp⟩ := bnd hp
     refine FL.cut 5 (fun f w => ∃ H : GH, St Ha wa H w [] ∧ Inc H161 H ∧ f 0 = Value.int .i64 a0 ∧ f 2 = Value.int .i64 a2 ∧ f 4 = Value.pointer (some ⟨wa.heap.size, 0, none⟩) ∧ f 8 = v55 ∧ f 9 = Value.bool r49.2 ∧ f 11 = v89 ∧ f 12 = Value.bool r83.2 ∧ f 64 = Value.bool t175) ?_ ?_
     ·
      clear hp; have hp := hqt175; clear hqt175
      rcases ifB hp with ⟨c181, hp⟩ | ⟨c181, hp⟩
      ·
       refine FL.skip (wF_no rfl rfl rfl c181) rfl ?_
       refine FL.skip (wF_no rfl rfl rfl c181) rfl ?_
       refine FL.skip (wF_no rfl rfl rfl c181) rfl ?_
       refine FL.skip (wF_no rfl rfl rfl c181) rfl ?_
       obtain rfl := Option.some.inj hp
       refine FL.v (E.pickT rfl c181 rfl) ?_
       exact FL.nil ⟨rfl, _, S163, (Inc.rfl _), k151, k152, k153, k154, k155, k157, k158, rfl⟩
      ·
       refine FL.val (wF_yes rfl rfl rfl c181) rfl rfl (E.move k157) ?_
       refine FL.val (wF_yes rfl rfl rfl c181) rfl rfl (E.move k154) ?_
       obtain ⟨r182, hr183, hp⟩ := bnd hp
       refine FL.call (wF_yes rfl rfl rfl c181) rfl rfl (E.call Tryz.call14 (A2 rfl rfl)) (w_laws_eqIntSS S163.sl v89 r83.1 (f173.mono sgI) v55 r49.1 (f171.mono bwI) hr183) ?_
       rintro e w184 ⟨rfl, r185⟩
       refine ⟨_, rfl, ?_⟩
       have S186 := S163.call r185
       have z187 := r185.bel.size
       refine FL.val (wF_yes rfl rfl rfl c181) rfl rfl (E.not rfl) ?_
       obtain rfl := Option.some.inj hp
       refine FL.v (E.pickF rfl c181 rfl) ?_
       exact FL.nil ⟨rfl, _, S186, (Inc.rfl _), k151, k152, k153, k154, k155, k157, k158, rfl⟩
     rintro f180 w179 ⟨H176, S177, i178, k188, k189, k190, k191, k192, k193, k194, k195⟩
     refine FL.v (E.move k195) ?_
     refine FL.cut 4 (fun f w => ∃ H : GH, St Ha wa H w [] ∧ Inc H176 H ∧ f 0 = Value.int .i64 a0 ∧ f 2 = Value.int .i64 a2 ∧ f 4 = Value.pointer (some ⟨wa.heap.size, 0, none⟩) ∧ f 8 = v55 ∧ f 9 = Value.bool r49.2 ∧ f 11 = v89 ∧ f 69 = Value.bool (bif t175 then true else (!(r83.2 == r49.2)))) ?_ ?_
     ·
      rcases bcase t175 with c201 | c201
      ·
       refine FL.skip (wF_no rfl rfl rfl c201) rfl ?_
       refine FL.skip (wF_no rfl rfl rfl c201) rfl ?_
       refine FL.skip (wF_no rfl rfl rfl c201) rfl ?_
       refine FL.v (E.pickT rfl c201 rfl) ?_
       exact FL.nil ⟨rfl, _, S177, (Inc.rfl _), k188, k189, k190, k191, k192, k193, (congrArg Value.bool (bifT c201).symm)⟩
      ·
       refine FL.val (wF_yes rfl rfl rfl c201) rfl rfl (E.move k194) ?_
       refine FL.val (wF_yes rfl rfl rfl c201) rfl rfl (E.move k192) ?_
       refine FL.val (wF_yes rfl rfl rfl c201) rfl rfl (E.neqB Tryz.runUnderlying4 rfl rfl) ?_
       refine FL.v (E.pickF rfl c201 rfl) ?_
       exact FL.nil ⟨rfl, _, S177, (Inc.rfl _), k188, k189, k190, k191, k192, k193, (congrArg Value.bool (bifF c201).symm)⟩
     rintro f200 w199 ⟨H196, S197, i198, k202, k203, k204, k205, k206, k207, k208⟩
     refine FL.nil ?_
     rcases ifB hp with ⟨c209, hp⟩ | ⟨c209, hp⟩
     ·
      refine FW.condT k208 c209 ?_
      refine FW.seq (FW.region ?_)
      refine FL.v (E.assign (v := Value.bool false) rfl) ?_
      refine FL.nil ?_
      refine FW.ret ?_
      obtain rfl := Option.some.inj hp
      exact ⟨.inr rfl, res1 rfl rfl ⟨rfl, S197.back⟩⟩
     ·
      refine FW.condF k208 c209 ?_
      refine FW.skip (FW.seq (FW.region ?_))
      refine FL.v (E.assign (v := Value.int .i64 1) rfl) ?_
      refine FL.nil (FW.seq (FW.region ?_))
      refine FL.v (E.move k207) ?_
      refine FL.v (E.move (v := Value.int .i64 1) rfl) ?_
      refine FL.call rfl rfl rfl (E.call Tryz.call19 (A2 rfl rfl)) (w_laws_markIntSS S197 hs v89 r83.1 cs91 (f174.mono (sg_up (by omega) (i178.tr i198))) 1) ?_
      rintro e w211 ⟨H210, c216, rfl, S212, ns218, hb217, o214⟩
      refine ⟨_, rfl, ?_⟩
      have o215 := (f174.mono (sg_mono (hi := w86.heap.size) (i178.tr i198))).outside o214
      have ns218 := f174.span (eL_loc eI_flat) (by omega) ns218 hb217
      have h213 := ns218.rsl
      have f219 := f170.mono ((sg_mono (lo := wa.heap.size) (hi := wa.heap.size + 1) (i178.tr i198)).tr (sg_keep o215 (by omega)))
      have f220 := f171.mono ((bw_mono (hi := w52.heap.size) (i178.tr i198)).tr (bw_keep o215 (by omega)))
      refine FL.v (E.assign (v := Value.int .i64 ((PF.laws_markIntSS r83.1 1).2)) rfl) ?_
      refine FL.nil (FW.seq (FW.region ?_))
      refine FL.v (E.assign (v := Value.int .i64 1) rfl) ?_
      refine FL.nil (FW.seq (FW.region ?_))
      refine FL.v (E.move k207) ?_
      refine FL.v (E.move (v := Value.int .i64 1) rfl) ?_
      obtain ⟨r221, hr222, hp⟩ := bnd hp
      refine FL.call rfl rfl rfl (E.call Tryz.call20 (A2 rfl rfl)) (w_laws_heldIntSS S212.sl v89 ((PF.laws_markIntSS r83.1 1).1) (h213.mono sgI) 1 hr222) ?_
      rintro e w223 ⟨rfl, r224⟩
      refine ⟨_, rfl, ?_⟩
      have S225 := S212.call r224
      have z226 := r224.bel.size
      refine FL.v (E.assign (v := Value.int .i64 r221) rfl) ?_
      refine FL.nil (FW.seq (FW.seq (FW.region ?_)))
      refine FL.v (E.move (v := Value.int .i64 r221) rfl) ?_
      refine FL.v (E.lss rfl rfl) ?_
      refine FL.nil ?_
      rcases ifB hp with ⟨c227, hp⟩ | ⟨c227, hp⟩
      ·
       refine FW.condT rfl c227 ?_
       refine FW.seq (FW.region ?_)
       refine FL.v (E.assign (v := Value.bool false) rfl) ?_
       refine FL.nil ?_
       refine FW.ret ?_
       obtain rfl := Option.some.inj hp
       exact ⟨.inr rfl, res1 rfl rfl ⟨rfl, S225.back⟩⟩
      ·
       refine FW.condF rfl c227 ?_
       refine FW.skip (FW.seq (FW.seq (FW.region ?_)))
       refine FL.v (E.move (v := Value.int .i64 r221) rfl) ?_
       refine FL.v (E.move (v := Value.int .i64 ((PF.laws_markIntSS r83.1 1).2)) rfl) ?_
       refine FL.v (E.neq rfl rfl) ?_
       refine FL.nil ?_
       rcases ifB hp with ⟨c228, hp⟩ | ⟨c228, hp⟩
       ·
        refine FW.condT rfl c228 ?_
        refine FW.seq (FW.region ?_)
        refine FL.v (E.assign (v := Value.bool false) rfl) ?_
        refine FL.nil ?_
        refine FW.ret ?_
        obtain rfl := Option.some.inj hp
        exact ⟨.inr rfl, res1 rfl rfl ⟨rfl, S225.back⟩⟩
       ·
        refine FW.condF rfl c228 ?_
        refine FW.skip (FW.seq (FW.region ?_))
        refine FL.v (E.move k202) ?_
        refine FL.v (E.load k204 (run_loadA Tryz.isAgg24 Tryz.sizeOf24 ((f219.mono sgI).now S225.sl) rfl)) ?_
        obtain ⟨r229, hr230, hp⟩ := bnd hp
        refine FL.call rfl rfl rfl (E.call Tryz.call11 (A1 rfl)) (w_laws_toCnf S225.sl a1 v1_1 (p1_1.mono S212.inc) hr230) ?_
        rintro e w232 ⟨H231, v235, rfl, r234, ⟨c238, ns237⟩⟩
        refine ⟨_, rfl, ?_⟩
        have h236 := ns237.rsl
        have nv239 : New H210 c238 := New.of_up S225.sl (fun b hb => ns237.dom b (.inr hb))
        have nv240 : New H210 [v235] := New.of_up S225.sl h236.dom
        have S233 := S225.call r234
        have z241 := r234.bel.size
        have h236 := h236.mono (sg_of S233.sl)
        have ns237 := ns237.mono (sg_of S233.sl)
        refine FL.v (E.move k203) ?_
        obtain ⟨r242, hr243, hp⟩ := bnd hp
        refine FL.call rfl rfl rfl (E.call Tryz.call41 (A3 rfl rfl rfl)) (w_impl_ClausesInSpan S233.sl a0 r229 v235 (h236.mono sgI) a2 hr243) ?_
        rintro e w245 ⟨H244, v248, n249, cs250, rfl, r247, els251, nd252⟩
        refine ⟨_, rfl, ?_⟩
        have nv253 : New H231 cs250 := New.of_up S233.sl els251.dom
        obtain ⟨H254, r255, i256, ns259, nv258⟩ := r247.sealRowN (i := 0) (l' := []) rfl els251 nd252 (by decide) rfl
        have h257 := ns259.rsl
        have S246 := S233.call r255.run
        have z260 := r255.run.bel.size
        have h257 := h257.mono (sg_of S246.sl)
        have ns259 := ns259.mono (sg_of S246.sl)
        refine FL.v (E.move (v := Value.tuple #[v248, Value.bool r242.2]) rfl) ?_
        refine FL.v (E.extract (i := 0) rfl rfl) ?_
        refine FL.v (E.extract (i := 1) rfl rfl) ?_
        refine FL.v (E.assign (v := v248) rfl) ?_
        refine FL.v (E.assign (v := Value.bool r242.2) rfl) ?_
        refine FL.nil (FW.seq (FW.seq (FW.region ?_)))
        refine FL.v (E.move (v := v248) rfl) ?_
        refine FL.v (E.move k205) ?_
        obtain ⟨r261, hr262, hp⟩ := bnd hp
        refine FL.call rfl rfl rfl (E.call Tryz.call14 (A2 rfl rfl)) (w_laws_eqIntSS S246.sl v248 r242.1 (h257.mono sgI) v55 r49.1 (f220.mono (bwI.tr (r234.inc.tr r255.run.inc))) hr262) ?_
        rintro e w263 ⟨rfl, r264⟩
        refine ⟨_, rfl, ?_⟩
        have S265 := S246.call r264
        have z266 := r264.bel.size
        refine FL.v (E.not rfl) ?_
        refine FL.v (E.move (v := Value.bool (!r261)) rfl) ?_
        refine FL.cut 4 (fun f w => ∃ H : GH, St Ha wa H w [] ∧ Inc H254 H ∧ f 11 = v89 ∧ f 14 = Value.int .i64 ((PF.laws_markIntSS r83.1 1).2) ∧ f 97 = Value.bool (bif (!r261) then true else (!(r242.2 == r49.2)))) ?_ ?_
        ·
         rcases bcase (!r261) with c272 | c272
         ·
          refine FL.skip (wF_no rfl rfl rfl c272) rfl ?_
          refine FL.skip (wF_no rfl rfl rfl c272) rfl ?_
          refine FL.skip (wF_no rfl rfl rfl c272) rfl ?_
          refine FL.v (E.pickT rfl c272 rfl) ?_
          exact FL.nil ⟨rfl, _, S265, (Inc.rfl _), k207, rfl, (congrArg Value.bool (bifT c272).symm)⟩
         ·
          refine FL.val (wF_yes rfl rfl rfl c272) rfl rfl (E.move (v := Value.bool r242.2) rfl) ?_
          refine FL.val (wF_yes rfl rfl rfl c272) rfl rfl (E.move k206) ?_
          refine FL.val (wF_yes rfl rfl rfl c272) rfl rfl (E.neqB Tryz.runUnderlying4 rfl rfl) ?_
          refine FL.v (E.pickF rfl c272 rfl) ?_
          exact FL.nil ⟨rfl, _, S265, (Inc.rfl _), k207, rfl, (congrArg Value.bool (bifF c272).symm)⟩
        rintro f271 w270 ⟨H267, S268, i269, k273, k274, k275⟩
        refine FL.nil ?_
        rcases ifB hp with ⟨c276, hp⟩ | ⟨c276, hp⟩
        ·
         refine FW.condT k275 c276 ?_
         refine FW.seq (FW.region ?_)
         refine FL.v (E.assign (v := Value.bool false) rfl) ?_
         refine FL.nil ?_
         refine FW.ret ?_
         obtain rfl := Option.some.inj hp
         exact ⟨.inr rfl, res1 rfl rfl ⟨rfl, S268.back⟩⟩
        ·
         refine FW.condF k275 c276 ?_
         refine FW.skip (FW.seq (FW.region ?_))
         refine FL.v (E.assign (v := Value.int .i64 1) rfl) ?_
         refine FL.nil (FW.seq (FW.region ?_))
         refine FL.v (E.move k273) ?_
         refine FL.v (E.move (v := Value.int .i64 1) rfl) ?_
         obtain ⟨r277, hr278, hp⟩ := bnd hp
         refine FL.call rfl rfl rfl (E.call Tryz.call20 (A2 rfl rfl)) (w_laws_heldIntSS S268.sl v89 ((PF.laws_markIntSS r83.1 1).1) (h213.mono (sgI.tr ((r234.inc.tr r255.run.inc).tr i269))) 1 hr278) ?_
         rintro e w279 ⟨rfl, r280⟩
         refine ⟨_, rfl, ?_⟩
         have S281 := S268.call r280
         have z282 := r280.bel.size
         refine FL.v (E.assign (v := Value.int .i64 r277) rfl) ?_
         refine FL.nil (FW.seq (FW.seq (FW.region ?_)))
         refine FL.v (E.move (v := Value.int .i64 r277) rfl) ?_
         refine FL.v (E.lss rfl rfl) ?_
         refine FL.nil ?_
         rcases ifB hp with ⟨c283, hp⟩ | ⟨c283, hp⟩
         ·
          refine FW.condT rfl c283 ?_
          refine FW.seq (FW.region ?_)
          refine FL.v (E.assign (v := Value.bool false) rfl) ?_
          refine FL.nil ?_
          refine FW.ret ?_
          obtain rfl := Option.some.inj hp
          exact ⟨.inr rfl, res1 rfl rfl ⟨rfl, S281.back⟩⟩
         ·
          refine FW.condF rfl c283 ?_
          refine FW.skip (FW.seq (FW.seq (FW.region ?_)))
          refine FL.v (E.move (v := Value.int .i64 r277) rfl) ?_
          refine FL.v (E.move k274) ?_
          refine FL.v (E.neq rfl rfl) ?_
          refine FL.nil ?_
          rcases ifB hp with ⟨c284, hp⟩ | ⟨c284, hp⟩
          ·
           refine FW.condT rfl c284 ?_
           refine FW.seq (FW.region ?_)
           refine FL.v (E.assign (v := Value.bool false) rfl) ?_
           refine FL.nil ?_
           refine FW.ret ?_
           obtain rfl := Option.some.inj hp
           exact ⟨.inr rfl, res1 rfl rfl ⟨rfl, S281.back⟩⟩
          ·
           refine FW.condF rfl c284 ?_
           refine FW.skip (FW.seq (FW.region ?_))
           refine FL.v (E.assign (v := Value.bool true) rfl) ?_
           refine FL.nil ?_
           refine FW.ret ?_
           obtain rfl := Option.some.inj hp
           exact ⟨.inr rfl, res1 rfl rfl ⟨rfl, S281.back⟩⟩

end Go.Proofs
