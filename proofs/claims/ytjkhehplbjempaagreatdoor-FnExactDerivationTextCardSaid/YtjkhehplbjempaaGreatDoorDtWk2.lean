/- Part of the walks and plain laws behind the claim: it proves helpers, under no condition beyond their own. -/
import Derived.Test.YtjkhehplbjempaaGreatDoorDtWk1
set_option linter.unusedVariables false
set_option maxRecDepth 100000
namespace Go.Proofs
open Go.Mr Go.Pu Go.PF Go.RowKit

theorem w_cmp_Or_int {Ha : GH} {wa : World} (hs : Sl Ha wa) (v0 : Value) (a0 : List Int) (p0 : RSl Ha eI 1 v0 a0) {r : Int} (hp : (PF.cmp_Or_int a0) = some r) :
  Calls Tryz.prog 116 #[v0] wa (Sc Ha wa (Value.int .i64 r)) := by
 unfold PF.cmp_Or_int at hp
 have S0 := St.init hs
 refine calls_go (N := 18) (args := [v0]) Tryz.func116 rfl rfl rfl ?_
 refine FW.seq (FW.region ?_)
 refine FL.v (E.assign (v := Value.int .i64 0) rfl) ?_
 refine FL.nil (FW.seq (FW.region ?_))
 refine FL.v (E.assign (v := Value.int .i64 0) rfl) ?_
 refine FL.nil (FW.seq (FW.seq (FW.region ?_)))
 refine FL.v (E.move (v := v0) rfl) ?_
 refine FL.v (E.lenP te48 rfl p0) ?_
 refine FL.v (E.move (v := Value.int .i64 0) rfl) ?_
 refine FL.nil ?_
 obtain ⟨q22, hq, hp⟩ := bndR hp
 refine FW.block ?_
 refine FW.mono (FW.forL (S := Unit) (X := Int) (fun (i22 : Nat) (s22 : Unit) f w => ∃ H : GH, St Ha wa H w [] ∧ Inc Ha H ∧ f 8 = Value.int .i64 ((i22 : Nat) : Int) ∧ f 3 = Value.int .i64 0 ∧ f 6 = v0 ∧ f 7 = Value.int .i64 (len a0)) (fun q e f w => match q with | .go s22 => e = Exit.exit 0 ∧ (∃ H : GH, St Ha wa H w [] ∧ Inc Ha H ∧ f 3 = Value.int .i64 0) | .rt x => ((e = Exit.ret) ∧ (fun e f w => (e = Exit.normal ∨ e = Exit.ret) ∧ ∀ a, Fr (δ := []) 18 a f → ∃ v, (results Tryz.f116 a.tmps).run Tryz.prog w = .ok v w ∧ (Sc Ha wa (Value.int .i64 x)) (.returned v) w) e f w)) hq ⟨_, S0, (Inc.rfl _), rfl, rfl, rfl, rfl⟩ ?_ ?_) ?_
 ·
  clear hp hq
  rintro i22 y21 s22 f43 w42 ⟨H39, S40, i41, k44, k45, k46, k47⟩ hx22 o55 hp
  refine FW.seq (FW.region ?_)
  refine FL.v (E.lssT k44 k47 (lss_len hx22)) ?_
  refine FL.nil (FW.seq ?_)
  refine FW.condT rfl rfl ?_
  refine FW.skip (FW.seq (FW.block (FW.seq (FW.region ?_))))
  obtain ⟨p48, cs49, pt50, l51, at52, rel53⟩ := p0.at (ix_nat hx22)
  obtain rfl := eI_open rel53
  refine FL.v (E.indexAddr te48 k46 k44 pt50) ?_
  refine FL.v (E.load rfl (run_load0 Tryz.isAgg3 ((at52.mono i41).now S40.sl) rfl)) ?_
  refine FL.v (E.assign (v := Value.int .i64 y21) rfl) ?_
  refine FL.nil (FW.seq (FW.region ?_))
  refine FL.v (E.move (v := Value.int .i64 y21) rfl) ?_
  refine FL.v (E.move k45) ?_
  refine FL.v (E.neq rfl rfl) ?_
  refine FL.nil ?_
  rcases ifB hp with ⟨c54, hp⟩ | ⟨c54, hp⟩
  ·
   refine FW.condT rfl c54 ?_
   refine FW.seq (FW.region ?_)
   refine FL.v (E.move (v := Value.int .i64 y21) rfl) ?_
   refine FL.v (E.assign (v := Value.int .i64 y21) rfl) ?_
   refine FL.nil ?_
   refine FW.ret ?_
   obtain rfl := Option.some.inj hp
   exact ⟨nofun, rfl, ⟨.inr rfl, res1 rfl rfl ⟨rfl, S40.back⟩⟩⟩
  ·
   refine FW.condF rfl c54 ?_
   refine FW.skip (FW.region ?_)
   refine FL.v (E.add k44 rfl) ?_
   refine FL.v (E.move (v := Value.int .i64 (wr (((i22 : Nat) : Int) + 1))) rfl) ?_
   refine FL.nil ?_
   obtain rfl := Option.some.inj hp
   exact ⟨rfl, ⟨_, S40, i41, (nat_succ rfl (lt_of_get hx22) (p0.mono i41).le), k45, k46, k47⟩⟩
 ·
  clear hp hq
  rintro s22 f66 w65 ⟨H62, S63, i64, k67, k68, k69, k70⟩
  refine FW.seq (FW.region ?_)
  refine FL.v (E.lss k67 k70) ?_
  refine FL.nil (FW.seq ?_)
  refine FW.condF rfl dlt_len ?_
  refine FW.exit ?_
  exact ⟨nofun, rfl, ⟨_, S63, i64, k68⟩⟩
 ·
  clear hq
  intro e f60 w59 hD
  rcases q22 with s22 | x22
  ·
   obtain ⟨rfl, hD⟩ := hD
   obtain ⟨H56, S57, i58, k61⟩ := hD
   replace hp := el_go hp
   refine FW.seq (FW.region ?_)
   refine FL.v (E.move k61) ?_
   refine FL.v (E.assign (v := Value.int .i64 0) rfl) ?_
   refine FL.nil ?_
   refine FW.ret ?_
   obtain rfl := Option.some.inj hp
   exact ⟨.inr rfl, res1 rfl rfl ⟨rfl, S57.back⟩⟩
  ·
   obtain ⟨he, hL⟩ := hD
   replace hp := el_rt hp
   obtain rfl := Option.some.inj hp
   subst he
   exact hL

theorem w_impl_compareLiterals {Ha : GH} {wa : World} (hs : Sl Ha wa) (a0 : Int) (a1 : Int) {r : Int} (hp : (PF.impl_compareLiterals a0 a1) = some r) :
  Calls Tryz.prog 104 #[Value.int .i64 a0, Value.int .i64 a1] wa (Sc Ha wa (Value.int .i64 r)) := by
 unfold PF.impl_compareLiterals at hp
 have S0 := St.init hs
 refine calls_go (N := 15) (args := [Value.int .i64 a0, Value.int .i64 a1]) Tryz.func104 rfl rfl rfl ?_
 refine FW.seq (FW.region ?_)
 refine FL.v (E.assign (v := Value.int .i64 0) rfl) ?_
 refine FL.nil (FW.seq (FW.region ?_))
 refine FL.v (E.move (v := Value.int .i64 a0) rfl) ?_
 refine FL.call rfl rfl rfl (E.call Tryz.call73 (A1 rfl)) (w_impl_abs S0.sl a0) ?_
 rintro e w21 ⟨rfl, r22⟩
 refine ⟨_, rfl, ?_⟩
 have S23 := S0.call r22
 refine FL.v (E.move (v := Value.int .i64 a1) rfl) ?_
 refine FL.call rfl rfl rfl (E.call Tryz.call73 (A1 rfl)) (w_impl_abs S23.sl a1) ?_
 rintro e w24 ⟨rfl, r25⟩
 refine ⟨_, rfl, ?_⟩
 have S26 := S23.call r25
 refine FL.call rfl rfl rfl (E.call Tryz.call117 (A2 rfl rfl)) (w_cmp_Compare_int S26.sl (PF.impl_abs a0) (PF.impl_abs a1)) ?_
 rintro e w27 ⟨rfl, r28⟩
 refine ⟨_, rfl, ?_⟩
 have S29 := S26.call r28
 refine FL.v (E.move (v := Value.int .i64 a1) rfl) ?_
 refine FL.v (E.move (v := Value.int .i64 a0) rfl) ?_
 refine FL.call rfl rfl rfl (E.call Tryz.call117 (A2 rfl rfl)) (w_cmp_Compare_int S29.sl a1 a0) ?_
 rintro e w30 ⟨rfl, r31⟩
 refine ⟨_, rfl, ?_⟩
 have S32 := S29.call r31
 obtain ⟨v33, w34, run35, S36⟩ := S32.buildSlice (P := Tryz.prog) te48 [Value.int .i64 (PF.cmp_Compare_int (PF.impl_abs a0) (PF.impl_abs a1)), Value.int .i64 (PF.cmp_Compare_int a1 a0)] (parts := #[(0, Value.int .i64 (PF.cmp_Compare_int (PF.impl_abs a0) (PF.impl_abs a1))), (1, Value.int .i64 (PF.cmp_Compare_int a1 a0))]) (cells := [Value.int .i64 (PF.cmp_Compare_int (PF.impl_abs a0) (PF.impl_abs a1)), Value.int .i64 (PF.cmp_Compare_int a1 a0)]) rfl (szs_cons rfl (szs_cons rfl szs_nil)) (fc_cons rfl (fc_cons rfl fc_nil)) (ones_cons rfl (ones_cons rfl ones_nil)) (Nat.le_of_ble_eq_true rfl)
 have els37 : Els (up wa.heap.size Ha) eI 1 [Value.int .i64 (PF.cmp_Compare_int (PF.impl_abs a0) (PF.impl_abs a1)), Value.int .i64 (PF.cmp_Compare_int a1 a0)] [(PF.cmp_Compare_int (PF.impl_abs a0) (PF.impl_abs a1)), (PF.cmp_Compare_int a1 a0)] := (Els.snoc (H := (up wa.heap.size Ha)) (E := eI) (k := 1) (c := [Value.int .i64 (PF.cmp_Compare_int a1 a0)]) (x := (PF.cmp_Compare_int a1 a0)) (Els.snoc (H := (up wa.heap.size Ha)) (E := eI) (k := 1) (c := [Value.int .i64 (PF.cmp_Compare_int (PF.impl_abs a0) (PF.impl_abs a1))]) (x := (PF.cmp_Compare_int (PF.impl_abs a0) (PF.impl_abs a1))) Els.nil rfl rfl) rfl rfl)
 refine FL.v (E.buildSlice (B2 rfl rfl) run35) ?_
 obtain ⟨H38, S39, i40, h41, nv42⟩ := S36.sealRowU (i := 0) (l' := []) rfl els37 (by decide) rfl
 obtain ⟨r43, hr44, hp⟩ := bnd hp
 refine FL.call rfl rfl rfl (E.call Tryz.call116 (A1 rfl)) (w_cmp_Or_int S39.sl v33 [(PF.cmp_Compare_int (PF.impl_abs a0) (PF.impl_abs a1)), (PF.cmp_Compare_int a1 a0)] (h41.mono upI) hr44) ?_
 rintro e w45 ⟨rfl, r46⟩
 refine ⟨_, rfl, ?_⟩
 have r46 := Run.lend i40 S36.sl r46
 have S47 := S36.call r46
 refine FL.v (E.assign (v := Value.int .i64 r43) rfl) ?_
 refine FL.nil ?_
 refine FW.ret ?_
 obtain rfl := Option.some.inj hp
 exact ⟨.inr rfl, res1 rfl rfl ⟨rfl, S47.back⟩⟩

@[reducible] def p_slices_Compact_int_int (H0 : GH) (w0 : World) (Ha : GH) (L : List MO) (r : (List Int)) : Ending → World → Prop :=
 fun e w' => ∃ H' : GH, ∃ v0r : Value, ∃ n0r : Nat, ∃ c0r : List Value, e = .returned (v0r) ∧ (St H0 w0 H' w' (.row 3 1 v0r n0r c0r :: L) ∧ Inc Ha H') ∧ Els (up w0.heap.size H') eI 1 c0r r
theorem w_slices_Compact_int_int {H0 Ha : GH} {w0 wa : World} {L : List MO} {v0 : Value} {n0 : Nat} {k0 : List Value} (S0 : St H0 w0 Ha wa (.row 3 1 v0 n0 k0 :: L)) (a0 : List Int) (p0 : Els (up w0.heap.size Ha) eI 1 k0 a0) {r : (List Int)} (hp : (PF.slices_Compact_int_int a0) = some r) :
  Calls Tryz.prog 105 #[v0] wa (p_slices_Compact_int_int H0 w0 Ha L r) := by
 cases hp
 refine (St.compactF (l := .row 3 1 v0 n0 k0 :: L) (i := 0) S0 rfl p0 (enc := Value.int .i64) (fun _ => rfl) (fun _ _ _ h => by cases eI_open h; rfl) (fun _ _ => rfl) 0 (fun w => compact_none Tryz.comp105 w) (fun blk off cap d w hH hs hc => AnyE.slices_Compact Tryz.comp105 (Value.int .i64) (fun _ => rfl) (EqlAt.intD _ _ _) (NeqAt.intD _ _ _) 0 (fun w => Tryz.zeroValue3 w) blk off cap d w hH hs hc)).mono ?_
 rintro e w' ⟨v', n', c', rfl, h1, h2⟩
 exact ⟨_, _, _, _, rfl, ⟨h1, Inc.rfl _⟩, h2⟩

@[reducible] def p_impl_clause (Ha : GH) (wa : World) (r : ((List Int) × Bool)) : Ending → World → Prop :=
 fun e w' => ∃ H' : GH, ∃ v0 : Value, ∃ n0 : Nat, ∃ c0 : List Value, e = .returned (Value.tuple #[v0, Value.bool r.2]) ∧ St Ha wa H' w' [.row 3 1 v0 n0 c0] ∧ Els (up wa.heap.size H') eI 1 c0 r.1
theorem w_impl_clause {Ha : GH} {wa : World} (hs : Sl Ha wa) (v0 : Value) (a0 : List Int) (p0 : RSl Ha eI 1 v0 a0) {r : ((List Int) × Bool)} (hp : (PF.impl_clause a0) = some r) :
  Calls Tryz.prog 90 #[v0] wa (p_impl_clause Ha wa r) := by
 unfold PF.impl_clause at hp
 have S0 := St.init hs
 refine calls_go (N := 30) (args := [v0]) Tryz.func90 rfl rfl rfl ?_
 refine FW.seq (FW.region ?_)
 refine FL.v (E.assign (v := Value.slice none 0 0) rfl) ?_
 refine FL.v (E.assign (v := Value.bool false) rfl) ?_
 refine FL.nil (FW.seq (FW.region ?_))
 refine FL.v (E.move (v := v0) rfl) ?_
 obtain ⟨r21, hr22, hp⟩ := bnd hp
 refine FL.call rfl rfl rfl (E.call Tryz.call102 (A1 rfl)) (w_slices_Clone_int_int S0.sl v0 a0 p0 hr22) ?_
 rintro e w24 ⟨H23, v27, n28, cs29, rfl, r26, els30⟩
 refine ⟨_, rfl, ?_⟩
 have els30 := els30.mono (up_le S0.size)
 have S25 := S0.join (l' := [.row 3 1 v27 n28 cs29]) r26 rfl
 refine FL.v (E.assign (v := v27) rfl) ?_
 refine FL.nil (FW.seq (FW.region ?_))
 refine FL.v (E.move (v := v27) rfl) ?_
 obtain ⟨r31, hr32, hp⟩ := bnd hp
 refine FL.call rfl rfl rfl (E.call Tryz.call103 (A2 rfl rfl)) (w_slices_SortFunc_int_int (L := []) S25 r21 els30 (Value.func (.func 104) #[] #[]) (fun x0 x1 => PF.impl_compareLiterals x0 x1) (fun H2 w2 hi2 hs2 x0 x1 r hr => ⟨104, #[], rfl, Tryz.call104, w_impl_compareLiterals hs2 x0 x1  hr⟩) hr32) ?_
 rintro e w34 ⟨H33, cs37, rfl, ⟨S35, i36⟩, els38⟩
 refine ⟨_, rfl, ?_⟩
 have S35 : St Ha wa H33 w34 [.row 3 1 v27 n28 cs37] := S35
 refine FL.nil (FW.seq (FW.region ?_))
 refine FL.v (E.move (v := v27) rfl) ?_
 obtain ⟨r39, hr40, hp⟩ := bnd hp
 refine FL.call rfl rfl rfl (E.call Tryz.call105 (A1 rfl)) (w_slices_Compact_int_int (L := []) S35 r31 els38 hr40) ?_
 rintro e w42 ⟨H41, v45, n46, cs47, rfl, ⟨S43, i44⟩, els48⟩
 refine ⟨_, rfl, ?_⟩
 have S43 : St Ha wa H41 w42 [.row 3 1 v45 n46 cs47] := S43
 refine FL.v (E.assign (v := v45) rfl) ?_
 refine FL.nil (FW.seq (FW.seq (FW.region ?_)))
 refine FL.v (E.assign (v := Value.int .i64 1) rfl) ?_
 refine FL.nil ?_
 obtain ⟨q49, hq, hp⟩ := bndR hp
 refine FW.block ?_
 refine FW.mono (FW.iter (S := Int) (X := ((List Int) × Bool)) (fun (s49 : Int) f w => ∃ H : GH, St Ha wa H w [.row 3 1 v45 n46 cs47] ∧ Inc H41 H ∧ f 4 = v45 ∧ f 5 = Value.int .i64 s49) (fun q e f w => match q with | .go s49 => e = Exit.exit 0 ∧ (∃ H : GH, St Ha wa H w [.row 3 1 v45 n46 cs47] ∧ Inc H41 H ∧ f 4 = v45) | .rt x => ((e = Exit.ret) ∧ (fun e f w => (e = Exit.normal ∨ e = Exit.ret) ∧ ∀ a, Fr (δ := []) 30 a f → ∃ v, (results Tryz.f90 a.tmps).run Tryz.prog w = .ok v w ∧ (p_impl_clause Ha wa x) (.returned v) w) e f w)) hq ⟨_, S43, (Inc.rfl _), rfl, rfl⟩ ?_) ?_
 ·
  clear hp hq
  rintro s49 f83 w82 ⟨H79, S80, i81, k84, k85⟩ o108 hp
  refine FW.seq (FW.seq (FW.region ?_))
  refine FL.v (E.move k85) ?_
  refine FL.v (E.move k84) ?_
  refine FL.v (E.lenO te48 rfl S80 (i := 0) rfl els48 (by decide)) ?_
  refine FL.v (E.lss rfl rfl) ?_
  refine FL.nil ?_
  rcases ifB hp with ⟨c86, hp⟩ | ⟨c86, hp⟩
  ·
   refine FW.condT rfl c86 ?_
   refine FW.skip (FW.seq (FW.block (FW.seq ?_)))
   refine FW.draw (fun w' => Run w82.heap.size H79 w82 H79 w') (by kernel_rfl) (by kernel_rfl) (run_drew S80.sl) ?_
   refine FD.val rfl rfl rfl (fun w' hw' => (E.move k84)) ?_
   refine FD.val rfl rfl rfl (fun w' hw' => (E.move k85)) ?_
   obtain ⟨x94, hx95, hp⟩ := bnd hp
   obtain ⟨p88, cs89, pt90, l91, at92, rel93⟩ := S80.row_at (i := 0) rfl els48 (by decide) hx95
   obtain rfl := eI_open rel93
   refine FD.val rfl rfl rfl (fun w' hw' => (E.indexAddr te48 rfl rfl pt90)) ?_
   refine FD.val rfl rfl rfl (fun w' hw' => (E.load rfl (run_load0 Tryz.isAgg3 (at92.cls hw') rfl))) ?_
   refine FD.val rfl rfl rfl (fun w' hw' => (E.move k84)) ?_
   refine FD.val rfl rfl rfl (fun w' hw' => (E.move k85)) ?_
   refine FD.val rfl rfl rfl (fun w' hw' => (E.sub rfl rfl)) ?_
   obtain ⟨x102, hx103, hp⟩ := bnd hp
   obtain ⟨p96, cs97, pt98, l99, at100, rel101⟩ := S80.row_at (i := 0) rfl els48 (by decide) hx103
   obtain rfl := eI_open rel101
   refine FD.val rfl rfl rfl (fun w' hw' => (E.indexAddr te48 rfl rfl pt98)) ?_
   refine FD.val rfl rfl rfl (fun w' hw' => (E.load rfl (run_load0 Tryz.isAgg3 (at100.cls hw') rfl))) ?_
   refine FD.val rfl rfl rfl (fun w' hw' => (E.neg rfl)) ?_
   refine FD.val rfl rfl rfl (fun w' hw' => (E.eql rfl rfl)) ?_
   refine FD.nil ?_
   intro w104 r106
   have S105 := S80.call r106
   rcases ifB hp with ⟨c107, hp⟩ | ⟨c107, hp⟩
   ·
    refine FW.condT rfl c107 ?_
    refine FW.seq (FW.region ?_)
    refine FL.v (E.assign (v := Value.slice none 0 0) rfl) ?_
    refine FL.v (E.assign (v := Value.bool false) rfl) ?_
    refine FL.nil ?_
    refine FW.ret ?_
    obtain rfl := Option.some.inj hp
    exact ⟨nofun, rfl, ⟨.inr rfl, res2 rfl rfl rfl ⟨_, _, _, _, rfl, ((S105.nil 3 1).sel [0] (by decide) rfl), Els.nil⟩⟩⟩
   ·
    refine FW.condF rfl c107 ?_
    refine FW.skip (FW.region ?_)
    refine FL.v (E.move k85) ?_
    refine FL.v (E.add rfl rfl) ?_
    refine FL.v (E.assign (v := Value.int .i64 (wr (s49 + 1))) rfl) ?_
    refine FL.nil ?_
    obtain rfl := Option.some.inj hp
    exact ⟨rfl, ⟨_, S105, i81, k84, rfl⟩⟩
  ·
   refine FW.condF rfl c86 ?_
   refine FW.exit ?_
   obtain rfl := Option.some.inj hp
   exact ⟨nofun, rfl, ⟨_, S80, i81, k84⟩⟩
 ·
  clear hq
  intro e f113 w112 hD
  rcases q49 with s49 | x49
  ·
   obtain ⟨rfl, hD⟩ := hD
   obtain ⟨H109, S110, i111, k114⟩ := hD
   replace hp := el_go hp
   refine FW.seq (FW.region ?_)
   refine FL.v (E.move k114) ?_
   refine FL.v (E.assign (v := v45) rfl) ?_
   refine FL.v (E.assign (v := Value.bool true) rfl) ?_
   refine FL.nil ?_
   refine FW.ret ?_
   obtain rfl := Option.some.inj hp
   exact ⟨.inr rfl, res2 rfl rfl rfl ⟨_, _, _, _, rfl, S110, (els48.mono (up_mono i111))⟩⟩
  ·
   obtain ⟨he, hL⟩ := hD
   replace hp := el_rt hp
   obtain rfl := Option.some.inj hp
   subst he
   exact hL

@[reducible] def p_impl_resolve (Ha : GH) (wa : World) (r : ((List Int) × Bool)) : Ending → World → Prop :=
 fun e w' => ∃ H' : GH, ∃ v0 : Value, ∃ n0 : Nat, ∃ c0 : List Value, e = .returned (Value.tuple #[v0, Value.bool r.2]) ∧ St Ha wa H' w' [.row 3 1 v0 n0 c0] ∧ Els (up wa.heap.size H') eI 1 c0 r.1
theorem w_impl_resolve {Ha : GH} {wa : World} (hs : Sl Ha wa) (v0 : Value) (a0 : List Int) (p0 : RSl Ha eI 1 v0 a0) (v1 : Value) (a1 : List Int) (p1 : RSl Ha eI 1 v1 a1) (a2 : Int) {r : ((List Int) × Bool)} (hp : (PF.impl_resolve a0 a1 a2) = some r) :
  Calls Tryz.prog 78 #[v0, v1, Value.int .i64 a2] wa (p_impl_resolve Ha wa r) := by
 unfold PF.impl_resolve at hp
 have S0 := St.init hs
 refine calls_go (N := 30) (args := [v0, v1, Value.int .i64 a2]) Tryz.func78 rfl rfl rfl ?_
 refine FW.seq (FW.region ?_)
 refine FL.v (E.assign (v := Value.slice none 0 0) rfl) ?_
 refine FL.v (E.assign (v := Value.bool false) rfl) ?_
 refine FL.nil (FW.seq (FW.seq (FW.region ?_)))
 refine FL.v (E.move (v := v0) rfl) ?_
 refine FL.v (E.move (v := Value.int .i64 a2) rfl) ?_
 obtain ⟨r21, hr22, hp⟩ := bnd hp
 refine FL.call rfl rfl rfl (E.call Tryz.call89 (A2 rfl rfl)) (w_slices_Contains_int_int S0.sl v0 a0 p0 a2 hr22) ?_
 rintro e w23 ⟨rfl, r24⟩
 refine ⟨_, rfl, ?_⟩
 have S25 := S0.call r24
 refine FL.v (E.not rfl) ?_
 refine FL.v (E.move (v := Value.bool (!r21)) rfl) ?_
 obtain ⟨t31, hqt31, hp⟩ := bnd hp
 refine FL.cut 6 (fun f w => ∃ H : GH, St Ha wa H w [] ∧ Inc Ha H ∧ f 0 = v0 ∧ f 1 = v1 ∧ f 2 = Value.int .i64 a2 ∧ f 18 = Value.bool t31) ?_ ?_
 ·
  clear hp; have hp := hqt31; clear hqt31
  rcases ifB hp with ⟨c37, hp⟩ | ⟨c37, hp⟩
  ·
   refine FL.skip (wF_no rfl rfl rfl c37) rfl ?_
   refine FL.skip (wF_no rfl rfl rfl c37) rfl ?_
   refine FL.skip (wF_no rfl rfl rfl c37) rfl ?_
   refine FL.skip (wF_no rfl rfl rfl c37) rfl ?_
   refine FL.skip (wF_no rfl rfl rfl c37) rfl ?_
   obtain rfl := Option.some.inj hp
   refine FL.v (E.pickT rfl c37 rfl) ?_
   exact FL.nil ⟨rfl, _, S25, (Inc.rfl _), rfl, rfl, rfl, rfl⟩
  ·
   refine FL.val (wF_yes rfl rfl rfl c37) rfl rfl (E.move (v := v1) rfl) ?_
   refine FL.val (wF_yes rfl rfl rfl c37) rfl rfl (E.move (v := Value.int .i64 a2) rfl) ?_
   refine FL.val (wF_yes rfl rfl rfl c37) rfl rfl (E.neg rfl) ?_
   obtain ⟨r38, hr39, hp⟩ := bnd hp
   refine FL.call (wF_yes rfl rfl rfl c37) rfl rfl (E.call Tryz.call89 (A2 rfl rfl)) (w_slices_Contains_int_int S25.sl v1 a1 p1 (wr (-a2)) hr39) ?_
   rintro e w40 ⟨rfl, r41⟩
   refine ⟨_, rfl, ?_⟩
   have S42 := S25.call r41
   refine FL.val (wF_yes rfl rfl rfl c37) rfl rfl (E.not rfl) ?_
   obtain rfl := Option.some.inj hp
   refine FL.v (E.pickF rfl c37 rfl) ?_
   exact FL.nil ⟨rfl, _, S42, (Inc.rfl _), rfl, rfl, rfl, rfl⟩
 rintro f36 w35 ⟨H32, S33, i34, k43, k44, k45, k46⟩
 refine FL.nil ?_
 rcases ifB hp with ⟨c47, hp⟩ | ⟨c47, hp⟩
 ·
  refine FW.condT k46 c47 ?_
  refine FW.seq (FW.region ?_)
  refine FL.v (E.assign (v := Value.slice none 0 0) rfl) ?_
  refine FL.v (E.assign (v := Value.bool false) rfl) ?_
  refine FL.nil ?_
  refine FW.ret ?_
  obtain rfl := Option.some.inj hp
  exact ⟨.inr rfl, res2 rfl rfl rfl ⟨_, _, _, _, rfl, (S33.nil 3 1), Els.nil⟩⟩
 ·
  refine FW.condF k46 c47 ?_
  refine FW.skip (FW.seq (FW.region ?_))
  refine FL.v (E.move k43) ?_
  refine FL.v (E.move k45) ?_
  obtain ⟨r48, hr49, hp⟩ := bnd hp
  refine FL.call rfl rfl rfl (E.call Tryz.call92 (A2 rfl rfl)) (w_impl_withoutVar S33.sl v0 a0 (p0.mono i34) a2 hr49) ?_
  rintro e w51 ⟨H50, v54, n55, cs56, rfl, r53, els57⟩
  refine ⟨_, rfl, ?_⟩
  have els57 := els57.mono (up_le S33.size)
  have S52 := S33.join (l' := [.row 3 1 v54 n55 cs56]) r53 rfl
  refine FL.v (E.move k44) ?_
  refine FL.v (E.move k45) ?_
  obtain ⟨r58, hr59, hp⟩ := bnd hp
  refine FL.call rfl rfl rfl (E.call Tryz.call92 (A2 rfl rfl)) (w_impl_withoutVar S52.sl v1 a1 (p1.mono (i34.tr r53.run.inc)) a2 hr59) ?_
  rintro e w61 ⟨H60, v64, n65, cs66, rfl, r63, els67⟩
  refine ⟨_, rfl, ?_⟩
  have els67 := els67.mono (up_le S52.size)
  have S62 := S52.join (l' := [.row 3 1 v64 n65 cs66, .row 3 1 v54 n55 cs56]) r63 rfl
  obtain ⟨H68, S69, i70, h71, nv72⟩ := S62.sealRowU (i := 1) (l' := [.row 3 1 v64 n65 cs66]) rfl (els57.mono (up_mono r63.run.inc)) (by decide) rfl
  obtain ⟨H73, S74, i75, h76, nv77⟩ := S69.sealRowU (i := 0) (l' := []) rfl (els67.mono (up_mono i70)) (by decide) rfl
  obtain ⟨v78, w79, run80, S81⟩ := S74.buildSlice (P := Tryz.prog) te22 [v54, v64] (parts := #[(0, v54), (1, v64)]) (cells := [v54, v64]) rfl (szs_cons (cells_size h71.cells) (szs_cons (cells_size h76.cells) szs_nil)) (fc_cons h71.cells (fc_cons h76.cells fc_nil)) (ones_cons h71.one (ones_cons h76.one ones_nil)) (Nat.le_of_ble_eq_true rfl)
  have els82 : Els (up wa.heap.size H73) (eL eI 1) 1 [v54, v64] [r48, r58] := (Els.snoc (H := (up wa.heap.size H73)) (E := (eL eI 1)) (k := 1) (c := [v64]) (x := r58) (Els.snoc (H := (up wa.heap.size H73)) (E := (eL eI 1)) (k := 1) (c := [v54]) (x := r48) Els.nil rfl ⟨_, rfl, (h71.mono (up_mono i75))⟩) rfl ⟨_, rfl, h76⟩)
  refine FL.v (E.buildSlice (B2 rfl rfl) run80) ?_
  obtain ⟨H83, S84, i85, h86, nv87⟩ := S81.sealRowU (i := 0) (l' := []) rfl els82 (by decide) rfl
  obtain ⟨r88, hr89, hp⟩ := bnd hp
  refine FL.call rfl rfl rfl (E.call Tryz.call91 (A1 rfl)) (w_slices_Concat_int_int S84.sl v78 [r48, r58] (h86.mono upI) hr89) ?_
  rintro e w91 ⟨H90, v96, n97, cs98, rfl, r93, els99⟩
  refine ⟨_, rfl, ?_⟩
  obtain ⟨H94, r93, hU95⟩ := St.lendX i85 S81.sl r93
  have els99 := els99.mono (hU95.tr (up_le S81.size))
  have S92 := S81.join (l' := [.row 3 1 v96 n97 cs98, .row 48 1 v78 2 [v54, v64]]) r93 rfl
  obtain ⟨H100, S101, i102, h103, nv104⟩ := S92.sealRowU (i := 0) (l' := [.row 48 1 v78 2 [v54, v64]]) rfl els99 (by decide) rfl
  obtain ⟨r105, hr106, hp⟩ := bnd hp
  refine FL.call rfl rfl rfl (E.call Tryz.call90 (A1 rfl)) (w_impl_clause S101.sl v96 r88 (h103.mono upI) hr106) ?_
  rintro e w108 ⟨H107, v113, n114, cs115, rfl, r110, els116⟩
  refine ⟨_, rfl, ?_⟩
  obtain ⟨H111, r110, hU112⟩ := St.lendX i102 S92.sl r110
  have els116 := els116.mono (hU112.tr (up_le S92.size))
  have S109 := S92.join (l' := [.row 3 1 v113 n114 cs115, .row 3 1 v96 n97 cs98, .row 48 1 v78 2 [v54, v64]]) r110 rfl
  refine FL.v (E.extract (i := 0) rfl rfl) ?_
  refine FL.v (E.extract (i := 1) rfl rfl) ?_
  refine FL.v (E.assign (v := v113) rfl) ?_
  refine FL.v (E.assign (v := Value.bool r105.2) rfl) ?_
  refine FL.nil ?_
  refine FW.ret ?_
  obtain rfl := Option.some.inj hp
  exact ⟨.inr rfl, res2 rfl rfl rfl ⟨_, _, _, _, rfl, (S109.sel [0] (by decide) rfl), els116⟩⟩

set_option maxHeartbeats 4000000 in
theorem w_impl_correct {Ha : GH} {wa : World} (hs : Sl Ha wa) (a0 : Cnf) (v0_1 : Value) (p0_1 : RSl Ha (eL eI 1) 1 v0_1 a0.clauses) (v1 : Value) (a1 : List ResStep) (p1 : RSl Ha eResStep 4 v1 a1) (a2 : Int) {r : Bool} (hp : (PF.impl_correct a0 a1 a2) = some r) :
  Calls Tryz.prog 58 #[Value.agg #[Value.int .i64 a0.vars, v0_1], v1, Value.int .i64 a2] wa (Sc Ha wa (Value.bool r)) := by
 unfold PF.impl_correct at hp
 have S0 := St.init hs
 refine calls_go (N := 105) (args := [Value.agg #[Value.int .i64 a0.vars, v0_1], v1, Value.int .i64 a2]) Tryz.func58 rfl rfl rfl ?_
 refine FW.seq (FW.region ?_)
 obtain ⟨b21, w22, run23, S24⟩ := S0.box (P := Tryz.prog) 30 [Value.int .i64 a0.vars, v0_1] (v := Value.agg #[Value.int .i64 a0.vars, v0_1]) rfl (ones_cons rfl (ones_cons p0_1.one ones_nil))
 refine FL.v (E.box rfl run23) ?_
 obtain ⟨H25, S26, i27, at28⟩ := S24.sealBox (i := 0) (l' := []) rfl rfl
 refine FL.v (E.assign (v := Value.bool false) rfl) ?_
 refine FL.nil (FW.seq (FW.region ?_))
 refine FL.v (E.move (v := v1) rfl) ?_
 refine FL.v (E.move (v := Value.int .i64 a2) rfl) ?_
 obtain ⟨x35, hx36, hp⟩ := bnd hp
 obtain ⟨p29, cs30, pt31, l32, at33, rel34⟩ := p1.at hx36
 obtain ⟨v37, rfl, h38⟩ := eResStep_open rel34
 refine FL.v (E.indexAddr te32 rfl rfl pt31) ?_
 refine FL.v (E.load rfl (run_loadA Tryz.isAgg52 Tryz.sizeOf52 ((at33.mono i27).now S26.sl) rfl)) ?_
 obtain ⟨b39, w40, run41, S42⟩ := S26.alloc (P := Tryz.prog) 52 [Value.slice none 0 0, Value.int .i64 0, Value.int .i64 0, Value.int .i64 0] Tryz.zeroValue52 rfl (ones_cons rfl (ones_cons rfl (ones_cons rfl (ones_cons rfl ones_nil))))
 refine FL.v (E.alloc run41) ?_
 obtain ⟨w43, run44, S45⟩ := S42.store0 (P := Tryz.prog) (t := 52) (i := 0) (cs' := [v37, Value.int .i64 x35.left, Value.int .i64 x35.right, Value.int .i64 x35.pivot]) (l' := [.box b39 52 [v37, Value.int .i64 x35.left, Value.int .i64 x35.right, Value.int .i64 x35.pivot]]) (v := Value.agg #[v37, Value.int .i64 x35.left, Value.int .i64 x35.right, Value.int .i64 x35.pivot]) (c := [v37, Value.int .i64 x35.left, Value.int .i64 x35.right, Value.int .i64 x35.pivot]) rfl Tryz.sizeOf52 rfl rfl (ones_cons h38.one (ones_cons rfl (ones_cons rfl (ones_cons rfl ones_nil)))) (Nat.le_of_ble_eq_true rfl) rfl rfl
 refine FL.act rfl rfl (E.store rfl rfl run44) ?_
 obtain ⟨H46, S47, i48, at49⟩ := S45.sealBox (i := 0) (l' := []) rfl rfl
 refine FL.nil (FW.seq (FW.seq (FW.region ?_)))
 refine FL.v (E.fieldAddr tf30_0 rfl) ?_
 refine FL.v (E.load rfl (run_load1 Tryz.isAgg3 ((at28.mono i48).now S47.sl) rfl)) ?_
 refine FL.v (E.fieldAddr tf52_0 rfl) ?_
 refine FL.v (E.load rfl (run_load1 Tryz.isAgg48 (at49.now S47.sl) rfl)) ?_
 obtain ⟨r50, hr51, hp⟩ := bnd hp
 refine FL.call rfl rfl rfl (E.call Tryz.call57 (A2 rfl rfl)) (w_impl_IsClause S47.sl a0.vars v37 x35.clause (h38.mono (i27.tr i48)) hr51) ?_
 rintro e w52 ⟨rfl, r53⟩
 refine ⟨_, rfl, ?_⟩
 have S54 := S47.call r53
 refine FL.v (E.not rfl) ?_
 refine FL.nil ?_
 rcases ifB hp with ⟨c55, hp⟩ | ⟨c55, hp⟩
 ·
  refine FW.condT rfl c55 ?_
  refine FW.seq (FW.region ?_)
  refine FL.v (E.assign (v := Value.bool false) rfl) ?_
  refine FL.nil ?_
  refine FW.ret ?_
  obtain rfl := Option.some.inj hp
  exact ⟨.inr rfl, res1 rfl rfl ⟨rfl, S54.back⟩⟩
 ·
  refine FW.condF rfl c55 ?_
  refine FW.skip (FW.seq (FW.seq (FW.region ?_)))
  refine FL.v (E.fieldAddr tf52_1 rfl) ?_
  refine FL.v (E.load rfl (run_load1 Tryz.isAgg3 (at49.now S54.sl) rfl)) ?_
  refine FL.v (E.eql rfl rfl) ?_
  refine FL.nil ?_
  rcases ifB hp with ⟨c56, hp⟩ | ⟨c56, hp⟩
  ·
   refine FW.condT rfl c56 ?_
   refine FW.seq ?_
   refine FW.draw (fun w' => Run w52.heap.size H46 w52 H46 w') (by kernel_rfl) (by kernel_rfl) (run_drew S54.sl) ?_
   refine FD.val rfl rfl rfl (fun w' hw' => (E.fieldAddr tf52_3 rfl)) ?_
   refine FD.val rfl rfl rfl (fun w' hw' => (E.load rfl (run_load1 Tryz.isAgg3 (at49.now (S54.call hw').sl) rfl))) ?_
   refine FD.val rfl rfl rfl (fun w' hw' => (E.eql rfl rfl)) ?_
   refine FD.val rfl rfl rfl (fun w' hw' => (E.move (v := Value.bool (x35.pivot == 0)) rfl)) ?_
   refine FD.cut 8 (fun f => f 3 = Value.pointer (some ⟨b21, 0, none⟩) ∧ f 7 = Value.pointer (some ⟨b39, 0, none⟩) ∧ f 36 = Value.bool (bif (x35.pivot == 0) then (PF.impl_within x35.right 0 (wr ((len a0.clauses) - 1))) else false)) ?_ ?_
   ·
    rcases bcase (x35.pivot == 0) with c64 | c64
    ·
     refine FD.val (wF_yes rfl rfl rfl c64) rfl rfl (fun w' hw' => (E.fieldAddr tf52_2 rfl)) ?_
     refine FD.val (wF_yes rfl rfl rfl c64) rfl rfl (fun w' hw' => (E.load rfl (run_load1 Tryz.isAgg3 (at49.now (S54.call hw').sl) rfl))) ?_
     refine FD.val (wF_yes rfl rfl rfl c64) rfl rfl (fun w' hw' => (E.fieldAddr tf30_1 rfl)) ?_
     refine FD.val (wF_yes rfl rfl rfl c64) rfl rfl (fun w' hw' => (E.load rfl (run_load1 Tryz.isAgg22 ((at28.mono i48).now (S54.call hw').sl) rfl))) ?_
     refine FD.val (wF_yes rfl rfl rfl c64) rfl rfl (fun w' hw' => (E.lenP te22 rfl p0_1)) ?_
     refine FD.val (wF_yes rfl rfl rfl c64) rfl rfl (fun w' hw' => (E.sub rfl rfl)) ?_
     refine FD.call (wF_yes rfl rfl rfl c64) rfl rfl (fun w' hw' => (E.call Tryz.call50 (A3 rfl rfl rfl))) (fun w' hw' => Calls.cls hw' (w_impl_within (S54.call hw').sl x35.right 0 (wr ((len a0.clauses) - 1)))) ?_
     refine FD.val rfl rfl rfl (fun w' hw' => (E.pickT rfl c64 rfl)) ?_
     exact FD.nil ⟨rfl, rfl, (congrArg Value.bool (bifT c64).symm)⟩
    ·
     refine FD.skip (wF_no rfl rfl rfl c64) rfl ?_
     refine FD.skip (wF_no rfl rfl rfl c64) rfl ?_
     refine FD.skip (wF_no rfl rfl rfl c64) rfl ?_
     refine FD.skip (wF_no rfl rfl rfl c64) rfl ?_
     refine FD.skip (wF_no rfl rfl rfl c64) rfl ?_
     refine FD.skip (wF_no rfl rfl rfl c64) rfl ?_
     refine FD.skip (wF_no rfl rfl rfl c64) rfl ?_
     refine FD.val rfl rfl rfl (fun w' hw' => (E.pickF rfl c64 rfl)) ?_
     exact FD.nil ⟨rfl, rfl, (congrArg Value.bool (bifF c64).symm)⟩
   rintro f63 ⟨k65, k66, k67⟩
   refine FD.val rfl rfl rfl (fun w' hw' => (E.move k67)) ?_
   obtain ⟨t80, hqt80, hp⟩ := bnd hp
   refine FD.cut 10 (fun f => f 47 = Value.bool t80) ?_ ?_
   ·
    clear hp; have hp := hqt80; clear hqt80
    rcases ifB hp with ⟨c86, hp⟩ | ⟨c86, hp⟩
    ·
     refine FD.val (wF_yes rfl rfl rfl c86) rfl rfl (fun w' hw' => (E.fieldAddr tf30_1 k65)) ?_
     refine FD.val (wF_yes rfl rfl rfl c86) rfl rfl (fun w' hw' => (E.load rfl (run_load1 Tryz.isAgg22 ((at28.mono i48).now (S54.call hw').sl) rfl))) ?_
     refine FD.val (wF_yes rfl rfl rfl c86) rfl rfl (fun w' hw' => (E.fieldAddr tf52_2 k66)) ?_
     refine FD.val (wF_yes rfl rfl rfl c86) rfl rfl (fun w' hw' => (E.load rfl (run_load1 Tryz.isAgg3 (at49.now (S54.call hw').sl) rfl))) ?_
     obtain ⟨x93, hx94, hp⟩ := bnd hp
     obtain ⟨p87, cs88, pt89, l90, at91, rel92⟩ := p0_1.at hx94
     obtain ⟨v95, rfl, h96⟩ := eL_open rel92
     refine FD.val (wF_yes rfl rfl rfl c86) rfl rfl (fun w' hw' => (E.indexAddr te22 rfl rfl pt89)) ?_
     refine FD.val (wF_yes rfl rfl rfl c86) rfl rfl (fun w' hw' => (E.load rfl (run_load0 Tryz.isAgg48 ((at91.mono (i27.tr i48)).now (S54.call hw').sl) rfl))) ?_
     refine FD.val (wF_yes rfl rfl rfl c86) rfl rfl (fun w' hw' => (E.fieldAddr tf52_0 k66)) ?_
     refine FD.val (wF_yes rfl rfl rfl c86) rfl rfl (fun w' hw' => (E.load rfl (run_load1 Tryz.isAgg48 (at49.now (S54.call hw').sl) rfl))) ?_
     obtain ⟨r97, hr98, hp⟩ := bnd hp
     refine FD.call (wF_yes rfl rfl rfl c86) rfl rfl (fun w' hw' => (E.call Tryz.call74 (A2 rfl rfl))) (fun w' hw' => Calls.cls hw' (w_slices_Equal_int_int (S54.call hw').sl v95 x93 (h96.mono (i27.tr i48)) v37 x35.clause (h38.mono (i27.tr i48)) hr98)) ?_
     obtain rfl := Option.some.inj hp
     refine FD.val rfl rfl rfl (fun w' hw' => (E.pickT rfl c86 rfl)) ?_
     exact FD.nil rfl
    ·
     refine FD.skip (wF_no rfl rfl rfl c86) rfl ?_
     refine FD.skip (wF_no rfl rfl rfl c86) rfl ?_
     refine FD.skip (wF_no rfl rfl rfl c86) rfl ?_
     refine FD.skip (wF_no rfl rfl rfl c86) rfl ?_
     refine FD.skip (wF_no rfl rfl rfl c86) rfl ?_
     refine FD.skip (wF_no rfl rfl rfl c86) rfl ?_
     refine FD.skip (wF_no rfl rfl rfl c86) rfl ?_
     refine FD.skip (wF_no rfl rfl rfl c86) rfl ?_
     refine FD.skip (wF_no rfl rfl rfl c86) rfl ?_
     obtain rfl := Option.some.inj hp
     refine FD.val rfl rfl rfl (fun w' hw' => (E.pickF rfl c86 rfl)) ?_
     exact FD.nil rfl
   intro f85 k99
   refine FD.val rfl rfl rfl (fun w' hw' => (E.assign k99)) ?_
   refine FD.nil ?_
   intro w100 r102
   have S101 := S54.call r102
   refine FW.ret ?_
   obtain rfl := Option.some.inj hp
   exact ⟨.inr rfl, res1 rfl rfl ⟨rfl, S101.back⟩⟩
  ·
   refine FW.condF rfl c56 ?_
   refine FW.skip (FW.seq (FW.region ?_))
   refine FL.v (E.load rfl (run_loadA Tryz.isAgg30 Tryz.sizeOf30 ((at28.mono i48).now S54.sl) rfl)) ?_
   refine FL.v (E.move (v := v1) rfl) ?_
   refine FL.v (E.move (v := Value.int .i64 a2) rfl) ?_
   refine FL.v (E.fieldAddr tf52_1 rfl) ?_
   refine FL.v (E.load rfl (run_load1 Tryz.isAgg3 (at49.now S54.sl) rfl)) ?_
   obtain ⟨r103, hr104, hp⟩ := bnd hp
   refine FL.call rfl rfl rfl (E.call Tryz.call75 (A4 rfl rfl rfl rfl)) (w_impl_earlier S54.sl a0 v0_1 (p0_1.mono (i27.tr i48)) v1 a1 (p1.mono (i27.tr i48)) a2 x35.left hr104) ?_
   rintro e w106 ⟨H105, v109, rfl, r108, h110⟩
   refine ⟨_, rfl, ?_⟩
   have S107 := S54.call r108
   refine FL.v (E.move (v := Value.tuple #[v109, Value.bool r103.2]) rfl) ?_
   refine FL.v (E.extract (i := 0) rfl rfl) ?_
   refine FL.v (E.extract (i := 1) rfl rfl) ?_
   refine FL.v (E.assign (v := v109) rfl) ?_
   refine FL.v (E.assign (v := Value.bool r103.2) rfl) ?_
   refine FL.nil (FW.seq (FW.seq (FW.region ?_)))
   refine FL.v (E.move (v := Value.bool r103.2) rfl) ?_
   refine FL.v (E.not rfl) ?_
   refine FL.nil ?_
   rcases ifB hp with ⟨c111, hp⟩ | ⟨c111, hp⟩
   ·
    refine FW.condT rfl c111 ?_
    refine FW.seq (FW.region ?_)
    refine FL.v (E.assign (v := Value.bool false) rfl) ?_
    refine FL.nil ?_
    refine FW.ret ?_
    obtain rfl := Option.some.inj hp
    exact ⟨.inr rfl, res1 rfl rfl ⟨rfl, S107.back⟩⟩
   ·
    refine FW.condF rfl c111 ?_
    refine FW.skip (FW.seq (FW.seq (FW.region ?_)))
    refine FL.v (E.fieldAddr tf52_2 rfl) ?_
    refine FL.v (E.load rfl (run_load1 Tryz.isAgg3 ((at49.mono r108.inc).now S107.sl) rfl)) ?_
    refine FL.v (E.eql rfl rfl) ?_
    refine FL.nil ?_
    rcases ifB hp with ⟨c112, hp⟩ | ⟨c112, hp⟩
    ·
     refine FW.condT rfl c112 ?_
     refine FW.seq (FW.region ?_)
     refine FL.v (E.fieldAddr tf52_3 rfl) ?_
     refine FL.v (E.load rfl (run_load1 Tryz.isAgg3 ((at49.mono r108.inc).now S107.sl) rfl)) ?_
     refine FL.v (E.eql rfl rfl) ?_
     refine FL.v (E.move (v := Value.bool (x35.pivot == 0)) rfl) ?_
     obtain ⟨t118, hqt118, hp⟩ := bnd hp
     refine FL.cut 5 (fun f w => ∃ H : GH, St Ha wa H w [] ∧ Inc H105 H ∧ f 70 = Value.bool t118) ?_ ?_
     ·
      clear hp; have hp := hqt118; clear hqt118
      rcases ifB hp with ⟨c124, hp⟩ | ⟨c124, hp⟩
      ·
       refine FL.val (wF_yes rfl rfl rfl c124) rfl rfl (E.move (v := v109) rfl) ?_
       refine FL.val (wF_yes rfl rfl rfl c124) rfl rfl (E.fieldAddr tf52_0 rfl) ?_
       refine FL.val (wF_yes rfl rfl rfl c124) rfl rfl (E.load rfl (run_load1 Tryz.isAgg48 ((at49.mono r108.inc).now S107.sl) rfl)) ?_
       obtain ⟨r125, hr126, hp⟩ := bnd hp
       refine FL.call (wF_yes rfl rfl rfl c124) rfl rfl (E.call Tryz.call76 (A2 rfl rfl)) (w_impl_part S107.sl v109 r103.1 h110 v37 x35.clause (h38.mono ((i27.tr i48).tr r108.inc)) hr126) ?_
       rintro e w127 ⟨rfl, r128⟩
       refine ⟨_, rfl, ?_⟩
       have S129 := S107.call r128
       obtain rfl := Option.some.inj hp
       refine FL.v (E.pickT rfl c124 rfl) ?_
       exact FL.nil ⟨rfl, _, S129, (Inc.rfl _), rfl⟩
      ·
       refine FL.skip (wF_no rfl rfl rfl c124) rfl ?_
       refine FL.skip (wF_no rfl rfl rfl c124) rfl ?_
       refine FL.skip (wF_no rfl rfl rfl c124) rfl ?_
       refine FL.skip (wF_no rfl rfl rfl c124) rfl ?_
       obtain rfl := Option.some.inj hp
       refine FL.v (E.pickF rfl c124 rfl) ?_
       exact FL.nil ⟨rfl, _, S107, (Inc.rfl _), rfl⟩
     rintro f123 w122 ⟨H119, S120, i121, k130⟩
     refine FL.v (E.assign k130) ?_
     refine FL.nil ?_
     refine FW.ret ?_
     obtain rfl := Option.some.inj hp
     exact ⟨.inr rfl, res1 rfl rfl ⟨rfl, S120.back⟩⟩
    ·
     refine FW.condF rfl c112 ?_
     refine FW.skip (FW.seq (FW.region ?_))
     refine FL.v (E.load rfl (run_loadA Tryz.isAgg30 Tryz.sizeOf30 ((at28.mono (i48.tr r108.inc)).now S107.sl) rfl)) ?_
     refine FL.v (E.move (v := v1) rfl) ?_
     refine FL.v (E.move (v := Value.int .i64 a2) rfl) ?_
     refine FL.v (E.fieldAddr tf52_2 rfl) ?_
     refine FL.v (E.load rfl (run_load1 Tryz.isAgg3 ((at49.mono r108.inc).now S107.sl) rfl)) ?_
     obtain ⟨r131, hr132, hp⟩ := bnd hp
     refine FL.call rfl rfl rfl (E.call Tryz.call75 (A4 rfl rfl rfl rfl)) (w_impl_earlier S107.sl a0 v0_1 (p0_1.mono ((i27.tr i48).tr r108.inc)) v1 a1 (p1.mono ((i27.tr i48).tr r108.inc)) a2 x35.right hr132) ?_
     rintro e w134 ⟨H133, v137, rfl, r136, h138⟩
     refine ⟨_, rfl, ?_⟩
     have S135 := S107.call r136
     refine FL.v (E.move (v := Value.tuple #[v137, Value.bool r131.2]) rfl) ?_
     refine FL.v (E.extract (i := 0) rfl rfl) ?_
     refine FL.v (E.extract (i := 1) rfl rfl) ?_
     refine FL.v (E.assign (v := v137) rfl) ?_
     refine FL.v (E.assign (v := Value.bool r131.2) rfl) ?_
     refine FL.nil (FW.seq (FW.seq (FW.region ?_)))
     refine FL.v (E.move (v := Value.bool r131.2) rfl) ?_
     refine FL.v (E.not rfl) ?_
     refine FL.v (E.move (v := Value.bool (!r131.2)) rfl) ?_
     refine FL.cut 7 (fun f w => ∃ H : GH, St Ha wa H w [] ∧ Inc H133 H ∧ f 7 = Value.pointer (some ⟨b39, 0, none⟩) ∧ f 8 = v109 ∧ f 10 = v137 ∧ f 89 = Value.bool (bif (!r131.2) then true else (!(PF.impl_isVar a0.vars x35.pivot)))) ?_ ?_
     ·
      rcases bcase (!r131.2) with c148 | c148
      ·
       refine FL.skip (wF_no rfl rfl rfl c148) rfl ?_
       refine FL.skip (wF_no rfl rfl rfl c148) rfl ?_
       refine FL.skip (wF_no rfl rfl rfl c148) rfl ?_
       refine FL.skip (wF_no rfl rfl rfl c148) rfl ?_
       refine FL.skip (wF_no rfl rfl rfl c148) rfl ?_
       refine FL.skip (wF_no rfl rfl rfl c148) rfl ?_
       refine FL.v (E.pickT rfl c148 rfl) ?_
       exact FL.nil ⟨rfl, _, S135, (Inc.rfl _), rfl, rfl, rfl, (congrArg Value.bool (bifT c148).symm)⟩
      ·
       refine FL.val (wF_yes rfl rfl rfl c148) rfl rfl (E.fieldAddr tf30_0 rfl) ?_
       refine FL.val (wF_yes rfl rfl rfl c148) rfl rfl (E.load rfl (run_load1 Tryz.isAgg3 ((at28.mono ((i48.tr r108.inc).tr r136.inc)).now S135.sl) rfl)) ?_
       refine FL.val (wF_yes rfl rfl rfl c148) rfl rfl (E.fieldAddr tf52_3 rfl) ?_
       refine FL.val (wF_yes rfl rfl rfl c148) rfl rfl (E.load rfl (run_load1 Tryz.isAgg3 ((at49.mono (r108.inc.tr r136.inc)).now S135.sl) rfl)) ?_
       refine FL.call (wF_yes rfl rfl rfl c148) rfl rfl (E.call Tryz.call77 (A2 rfl rfl)) (w_impl_isVar S135.sl a0.vars x35.pivot) ?_
       rintro e w149 ⟨rfl, r150⟩
       refine ⟨_, rfl, ?_⟩
       have S151 := S135.call r150
       refine FL.val (wF_yes rfl rfl rfl c148) rfl rfl (E.not rfl) ?_
       refine FL.v (E.pickF rfl c148 rfl) ?_
       exact FL.nil ⟨rfl, _, S151, (Inc.rfl _), rfl, rfl, rfl, (congrArg Value.bool (bifF c148).symm)⟩
     rintro f147 w146 ⟨H143, S144, i145, k152, k153, k154, k155⟩
     refine FL.nil ?_
     rcases ifB hp with ⟨c156, hp⟩ | ⟨c156, hp⟩
     ·
      refine FW.condT k155 c156 ?_
      refine FW.seq (FW.region ?_)
      refine FL.v (E.assign (v := Value.bool false) rfl) ?_
      refine FL.nil ?_
      refine FW.ret ?_
      obtain rfl := Option.some.inj hp
      exact ⟨.inr rfl, res1 rfl rfl ⟨rfl, S144.back⟩⟩
     ·
      refine FW.condF k155 c156 ?_
      refine FW.skip (FW.seq (FW.region ?_))
      refine FL.v (E.move k153) ?_
      refine FL.v (E.move k154) ?_
      refine FL.v (E.fieldAddr tf52_3 k152) ?_
      refine FL.v (E.load rfl (run_load1 Tryz.isAgg3 ((at49.mono ((r108.inc.tr r136.inc).tr i145)).now S144.sl) rfl)) ?_
      obtain ⟨r157, hr158, hp⟩ := bnd hp
      refine FL.call rfl rfl rfl (E.call Tryz.call78 (A3 rfl rfl rfl)) (w_impl_resolve S144.sl v109 r103.1 (h110.mono (r136.inc.tr i145)) v137 r131.1 (h138.mono i145) x35.pivot hr158) ?_
      rintro e w160 ⟨H159, v163, n164, cs165, rfl, r162, els166⟩
      refine ⟨_, rfl, ?_⟩
      have els166 := els166.mono (up_le S144.size)
      have S161 := S144.join (l' := [.row 3 1 v163 n164 cs165]) r162 rfl
      refine FL.v (E.move (v := Value.tuple #[v163, Value.bool r157.2]) rfl) ?_
      refine FL.v (E.extract (i := 0) rfl rfl) ?_
      refine FL.v (E.extract (i := 1) rfl rfl) ?_
      refine FL.v (E.assign (v := v163) rfl) ?_
      refine FL.v (E.assign (v := Value.bool r157.2) rfl) ?_
      refine FL.nil (FW.seq (FW.region ?_))
      refine FL.v (E.move (v := Value.bool r157.2) rfl) ?_
      refine FL.v (E.move (v := Value.bool r157.2) rfl) ?_
      obtain ⟨t177, hqt177, hp⟩ := bnd hp
      refine FL.cut 5 (fun f w => ∃ H : GH, St Ha wa H w [.row 3 1 v163 n164 cs165] ∧ Inc H159 H ∧ f 104 = Value.bool t177) ?_ ?_
      ·
       clear hp; have hp := hqt177; clear hqt177
       rcases ifB hp with ⟨c183, hp⟩ | ⟨c183, hp⟩
       ·
        refine FL.val (wF_yes rfl rfl rfl c183) rfl rfl (E.move (v := v163) rfl) ?_
        refine FL.val (wF_yes rfl rfl rfl c183) rfl rfl (E.fieldAddr tf52_0 k152) ?_
        refine FL.val (wF_yes rfl rfl rfl c183) rfl rfl (E.load rfl (run_load1 Tryz.isAgg48 ((at49.mono (((r108.inc.tr r136.inc).tr i145).tr r162.run.inc)).now S161.sl) rfl)) ?_
        obtain ⟨H184, S185, i186, h187, nv188⟩ := S161.sealRowU (i := 0) (l' := []) rfl els166 (by decide) rfl
        obtain ⟨r189, hr190, hp⟩ := bnd hp
        refine FL.call (wF_yes rfl rfl rfl c183) rfl rfl (E.call Tryz.call74 (A2 rfl rfl)) (w_slices_Equal_int_int S185.sl v163 r157.1 (h187.mono upI) v37 x35.clause (h38.mono ((((((i27.tr i48).tr r108.inc).tr r136.inc).tr i145).tr r162.run.inc).tr i186)) hr190) ?_
        rintro e w191 ⟨rfl, r192⟩
        refine ⟨_, rfl, ?_⟩
        have r192 := Run.lend i186 S161.sl r192
        have S193 := S161.call r192
        obtain rfl := Option.some.inj hp
        refine FL.v (E.pickT rfl c183 rfl) ?_
        exact FL.nil ⟨rfl, _, S193, (Inc.rfl _), rfl⟩
       ·
        refine FL.skip (wF_no rfl rfl rfl c183) rfl ?_
        refine FL.skip (wF_no rfl rfl rfl c183) rfl ?_
        refine FL.skip (wF_no rfl rfl rfl c183) rfl ?_
        refine FL.skip (wF_no rfl rfl rfl c183) rfl ?_
        obtain rfl := Option.some.inj hp
        refine FL.v (E.pickF rfl c183 rfl) ?_
        exact FL.nil ⟨rfl, _, S161, (Inc.rfl _), rfl⟩
      rintro f182 w181 ⟨H178, S179, i180, k194⟩
      refine FL.v (E.assign k194) ?_
      refine FL.nil ?_
      refine FW.ret ?_
      obtain rfl := Option.some.inj hp
      exact ⟨.inr rfl, res1 rfl rfl ⟨rfl, S179.back⟩⟩

theorem w_impl_firstWrong {Ha : GH} {wa : World} (hs : Sl Ha wa) (a0 : Cnf) (v0_1 : Value) (p0_1 : RSl Ha (eL eI 1) 1 v0_1 a0.clauses) (v1 : Value) (a1 : List ResStep) (p1 : RSl Ha eResStep 4 v1 a1) {r : Int} (hp : (PF.impl_firstWrong a0 a1) = some r) :
  Calls Tryz.prog 39 #[Value.agg #[Value.int .i64 a0.vars, v0_1], v1] wa (Sc Ha wa (Value.int .i64 r)) := by
 unfold PF.impl_firstWrong at hp
 have S0 := St.init hs
 refine calls_go (N := 18) (args := [Value.agg #[Value.int .i64 a0.vars, v0_1], v1]) Tryz.func39 rfl rfl rfl ?_
 refine FW.seq (FW.region ?_)
 obtain ⟨b21, w22, run23, S24⟩ := S0.box (P := Tryz.prog) 30 [Value.int .i64 a0.vars, v0_1] (v := Value.agg #[Value.int .i64 a0.vars, v0_1]) rfl (ones_cons rfl (ones_cons p0_1.one ones_nil))
 refine FL.v (E.box rfl run23) ?_
 obtain ⟨H25, S26, i27, at28⟩ := S24.sealBox (i := 0) (l' := []) rfl rfl
 refine FL.v (E.assign (v := Value.int .i64 0) rfl) ?_
 refine FL.nil (FW.seq (FW.seq (FW.region ?_)))
 refine FL.v (E.move (v := v1) rfl) ?_
 refine FL.v (E.lenP te32 rfl p1) ?_
 refine FL.v (E.move (v := Value.int .i64 0) rfl) ?_
 refine FL.nil ?_
 obtain ⟨q30, hq, hp⟩ := bndR hp
 refine FW.block ?_
 refine FW.mono (FW.forL (S := Unit) (X := Int) (fun (i30 : Nat) (s30 : Unit) f w => ∃ H : GH, St Ha wa H w [] ∧ Inc H25 H ∧ f 8 = Value.int .i64 ((i30 : Nat) : Int) ∧ f 1 = v1 ∧ f 2 = Value.pointer (some ⟨b21, 0, none⟩) ∧ f 7 = Value.int .i64 (len a1)) (fun q e f w => match q with | .go s30 => e = Exit.exit 0 ∧ (∃ H : GH, St Ha wa H w [] ∧ Inc H25 H) | .rt x => ((e = Exit.ret) ∧ (fun e f w => (e = Exit.normal ∨ e = Exit.ret) ∧ ∀ a, Fr (δ := []) 18 a f → ∃ v, (results Tryz.f39 a.tmps).run Tryz.prog w = .ok v w ∧ (Sc Ha wa (Value.int .i64 x)) (.returned v) w) e f w)) hq ⟨_, S26, (Inc.rfl _), rfl, rfl, rfl, rfl⟩ ?_ ?_) ?_
 ·
  clear hp hq
  rintro i30 y29 s30 f50 w49 ⟨H46, S47, i48, k51, k52, k53, k54⟩ hx30 o61 hp
  refine FW.seq (FW.region ?_)
  refine FL.v (E.lssT k51 k54 (lss_len hx30)) ?_
  refine FL.nil (FW.seq ?_)
  refine FW.condT rfl rfl ?_
  refine FW.skip (FW.seq (FW.block (FW.seq (FW.region ?_))))
  refine FL.v (E.move k51) ?_
  refine FL.v (E.assign (v := Value.int .i64 ((i30 : Nat) : Int)) rfl) ?_
  refine FL.nil (FW.seq (FW.region ?_))
  refine FL.v (E.load k53 (run_loadA Tryz.isAgg30 Tryz.sizeOf30 ((at28.mono i48).now S47.sl) rfl)) ?_
  refine FL.v (E.move k52) ?_
  refine FL.v (E.move (v := Value.int .i64 ((i30 : Nat) : Int)) rfl) ?_
  obtain ⟨r55, hr56, hp⟩ := bnd hp
  refine FL.call rfl rfl rfl (E.call Tryz.call58 (A3 rfl rfl rfl)) (w_impl_correct S47.sl a0 v0_1 (p0_1.mono (i27.tr i48)) v1 a1 (p1.mono (i27.tr i48)) ((i30 : Nat) : Int) hr56) ?_
  rintro e w57 ⟨rfl, r58⟩
  refine ⟨_, rfl, ?_⟩
  have S59 := S47.call r58
  refine FL.v (E.not rfl) ?_
  refine FL.nil ?_
  rcases ifB hp with ⟨c60, hp⟩ | ⟨c60, hp⟩
  ·
   refine FW.condT rfl c60 ?_
   refine FW.seq (FW.region ?_)
   refine FL.v (E.move (v := Value.int .i64 ((i30 : Nat) : Int)) rfl) ?_
   refine FL.v (E.assign (v := Value.int .i64 ((i30 : Nat) : Int)) rfl) ?_
   refine FL.nil ?_
   refine FW.ret ?_
   obtain rfl := Option.some.inj hp
   exact ⟨nofun, rfl, ⟨.inr rfl, res1 rfl rfl ⟨rfl, S59.back⟩⟩⟩
  ·
   refine FW.condF rfl c60 ?_
   refine FW.skip (FW.region ?_)
   refine FL.v (E.add k51 rfl) ?_
   refine FL.v (E.move (v := Value.int .i64 (wr (((i30 : Nat) : Int) + 1))) rfl) ?_
   refine FL.nil ?_
   obtain rfl := Option.some.inj hp
   exact ⟨rfl, ⟨_, S59, i48, (nat_succ rfl (lt_of_get hx30) (p1.mono (i27.tr i48)).le), k52, k53, k54⟩⟩
 ·
  clear hp hq
  rintro s30 f71 w70 ⟨H67, S68, i69, k72, k73, k74, k75⟩
  refine FW.seq (FW.region ?_)
  refine FL.v (E.lss k72 k75) ?_
  refine FL.nil (FW.seq ?_)
  refine FW.condF rfl dlt_len ?_
  refine FW.exit ?_
  exact ⟨nofun, rfl, ⟨_, S68, i69⟩⟩
 ·
  clear hq
  intro e f66 w65 hD
  rcases q30 with s30 | x30
  ·
   obtain ⟨rfl, hD⟩ := hD
   obtain ⟨H62, S63, i64⟩ := hD
   replace hp := el_go hp
   refine FW.seq (FW.region ?_)
   refine FL.v (E.assign (v := Value.int .i64 (-1)) rfl) ?_
   refine FL.nil ?_
   refine FW.ret ?_
   obtain rfl := Option.some.inj hp
   exact ⟨.inr rfl, res1 rfl rfl ⟨rfl, S63.back⟩⟩
  ·
   obtain ⟨he, hL⟩ := hD
   replace hp := el_rt hp
   obtain rfl := Option.some.inj hp
   subst he
   exact hL

theorem w_impl_IsDerivation {Ha : GH} {wa : World} (hs : Sl Ha wa) (a0 : Cnf) (v0_1 : Value) (p0_1 : RSl Ha (eL eI 1) 1 v0_1 a0.clauses) (v1 : Value) (a1 : List ResStep) (p1 : RSl Ha eResStep 4 v1 a1) {r : Bool} (hp : (PF.impl_IsDerivation a0 a1) = some r) :
  Calls Tryz.prog 25 #[Value.agg #[Value.int .i64 a0.vars, v0_1], v1] wa (Sc Ha wa (Value.bool r)) := by
 unfold PF.impl_IsDerivation at hp
 have S0 := St.init hs
 refine calls_go (N := 18) (args := [Value.agg #[Value.int .i64 a0.vars, v0_1], v1]) Tryz.func25 rfl rfl rfl ?_
 refine FW.seq (FW.region ?_)
 obtain ⟨b21, w22, run23, S24⟩ := S0.box (P := Tryz.prog) 30 [Value.int .i64 a0.vars, v0_1] (v := Value.agg #[Value.int .i64 a0.vars, v0_1]) rfl (ones_cons rfl (ones_cons p0_1.one ones_nil))
 refine FL.v (E.box rfl run23) ?_
 obtain ⟨H25, S26, i27, at28⟩ := S24.sealBox (i := 0) (l' := []) rfl rfl
 refine FL.v (E.assign (v := Value.bool false) rfl) ?_
 refine FL.nil (FW.seq (FW.region ?_))
 refine FL.v (E.load rfl (run_loadA Tryz.isAgg30 Tryz.sizeOf30 (at28.now S26.sl) rfl)) ?_
 obtain ⟨r29, hr30, hp⟩ := bnd hp
 refine FL.call rfl rfl rfl (E.call Tryz.call38 (A1 rfl)) (w_impl_IsCnf S26.sl a0 v0_1 (p0_1.mono i27) hr30) ?_
 rintro e w31 ⟨rfl, r32⟩
 refine ⟨_, rfl, ?_⟩
 have S33 := S26.call r32
 refine FL.v (E.move (v := Value.bool r29) rfl) ?_
 refine FL.cut 4 (fun f w => ∃ H : GH, St Ha wa H w [] ∧ Inc H25 H ∧ f 1 = v1 ∧ f 2 = Value.pointer (some ⟨b21, 0, none⟩) ∧ f 11 = Value.bool (bif r29 then (decide ((len a1) ≤ 200)) else false)) ?_ ?_
 ·
  rcases bcase r29 with c40 | c40
  ·
   refine FL.val (wF_yes rfl rfl rfl c40) rfl rfl (E.move (v := v1) rfl) ?_
   refine FL.val (wF_yes rfl rfl rfl c40) rfl rfl (E.lenP te32 rfl p1) ?_
   refine FL.val (wF_yes rfl rfl rfl c40) rfl rfl (E.leq rfl rfl) ?_
   refine FL.v (E.pickT rfl c40 rfl) ?_
   exact FL.nil ⟨rfl, _, S33, (Inc.rfl _), rfl, rfl, (congrArg Value.bool (bifT c40).symm)⟩
  ·
   refine FL.skip (wF_no rfl rfl rfl c40) rfl ?_
   refine FL.skip (wF_no rfl rfl rfl c40) rfl ?_
   refine FL.skip (wF_no rfl rfl rfl c40) rfl ?_
   refine FL.v (E.pickF rfl c40 rfl) ?_
   exact FL.nil ⟨rfl, _, S33, (Inc.rfl _), rfl, rfl, (congrArg Value.bool (bifF c40).symm)⟩
 rintro f39 w38 ⟨H35, S36, i37, k41, k42, k43⟩
 refine FL.v (E.move k43) ?_
 obtain ⟨t49, hqt49, hp⟩ := bnd hp
 refine FL.cut 5 (fun f w => ∃ H : GH, St Ha wa H w [] ∧ Inc H35 H ∧ f 17 = Value.bool t49) ?_ ?_
 ·
  clear hp; have hp := hqt49; clear hqt49
  rcases ifB hp with ⟨c55, hp⟩ | ⟨c55, hp⟩
  ·
   refine FL.val (wF_yes rfl rfl rfl c55) rfl rfl (E.load k42 (run_loadA Tryz.isAgg30 Tryz.sizeOf30 ((at28.mono i37).now S36.sl) rfl)) ?_
   refine FL.val (wF_yes rfl rfl rfl c55) rfl rfl (E.move k41) ?_
   obtain ⟨r56, hr57, hp⟩ := bnd hp
   refine FL.call (wF_yes rfl rfl rfl c55) rfl rfl (E.call Tryz.call39 (A2 rfl rfl)) (w_impl_firstWrong S36.sl a0 v0_1 (p0_1.mono (i27.tr i37)) v1 a1 (p1.mono (i27.tr i37)) hr57) ?_
   rintro e w58 ⟨rfl, r59⟩
   refine ⟨_, rfl, ?_⟩
   have S60 := S36.call r59
   refine FL.val (wF_yes rfl rfl rfl c55) rfl rfl (E.lss rfl rfl) ?_
   obtain rfl := Option.some.inj hp
   refine FL.v (E.pickT rfl c55 rfl) ?_
   exact FL.nil ⟨rfl, _, S60, (Inc.rfl _), rfl⟩
  ·
   refine FL.skip (wF_no rfl rfl rfl c55) rfl ?_
   refine FL.skip (wF_no rfl rfl rfl c55) rfl ?_
   refine FL.skip (wF_no rfl rfl rfl c55) rfl ?_
   refine FL.skip (wF_no rfl rfl rfl c55) rfl ?_
   obtain rfl := Option.some.inj hp
   refine FL.v (E.pickF rfl c55 rfl) ?_
   exact FL.nil ⟨rfl, _, S36, (Inc.rfl _), rfl⟩
 rintro f54 w53 ⟨H50, S51, i52, k61⟩
 refine FL.v (E.assign k61) ?_
 refine FL.nil ?_
 refine FW.ret ?_
 obtain rfl := Option.some.inj hp
 exact ⟨.inr rfl, res1 rfl rfl ⟨rfl, S51.back⟩⟩

theorem w_strconv_Itoa {Ha : GH} {wa : World} (hs : Sl Ha wa) (a0 : Int) (hT : TabI Tryz.prog Ha) {r : ByteArray} (hp : (PF.strconv_Itoa a0) = some r) : Calls Tryz.prog 40 #[Value.int .i64 a0] wa (Sc Ha wa (Value.string r)) := by
  unfold PF.strconv_Itoa numS at hp
  split at hp
  · rename_i h; cases hp
    refine (Go.Proofs.Any.strconv_Itoa Tryz.itoa40 a0 h.1 h.2 wa (hT.is hs)).mono ?_
    rintro e w' ⟨rfl, k, os, rfl⟩
    exact ⟨rfl, run_grow hs k os⟩
  · cases hp

theorem Tryz.joinX27 : Builder.Extra Tryz.prog Tryz.join27_ren where
 sizeBuilder := by kernel_rfl
 liesBuilder := by kernel_rfl
 t5 := Tryz.underlying5
 a5 := Tryz.isAgg5
 z5 := Tryz.sizeOf5
 v5 := Tryz.zeroValue5
 infoByte := by kernel_rfl
 cellsByte := by kernel_rfl
 sizeByte := by kernel_rfl
 neB5 := by decide
theorem w_strings_Join {Ha : GH} {wa : World} (hs : Sl Ha wa) (v0 : Value) (a0 : List ByteArray) (p0 : RSl Ha eS 1 v0 a0) (a1 : ByteArray) {r : ByteArray} (hp : (PF.strings_Join a0 a1) = some r) : Calls Tryz.prog 27 #[v0, Value.string a1] wa (Sc Ha (wz wa) (Value.string r)) :=
 joinC hs p0 hp (fun a c w => Any.strings_Join_none Tryz.join27 Tryz.joinX27 a c a1 w) (fun bk o c w h1 h2 h3 h4 h5 => Any.strings_Join Tryz.join27 Tryz.joinX27 bk o c a0 a1 w h1 h2 h3 h4 h5)

theorem w_impl_digits {Ha : GH} {wa : World} (hs : Sl Ha wa) (v0 : Value) (a0 : List Int) (p0 : RSl Ha eI 1 v0 a0) (a1 : ByteArray) (hT : TabI Tryz.prog Ha) {r : ByteArray} (hp : (PF.impl_digits a0 a1) = some r) :
    Calls Tryz.prog 60 #[v0, Value.string a1] wa (Sc Ha (wz wa) (Value.string r)) := by
  unfold PF.impl_digits at hp
  have S0 := St.init0 hs
  refine calls_go (N := 27) (args := [v0, Value.string a1]) Tryz.func60 rfl rfl rfl ?_
  refine FW.seq (FW.region ?_)
  refine FL.v (E.assign (v := Value.string (ByteArray.mk #[])) rfl) ?_
  refine FL.nil (FW.seq (FW.region ?_))
  refine FL.v (E.move (v := v0) rfl) ?_
  refine FL.v (E.lenP te48 rfl p0) ?_
  obtain ⟨xs21, hm22, hp⟩ := bnd hp
  obtain ⟨v23, w24, n28, cs29, run25, S26, els27, hbl30⟩ := S0.makeEls (P := Tryz.prog) te57 (G := (up (wz wa).heap.size Ha)) (En := eS) (x0 := (ByteArray.empty : ByteArray)) hm22 rfl (ones_cons rfl ones_nil) .i64 .i64
  refine FL.v (E.makeSlice rfl rfl run25) ?_
  refine FL.v (E.assign (v := v23) rfl) ?_
  refine FL.nil (FW.seq (FW.seq (FW.region ?_)))
  refine FL.v (E.move (v := v0) rfl) ?_
  refine FL.v (E.lenP te48 rfl p0) ?_
  refine FL.v (E.move (v := Value.int .i64 0) rfl) ?_
  refine FL.nil ?_
  obtain ⟨q32, hq, hp⟩ := bndR hp
  refine FW.block ?_
  refine FW.mono (FW.forL (S := (List ByteArray)) (X := Empty) (fun (i32 : Nat) (s32 : (List ByteArray)) f w => ∃ H : GH, ∃ v70 : Value, ∃ n71 : Nat, ∃ cs72 : List Value, St Ha (wz wa) H w [.row 9 1 v70 n71 cs72] ∧ Inc Ha H ∧ Els (up (wz wa).heap.size H) eS 1 cs72 s32 ∧ f 13 = Value.int .i64 ((i32 : Nat) : Int) ∧ f 1 = Value.string a1 ∧ f 5 = v70 ∧ f 11 = v0 ∧ f 12 = Value.int .i64 (len a0)) (fun (q : Rs (List ByteArray) Empty) e f w => match q with | .go s32 => e = Exit.exit 0 ∧ (∃ H : GH, ∃ v70 : Value, ∃ n71 : Nat, ∃ cs72 : List Value, St Ha (wz wa) H w [.row 9 1 v70 n71 cs72] ∧ Inc Ha H ∧ Els (up (wz wa).heap.size H) eS 1 cs72 s32 ∧ f 1 = Value.string a1 ∧ f 5 = v70) | .rt x => x.elim) hq ⟨_, _, _, _, S26, (Inc.rfl _), els27, rfl, rfl, rfl, rfl, rfl⟩ ?_ ?_) ?_
  ·
    clear hp hq
    rintro i32 y31 s32 f115 w114 ⟨H111, v70, n71, cs72, S112, i113, els73, k116, k117, k118, k119, k120⟩ hx32 o148 hp
    refine FW.seq (FW.region ?_)
    refine FL.v (E.lssT k116 k120 (lss_len hx32)) ?_
    refine FL.nil (FW.seq ?_)
    refine FW.condT rfl rfl ?_
    refine FW.skip (FW.seq (FW.block (FW.seq (FW.region ?_))))
    refine FL.v (E.move k116) ?_
    obtain ⟨p121, cs122, pt123, l124, at125, rel126⟩ := p0.at (ix_nat hx32)
    obtain rfl := eI_open rel126
    refine FL.v (E.indexAddr te48 k119 k116 pt123) ?_
    refine FL.v (E.load rfl (run_load0 Tryz.isAgg3 ((at125.mono i113).now S112.sl) rfl)) ?_
    refine FL.v (E.assign (v := Value.int .i64 ((i32 : Nat) : Int)) rfl) ?_
    refine FL.v (E.assign (v := Value.int .i64 y31) rfl) ?_
    refine FL.nil (FW.region ?_)
    refine FL.v (E.move k118) ?_
    refine FL.v (E.move (v := Value.int .i64 ((i32 : Nat) : Int)) rfl) ?_
    refine FL.v (E.move (v := Value.int .i64 y31) rfl) ?_
    obtain ⟨r127, hr128, hp⟩ := bnd hp
    refine FL.call rfl rfl rfl (E.call Tryz.call40 (A1 rfl)) (w_strconv_Itoa S112.sl y31 (hT.mono i113) hr128) ?_
    rintro e w129 ⟨rfl, r130⟩
    refine ⟨_, rfl, ?_⟩
    have S131 := S112.call r130
    obtain ⟨x138, hx139, hp⟩ := bnd hp
    obtain ⟨p132, cs133, pt134, l135, at136, rel137⟩ := S131.row_at (i := 0) rfl els73 (by decide) hx139
    obtain rfl := eS_open rel137
    refine FL.v (E.indexAddr te57 rfl rfl pt134) ?_
    obtain ⟨xs143, hput144, hp⟩ := bnd hp
    obtain ⟨w140, cs146, run141, S142, els145, ce147⟩ := S131.putEls (P := Tryz.prog) (t := 9) (i := 0) rfl els73 hput144 pt134 Tryz.sizeOf9 (u := Value.string r127) (c := [Value.string r127]) rfl rfl (ones_cons rfl ones_nil) rfl
    have S142 : St Ha (wz wa) H111 w140 [.row 9 1 v70 n71 cs146] := S142
    refine FL.act rfl rfl (E.store rfl rfl run141) ?_
    refine FL.nil (FW.region ?_)
    refine FL.v (E.add k116 rfl) ?_
    refine FL.v (E.move (v := Value.int .i64 (wr (((i32 : Nat) : Int) + 1))) rfl) ?_
    refine FL.nil ?_
    obtain rfl := Option.some.inj hp
    exact ⟨rfl, ⟨_, _, _, _, S142, i113, els145, (nat_succ rfl (lt_of_get hx32) (p0.mono i113).le), k117, k118, k119, k120⟩⟩
  ·
    clear hp hq
    rintro s32 f170 w169 ⟨H166, v70, n71, cs72, S167, i168, els73, k171, k172, k173, k174, k175⟩
    refine FW.seq (FW.region ?_)
    refine FL.v (E.lss k171 k175) ?_
    refine FL.nil (FW.seq ?_)
    refine FW.condF rfl dlt_len ?_
    refine FW.exit ?_
    exact ⟨nofun, rfl, ⟨_, _, _, _, S167, i168, els73, k172, k173⟩⟩
  ·
    clear hq
    intro e f153 w152 hD
    rcases q32 with s32 | x32
    ·
      obtain ⟨rfl, hD⟩ := hD
      obtain ⟨H149, v70, n71, cs72, S150, i151, els73, k154, k155⟩ := hD
      replace hp := el_go hp
      refine FW.seq (FW.region ?_)
      refine FL.v (E.move k155) ?_
      refine FL.v (E.move k154) ?_
      obtain ⟨H156, S157, i158, h159, nv160⟩ := S150.sealRowU (i := 0) (l' := []) rfl els73 (by decide) rfl
      obtain ⟨r161, hr162, hp⟩ := bnd hp
      refine FL.call rfl rfl rfl (E.call Tryz.call27 (A2 rfl rfl)) (w_strings_Join S157.sl v70 s32 (h159.mono upI) a1 hr162) ?_
      rintro e w163 ⟨rfl, r164⟩
      refine ⟨_, rfl, ?_⟩
      have S165 := S157.callX rfl r164
      refine FL.v (E.assign (v := Value.string r161) rfl) ?_
      refine FL.nil ?_
      refine FW.ret ?_
      obtain rfl := Option.some.inj hp
      exact ⟨.inr rfl, res1 rfl rfl ⟨rfl, S165.back⟩⟩
    · exact x32.elim

theorem w_impl_clauseText {Ha : GH} {wa : World} (hs : Sl Ha wa) (v0 : Value) (a0 : List Int) (p0 : RSl Ha eI 1 v0 a0) (hT : TabI Tryz.prog Ha) {r : ByteArray} (hp : (PF.impl_clauseText a0) = some r) :
  Calls Tryz.prog 41 #[v0] wa (Sc Ha (wz wa) (Value.string r)) := by
 unfold PF.impl_clauseText at hp
 have S0 := St.init0 hs
 refine calls_go (N := 8) (args := [v0]) Tryz.func41 rfl rfl rfl ?_
 refine FW.seq (FW.region ?_)
 refine FL.v (E.assign (v := Value.string (ByteArray.mk #[])) rfl) ?_
 refine FL.nil (FW.seq (FW.seq (FW.region ?_)))
 refine FL.v (E.move (v := v0) rfl) ?_
 refine FL.v (E.lenP te48 rfl p0) ?_
 refine FL.v (E.eql rfl rfl) ?_
 refine FL.nil ?_
 rcases ifB hp with ⟨c21, hp⟩ | ⟨c21, hp⟩
 ·
  refine FW.condT rfl c21 ?_
  refine FW.seq (FW.region ?_)
  refine FL.v (E.assign (v := Value.string (ByteArray.mk #[110, 111, 110, 101])) rfl) ?_
  refine FL.nil ?_
  refine FW.ret ?_
  obtain rfl := Option.some.inj hp
  exact ⟨.inr rfl, res1 rfl rfl ⟨rfl, S0.back⟩⟩
 ·
  refine FW.condF rfl c21 ?_
  refine FW.skip (FW.seq (FW.region ?_))
  refine FL.v (E.move (v := v0) rfl) ?_
  obtain ⟨r22, hr23, hp⟩ := bnd hp
  refine FL.call rfl rfl rfl (E.call Tryz.call60 (A2 rfl rfl)) (w_impl_digits S0.sl v0 a0 p0 (ByteArray.mk #[32]) hT hr23) ?_
  rintro e w24 ⟨rfl, r25⟩
  refine ⟨_, rfl, ?_⟩
  have S26 := S0.callX rfl r25
  refine FL.v (E.assign (v := Value.string r22) rfl) ?_
  refine FL.nil ?_
  refine FW.ret ?_
  obtain rfl := Option.some.inj hp
  exact ⟨.inr rfl, res1 rfl rfl ⟨rfl, S26.back⟩⟩

theorem w_impl_ResStep_isAxiom {Ha : GH} {wa : World} (hs : Sl Ha wa) (a0 : ResStep) (v0_0 : Value) (p0_0 : RSl Ha eI 1 v0_0 a0.clause) :
  Calls Tryz.prog 42 #[Value.agg #[v0_0, Value.int .i64 a0.left, Value.int .i64 a0.right, Value.int .i64 a0.pivot]] wa (Sc Ha wa (Value.bool (PF.impl_ResStep_isAxiom a0))) := by
 obtain ⟨r, hp⟩ : ∃ r, (PF.impl_ResStep_isAxiom a0) = r := ⟨_, rfl⟩
 rw [hp]
 unfold PF.impl_ResStep_isAxiom at hp
 have S0 := St.init hs
 refine calls_go (N := 6) (args := [Value.agg #[v0_0, Value.int .i64 a0.left, Value.int .i64 a0.right, Value.int .i64 a0.pivot]]) Tryz.func42 rfl rfl rfl ?_
 refine FW.seq (FW.region ?_)
 obtain ⟨b21, w22, run23, S24⟩ := S0.box (P := Tryz.prog) 52 [v0_0, Value.int .i64 a0.left, Value.int .i64 a0.right, Value.int .i64 a0.pivot] (v := Value.agg #[v0_0, Value.int .i64 a0.left, Value.int .i64 a0.right, Value.int .i64 a0.pivot]) rfl (ones_cons p0_0.one (ones_cons rfl (ones_cons rfl (ones_cons rfl ones_nil))))
 refine FL.v (E.box rfl run23) ?_
 obtain ⟨H25, S26, i27, at28⟩ := S24.sealBox (i := 0) (l' := []) rfl rfl
 refine FL.v (E.assign (v := Value.bool false) rfl) ?_
 refine FL.nil (FW.seq (FW.region ?_))
 refine FL.v (E.fieldAddr tf52_1 rfl) ?_
 refine FL.v (E.load rfl (run_load1 Tryz.isAgg3 (at28.now S26.sl) rfl)) ?_
 refine FL.v (E.lss rfl rfl) ?_
 refine FL.v (E.assign (v := Value.bool (decide (a0.left < 0))) rfl) ?_
 refine FL.nil ?_
 refine FW.ret ?_
 obtain rfl := hp
 exact ⟨.inr rfl, res1 rfl rfl ⟨rfl, S26.back⟩⟩

theorem w_impl_ResStep_isWeakening {Ha : GH} {wa : World} (hs : Sl Ha wa) (a0 : ResStep) (v0_0 : Value) (p0_0 : RSl Ha eI 1 v0_0 a0.clause) :
  Calls Tryz.prog 43 #[Value.agg #[v0_0, Value.int .i64 a0.left, Value.int .i64 a0.right, Value.int .i64 a0.pivot]] wa (Sc Ha wa (Value.bool (PF.impl_ResStep_isWeakening a0))) := by
 obtain ⟨r, hp⟩ : ∃ r, (PF.impl_ResStep_isWeakening a0) = r := ⟨_, rfl⟩
 rw [hp]
 unfold PF.impl_ResStep_isWeakening at hp
 have S0 := St.init hs
 refine calls_go (N := 11) (args := [Value.agg #[v0_0, Value.int .i64 a0.left, Value.int .i64 a0.right, Value.int .i64 a0.pivot]]) Tryz.func43 rfl rfl rfl ?_
 refine FW.seq (FW.region ?_)
 obtain ⟨b21, w22, run23, S24⟩ := S0.box (P := Tryz.prog) 52 [v0_0, Value.int .i64 a0.left, Value.int .i64 a0.right, Value.int .i64 a0.pivot] (v := Value.agg #[v0_0, Value.int .i64 a0.left, Value.int .i64 a0.right, Value.int .i64 a0.pivot]) rfl (ones_cons p0_0.one (ones_cons rfl (ones_cons rfl (ones_cons rfl ones_nil))))
 refine FL.v (E.box rfl run23) ?_
 obtain ⟨H25, S26, i27, at28⟩ := S24.sealBox (i := 0) (l' := []) rfl rfl
 refine FL.v (E.assign (v := Value.bool false) rfl) ?_
 refine FL.nil (FW.seq (FW.region ?_))
 refine FL.v (E.fieldAddr tf52_1 rfl) ?_
 refine FL.v (E.load rfl (run_load1 Tryz.isAgg3 (at28.now S26.sl) rfl)) ?_
 refine FL.v (E.geq rfl rfl) ?_
 refine FL.v (E.move (v := Value.bool (decide (0 ≤ a0.left))) rfl) ?_
 refine FL.cut 4 (fun f w => ∃ H : GH, St Ha wa H w [] ∧ Inc H25 H ∧ f 10 = Value.bool (bif (decide (0 ≤ a0.left)) then (decide (a0.right < 0)) else false)) ?_ ?_
 ·
  rcases bcase (decide (0 ≤ a0.left)) with c35 | c35
  ·
   refine FL.val (wF_yes rfl rfl rfl c35) rfl rfl (E.fieldAddr tf52_2 rfl) ?_
   refine FL.val (wF_yes rfl rfl rfl c35) rfl rfl (E.load rfl (run_load1 Tryz.isAgg3 (at28.now S26.sl) rfl)) ?_
   refine FL.val (wF_yes rfl rfl rfl c35) rfl rfl (E.lss rfl rfl) ?_
   refine FL.v (E.pickT rfl c35 rfl) ?_
   exact FL.nil ⟨rfl, _, S26, (Inc.rfl _), (congrArg Value.bool (bifT c35).symm)⟩
  ·
   refine FL.skip (wF_no rfl rfl rfl c35) rfl ?_
   refine FL.skip (wF_no rfl rfl rfl c35) rfl ?_
   refine FL.skip (wF_no rfl rfl rfl c35) rfl ?_
   refine FL.v (E.pickF rfl c35 rfl) ?_
   exact FL.nil ⟨rfl, _, S26, (Inc.rfl _), (congrArg Value.bool (bifF c35).symm)⟩
 rintro f34 w33 ⟨H30, S31, i32, k36⟩
 refine FL.v (E.assign k36) ?_
 refine FL.nil ?_
 refine FW.ret ?_
 obtain rfl := hp
 exact ⟨.inr rfl, res1 rfl rfl ⟨rfl, S31.back⟩⟩

theorem w_impl_stepText {Ha : GH} {wa : World} (hs : Sl Ha wa) (a0 : Int) (a1 : ResStep) (v1_0 : Value) (p1_0 : RSl Ha eI 1 v1_0 a1.clause) (hT : TabI Tryz.prog Ha) {r : ByteArray} (hp : (PF.impl_stepText a0 a1) = some r) :
  Calls Tryz.prog 26 #[Value.int .i64 a0, Value.agg #[v1_0, Value.int .i64 a1.left, Value.int .i64 a1.right, Value.int .i64 a1.pivot]] wa (Sc Ha (wz wa) (Value.string r)) := by
 unfold PF.impl_stepText at hp
 have S0 := St.init0 hs
 refine calls_go (N := 47) (args := [Value.int .i64 a0, Value.agg #[v1_0, Value.int .i64 a1.left, Value.int .i64 a1.right, Value.int .i64 a1.pivot]]) Tryz.func26 rfl rfl rfl ?_
 refine FW.seq (FW.region ?_)
 obtain ⟨b21, w22, run23, S24⟩ := S0.box (P := Tryz.prog) 52 [v1_0, Value.int .i64 a1.left, Value.int .i64 a1.right, Value.int .i64 a1.pivot] (v := Value.agg #[v1_0, Value.int .i64 a1.left, Value.int .i64 a1.right, Value.int .i64 a1.pivot]) rfl (ones_cons p1_0.one (ones_cons rfl (ones_cons rfl (ones_cons rfl ones_nil))))
 refine FL.v (E.box rfl run23) ?_
 obtain ⟨H25, S26, i27, at28⟩ := S24.sealBox (i := 0) (l' := []) rfl rfl
 refine FL.v (E.assign (v := Value.string (ByteArray.mk #[])) rfl) ?_
 refine FL.nil (FW.seq ?_)
 obtain ⟨r32, hr33, hp⟩ := bnd hp
 obtain ⟨z37, h38, hp⟩ := bnd hp
 obtain ⟨r39, hr40, hp⟩ := bnd hp
 obtain ⟨z44, h45, hp⟩ := bnd hp
 refine FW.drawB (Sl H25) (fun f w => ∃ H : GH, St Ha (wz wa) H w [] ∧ Inc H25 H ∧ f 3 = Value.pointer (some ⟨b21, 0, none⟩) ∧ f 5 = Value.string z44) (by kernel_rfl) S26.sl ?_ ?_
 ·
  intro w29 r30
  have S31 := S26.call r30
  refine FB.t (i := 0) (bs 8 1) rfl (SP.nil S31.sl) rfl (fun w' hw' => (E.move (v := Value.int .i64 a0) rfl)) ?_
  refine FB.t (i := 3) (bs 8 9) rfl (SP.nil S31.sl) rfl (fun w' hw' => (E.fieldAddr tf52_0 rfl)) ?_
  refine FB.t (i := 4) (bs 8 25) rfl (SP.nil S31.sl) rfl (fun w' hw' => (E.load rfl (run_load1 Tryz.isAgg48 (at28.now hw') rfl))) ?_
  refine FB.all1 (i := 1) (by kernel_rfl) ?_
  ·
   refine FC.call (l' := (bs 8 27)) rfl (by kernel_rfl) rfl rfl rfl (E.call Tryz.call40 (A1 rfl)) (w_strconv_Itoa S31.sl a0 (hT.mono i27) hr33) ?_
   rintro e w34 ⟨rfl, r35⟩
   refine ⟨_, rfl, ?_⟩
   have S36 := S31.call r35
   refine ⟨(SP.nil S36.sl), ?_⟩
   refine FB.t (i := 2) (bs 8 31) rfl (SP.nil S36.sl) rfl (fun w' hw' => (E.addT rfl rfl h38)) ?_
   refine FB.all1 (i := 5) (by kernel_rfl) ?_
   ·
    refine FC.call (l' := (bs 8 63)) rfl (by kernel_rfl) rfl rfl rfl (E.call Tryz.call41 (A1 rfl)) (w_impl_clauseText S36.sl v1_0 a1.clause (p1_0.mono i27) (hT.mono i27) hr40) ?_
    rintro e w41 ⟨rfl, r42⟩
    refine ⟨_, rfl, ?_⟩
    have S43 := S36.callX rfl r42
    refine ⟨(SP.nil S43.sl), ?_⟩
    refine FB.t (i := 6) (bs 8 127) rfl (SP.nil S43.sl) rfl (fun w' hw' => (E.addT rfl rfl h45)) ?_
    refine FB.t (i := 7) (bs 8 255) rfl (SP.nil S43.sl) rfl (fun w' hw' => (E.assign (v := Value.string z44) rfl)) ?_
    exact FB.done (by kernel_rfl) ⟨_, S43, (Inc.rfl _), rfl, rfl⟩
 ·
  rintro f50 w49 ⟨H46, S47, i48, k51, k53⟩
  refine FW.seq (FW.block (FW.seq (FW.region ?_)))
  refine FL.v (E.load k51 (run_loadA Tryz.isAgg52 Tryz.sizeOf52 ((at28.mono i48).now S47.sl) rfl)) ?_
  refine FL.call rfl rfl rfl (E.call Tryz.call42 (A1 rfl)) (w_impl_ResStep_isAxiom S47.sl a1 v1_0 (p1_0.mono (i27.tr i48))) ?_
  rintro e w54 ⟨rfl, r55⟩
  refine ⟨_, rfl, ?_⟩
  have S56 := S47.call r55
  refine FL.v (E.assign (v := Value.bool (PF.impl_ResStep_isAxiom a1)) rfl) ?_
  refine FL.nil ?_
  rcases ifB hp with ⟨c57, hp⟩ | ⟨c57, hp⟩
  ·
   refine FW.condT rfl c57 ?_
   refine FW.seq (FW.region ?_)
   refine FL.v (E.move k53) ?_
   obtain ⟨z58, h59, hp⟩ := bnd hp
   refine FL.v (E.addT rfl rfl h59) ?_
   refine FL.v (E.fieldAddr tf52_2 k51) ?_
   refine FL.v (E.load rfl (run_load1 Tryz.isAgg3 ((at28.mono i48).now S56.sl) rfl)) ?_
   obtain ⟨r60, hr61, hp⟩ := bnd hp
   refine FL.call rfl rfl rfl (E.call Tryz.call40 (A1 rfl)) (w_strconv_Itoa S56.sl a1.right (hT.mono (i27.tr i48)) hr61) ?_
   rintro e w62 ⟨rfl, r63⟩
   refine ⟨_, rfl, ?_⟩
   have S64 := S56.call r63
   obtain ⟨z65, h66, hp⟩ := bnd hp
   refine FL.v (E.addT rfl rfl h66) ?_
   refine FL.v (E.assign (v := Value.string z65) rfl) ?_
   refine FL.nil ?_
   refine FW.ret ?_
   obtain rfl := Option.some.inj hp
   exact ⟨.inr rfl, res1 rfl rfl ⟨rfl, S64.back⟩⟩
  ·
   refine FW.condF rfl c57 ?_
   refine FW.seq (FW.region ?_)
   refine FL.v (E.load k51 (run_loadA Tryz.isAgg52 Tryz.sizeOf52 ((at28.mono i48).now S56.sl) rfl)) ?_
   refine FL.call rfl rfl rfl (E.call Tryz.call43 (A1 rfl)) (w_impl_ResStep_isWeakening S56.sl a1 v1_0 (p1_0.mono (i27.tr i48))) ?_
   rintro e w67 ⟨rfl, r68⟩
   refine ⟨_, rfl, ?_⟩
   have S69 := S56.call r68
   refine FL.v (E.assign (v := Value.bool (PF.impl_ResStep_isWeakening a1)) rfl) ?_
   refine FL.nil ?_
   rcases ifB hp with ⟨c70, hp⟩ | ⟨c70, hp⟩
   ·
    refine FW.condT rfl c70 ?_
    refine FW.seq (FW.region ?_)
    refine FL.v (E.move k53) ?_
    obtain ⟨z71, h72, hp⟩ := bnd hp
    refine FL.v (E.addT rfl rfl h72) ?_
    refine FL.v (E.fieldAddr tf52_1 k51) ?_
    refine FL.v (E.load rfl (run_load1 Tryz.isAgg3 ((at28.mono i48).now S69.sl) rfl)) ?_
    obtain ⟨r73, hr74, hp⟩ := bnd hp
    refine FL.call rfl rfl rfl (E.call Tryz.call40 (A1 rfl)) (w_strconv_Itoa S69.sl a1.left (hT.mono (i27.tr i48)) hr74) ?_
    rintro e w75 ⟨rfl, r76⟩
    refine ⟨_, rfl, ?_⟩
    have S77 := S69.call r76
    obtain ⟨z78, h79, hp⟩ := bnd hp
    refine FL.v (E.addT rfl rfl h79) ?_
    refine FL.v (E.assign (v := Value.string z78) rfl) ?_
    refine FL.nil ?_
    refine FW.ret ?_
    obtain rfl := Option.some.inj hp
    exact ⟨.inr rfl, res1 rfl rfl ⟨rfl, S77.back⟩⟩
   ·
    refine FW.condF rfl c70 ?_
    refine FW.skip (FW.seq ?_)
    refine FW.draw (fun w' => Run w67.heap.size H46 w67 H46 w') (by kernel_rfl) (by kernel_rfl) (run_drew S69.sl) ?_
    refine FD.val rfl rfl rfl (fun w' hw' => (E.move k53)) ?_
    obtain ⟨z80, h81, hp⟩ := bnd hp
    refine FD.val rfl rfl rfl (fun w' hw' => (E.addT rfl rfl h81)) ?_
    refine FD.val rfl rfl rfl (fun w' hw' => (E.fieldAddr tf52_1 k51)) ?_
    refine FD.val rfl rfl rfl (fun w' hw' => (E.load rfl (run_load1 Tryz.isAgg3 ((at28.mono i48).now (S69.call hw').sl) rfl))) ?_
    obtain ⟨r82, hr83, hp⟩ := bnd hp
    refine FD.call rfl rfl rfl (fun w' hw' => (E.call Tryz.call40 (A1 rfl))) (fun w' hw' => Calls.cls hw' (w_strconv_Itoa (S69.call hw').sl a1.left (hT.mono (i27.tr i48)) hr83)) ?_
    obtain ⟨z84, h85, hp⟩ := bnd hp
    refine FD.val rfl rfl rfl (fun w' hw' => (E.addT rfl rfl h85)) ?_
    obtain ⟨z86, h87, hp⟩ := bnd hp
    refine FD.val rfl rfl rfl (fun w' hw' => (E.addT rfl rfl h87)) ?_
    refine FD.val rfl rfl rfl (fun w' hw' => (E.fieldAddr tf52_2 k51)) ?_
    refine FD.val rfl rfl rfl (fun w' hw' => (E.load rfl (run_load1 Tryz.isAgg3 ((at28.mono i48).now (S69.call hw').sl) rfl))) ?_
    obtain ⟨r88, hr89, hp⟩ := bnd hp
    refine FD.call rfl rfl rfl (fun w' hw' => (E.call Tryz.call40 (A1 rfl))) (fun w' hw' => Calls.cls hw' (w_strconv_Itoa (S69.call hw').sl a1.right (hT.mono (i27.tr i48)) hr89)) ?_
    obtain ⟨z90, h91, hp⟩ := bnd hp
    refine FD.val rfl rfl rfl (fun w' hw' => (E.addT rfl rfl h91)) ?_
    obtain ⟨z92, h93, hp⟩ := bnd hp
    refine FD.val rfl rfl rfl (fun w' hw' => (E.addT rfl rfl h93)) ?_
    refine FD.val rfl rfl rfl (fun w' hw' => (E.fieldAddr tf52_3 k51)) ?_
    refine FD.val rfl rfl rfl (fun w' hw' => (E.load rfl (run_load1 Tryz.isAgg3 ((at28.mono i48).now (S69.call hw').sl) rfl))) ?_
    obtain ⟨r94, hr95, hp⟩ := bnd hp
    refine FD.call rfl rfl rfl (fun w' hw' => (E.call Tryz.call40 (A1 rfl))) (fun w' hw' => Calls.cls hw' (w_strconv_Itoa (S69.call hw').sl a1.pivot (hT.mono (i27.tr i48)) hr95)) ?_
    obtain ⟨z96, h97, hp⟩ := bnd hp
    refine FD.val rfl rfl rfl (fun w' hw' => (E.addT rfl rfl h97)) ?_
    refine FD.val rfl rfl rfl (fun w' hw' => (E.assign (v := Value.string z96) rfl)) ?_
    refine FD.nil ?_
    intro w98 r100
    have S99 := S69.call r100
    refine FW.ret ?_
    obtain rfl := Option.some.inj hp
    exact ⟨.inr rfl, res1 rfl rfl ⟨rfl, S99.back⟩⟩

theorem w_impl_DerivationText {Ha : GH} {wa : World} (hs : Sl Ha wa) (a0 : Cnf) (v0_1 : Value) (p0_1 : RSl Ha (eL eI 1) 1 v0_1 a0.clauses) (v1 : Value) (a1 : List ResStep) (p1 : RSl Ha eResStep 4 v1 a1) (hT : TabI Tryz.prog Ha) {r : (ByteArray × Bool)} (hp : (PF.impl_DerivationText a0 a1) = some r) :
    Calls Tryz.prog 10 #[Value.agg #[Value.int .i64 a0.vars, v0_1], v1] wa (Sc Ha (wz wa) (Value.tuple #[Value.string r.1, Value.bool r.2])) := by
  unfold PF.impl_DerivationText at hp
  have S0 := St.init0 hs
  refine calls_go (N := 29) (args := [Value.agg #[Value.int .i64 a0.vars, v0_1], v1]) Tryz.func10 rfl rfl rfl ?_
  refine FW.seq (FW.region ?_)
  obtain ⟨b21, w22, run23, S24⟩ := S0.box (P := Tryz.prog) 30 [Value.int .i64 a0.vars, v0_1] (v := Value.agg #[Value.int .i64 a0.vars, v0_1]) rfl (ones_cons rfl (ones_cons p0_1.one ones_nil))
  refine FL.v (E.box rfl run23) ?_
  obtain ⟨H25, S26, i27, at28⟩ := S24.sealBox (i := 0) (l' := []) rfl rfl
  refine FL.v (E.assign (v := Value.string (ByteArray.mk #[])) rfl) ?_
  refine FL.v (E.assign (v := Value.bool false) rfl) ?_
  refine FL.nil (FW.seq (FW.seq (FW.region ?_)))
  refine FL.v (E.load rfl (run_loadA Tryz.isAgg30 Tryz.sizeOf30 (at28.now S26.sl) rfl)) ?_
  refine FL.v (E.move (v := v1) rfl) ?_
  obtain ⟨r29, hr30, hp⟩ := bnd hp
  refine FL.call rfl rfl rfl (E.call Tryz.call25 (A2 rfl rfl)) (w_impl_IsDerivation S26.sl a0 v0_1 (p0_1.mono i27) v1 a1 (p1.mono i27) hr30) ?_
  rintro e w31 ⟨rfl, r32⟩
  refine ⟨_, rfl, ?_⟩
  have S33 := S26.call r32
  refine FL.v (E.not rfl) ?_
  refine FL.nil ?_
  rcases ifB hp with ⟨c34, hp⟩ | ⟨c34, hp⟩
  ·
    refine FW.condT rfl c34 ?_
    refine FW.seq (FW.region ?_)
    refine FL.v (E.assign (v := Value.string (ByteArray.mk #[])) rfl) ?_
    refine FL.v (E.assign (v := Value.bool false) rfl) ?_
    refine FL.nil ?_
    refine FW.ret ?_
    obtain rfl := Option.some.inj hp
    exact ⟨.inr rfl, res2 rfl rfl rfl ⟨rfl, S33.back⟩⟩
  ·
    refine FW.condF rfl c34 ?_
    refine FW.skip (FW.seq (FW.region ?_))
    refine FL.v (E.assign (v := Value.slice none 0 0) rfl) ?_
    refine FL.nil (FW.seq (FW.seq (FW.region ?_)))
    refine FL.v (E.move (v := v1) rfl) ?_
    refine FL.v (E.lenP te32 rfl p1) ?_
    refine FL.v (E.move (v := Value.int .i64 0) rfl) ?_
    refine FL.nil ?_
    obtain ⟨q36, hq, hp⟩ := bndR hp
    refine FW.block ?_
    refine FW.mono (FW.forL (S := (List ByteArray)) (X := Empty) (fun (i36 : Nat) (s36 : (List ByteArray)) f w => ∃ H : GH, ∃ v37 : Value, ∃ n38 : Nat, ∃ cs39 : List Value, St Ha (wz wa) H w [.row 9 1 v37 n38 cs39] ∧ Inc H25 H ∧ Els (up (wz wa).heap.size H) eS 1 cs39 s36 ∧ f 15 = Value.int .i64 ((i36 : Nat) : Int) ∧ f 6 = v37 ∧ f 13 = v1 ∧ f 14 = Value.int .i64 (len a1)) (fun (q : Rs (List ByteArray) Empty) e f w => match q with | .go s36 => e = Exit.exit 0 ∧ (∃ H : GH, ∃ v37 : Value, ∃ n38 : Nat, ∃ cs39 : List Value, St Ha (wz wa) H w [.row 9 1 v37 n38 cs39] ∧ Inc H25 H ∧ Els (up (wz wa).heap.size H) eS 1 cs39 s36 ∧ f 6 = v37) | .rt x => x.elim) hq ⟨_, _, _, _, (S33.nil 9 1), (Inc.rfl _), Els.nil, rfl, rfl, rfl, rfl⟩ ?_ ?_) ?_
    ·
      clear hp hq
      rintro i36 y35 s36 f94 w93 ⟨H90, v37, n38, cs39, S91, i92, els40, k95, k96, k97, k98⟩ hx36 o139 hp
      refine FW.seq (FW.region ?_)
      refine FL.v (E.lssT k95 k98 (lss_len hx36)) ?_
      refine FL.nil (FW.seq ?_)
      refine FW.condT rfl rfl ?_
      refine FW.skip (FW.seq (FW.block (FW.seq (FW.region ?_))))
      refine FL.v (E.move k95) ?_
      obtain ⟨p99, cs100, pt101, l102, at103, rel104⟩ := p1.at (ix_nat hx36)
      obtain ⟨v105, rfl, h106⟩ := eResStep_open rel104
      refine FL.v (E.indexAddr te32 k97 k95 pt101) ?_
      refine FL.v (E.load rfl (run_loadA Tryz.isAgg52 Tryz.sizeOf52 ((at103.mono (i27.tr i92)).now S91.sl) rfl)) ?_
      obtain ⟨b107, w108, run109, S110⟩ := S91.alloc (P := Tryz.prog) 52 [Value.slice none 0 0, Value.int .i64 0, Value.int .i64 0, Value.int .i64 0] Tryz.zeroValue52 rfl (ones_cons rfl (ones_cons rfl (ones_cons rfl (ones_cons rfl ones_nil))))
      refine FL.v (E.alloc run109) ?_
      refine FL.v (E.assign (v := Value.int .i64 ((i36 : Nat) : Int)) rfl) ?_
      obtain ⟨w111, run112, S113⟩ := S110.store0 (P := Tryz.prog) (t := 52) (i := 0) (cs' := [v105, Value.int .i64 y35.left, Value.int .i64 y35.right, Value.int .i64 y35.pivot]) (l' := [.box b107 52 [v105, Value.int .i64 y35.left, Value.int .i64 y35.right, Value.int .i64 y35.pivot], .row 9 1 v37 n38 cs39]) (v := Value.agg #[v105, Value.int .i64 y35.left, Value.int .i64 y35.right, Value.int .i64 y35.pivot]) (c := [v105, Value.int .i64 y35.left, Value.int .i64 y35.right, Value.int .i64 y35.pivot]) rfl Tryz.sizeOf52 rfl rfl (ones_cons h106.one (ones_cons rfl (ones_cons rfl (ones_cons rfl ones_nil)))) (Nat.le_of_ble_eq_true rfl) rfl rfl
      refine FL.act rfl rfl (E.store rfl rfl run112) ?_
      obtain ⟨H114, S115, i116, at117⟩ := S113.sealBox (i := 0) (l' := [.row 9 1 v37 n38 cs39]) rfl rfl
      refine FL.nil (FW.region ?_)
      refine FL.v (E.move k96) ?_
      refine FL.v (E.move (v := Value.int .i64 ((i36 : Nat) : Int)) rfl) ?_
      refine FL.v (E.load rfl (run_loadA Tryz.isAgg52 Tryz.sizeOf52 (at117.now S115.sl) rfl)) ?_
      obtain ⟨r118, hr119, hp⟩ := bnd hp
      refine FL.call rfl rfl rfl (E.call Tryz.call26 (A2 rfl rfl)) (w_impl_stepText S115.sl ((i36 : Nat) : Int) y35 v105 (h106.mono ((i27.tr i92).tr i116)) (hT.mono ((i27.tr i92).tr i116)) hr119) ?_
      rintro e w120 ⟨rfl, r121⟩
      refine ⟨_, rfl, ?_⟩
      have S122 := S115.callX rfl r121
      obtain ⟨v123, w124, run125, S126⟩ := S122.buildSlice (P := Tryz.prog) te57 [Value.string r118] (parts := #[(0, Value.string r118)]) (cells := [Value.string r118]) rfl (szs_cons rfl szs_nil) (fc_cons rfl fc_nil) (ones_cons rfl ones_nil) (Nat.le_of_ble_eq_true rfl)
      have els127 : Els (up (wz wa).heap.size H114) eS 1 [Value.string r118] [r118] := (Els.snoc (H := (up (wz wa).heap.size H114)) (E := eS) (k := 1) (c := [Value.string r118]) (x := r118) Els.nil rfl rfl)
      refine FL.v (E.buildSlice (B1 rfl) run125) ?_
      obtain ⟨xs128, hz129, hp⟩ := bnd hp
      obtain ⟨v130, w133, n131, cs132, run134, S135, els136, ce137⟩ := S126.appendO (P := Tryz.prog) te57 (i := 1) (j := 0) rfl (els40.mono (up_mono i116)) rfl els127 hz129
      have S135 : St Ha (wz wa) H114 w133 [.row 9 1 v123 1 [Value.string r118], .row 9 1 v130 n131 cs132] := S135
      have S138 : St Ha (wz wa) H114 w133 [.row 9 1 v130 n131 cs132] := S135.drop 0
      refine FL.v (E.append rfl rfl run134) ?_
      refine FL.v (E.assign (v := v130) rfl) ?_
      refine FL.nil (FW.region ?_)
      refine FL.v (E.add k95 rfl) ?_
      refine FL.v (E.move (v := Value.int .i64 (wr (((i36 : Nat) : Int) + 1))) rfl) ?_
      refine FL.nil ?_
      obtain rfl := Option.some.inj hp
      exact ⟨rfl, ⟨_, _, _, _, S138, (i92.tr i116), els136, (nat_succ rfl (lt_of_get hx36) (p1.mono ((i27.tr i92).tr i116)).le), rfl, k97, k98⟩⟩
    ·
      clear hp hq
      rintro s36 f160 w159 ⟨H156, v37, n38, cs39, S157, i158, els40, k161, k162, k163, k164⟩
      refine FW.seq (FW.region ?_)
      refine FL.v (E.lss k161 k164) ?_
      refine FL.nil (FW.seq ?_)
      refine FW.condF rfl dlt_len ?_
      refine FW.exit ?_
      exact ⟨nofun, rfl, ⟨_, _, _, _, S157, i158, els40, k162⟩⟩
    ·
      clear hq
      intro e f144 w143 hD
      rcases q36 with s36 | x36
      ·
        obtain ⟨rfl, hD⟩ := hD
        obtain ⟨H140, v37, n38, cs39, S141, i142, els40, k145⟩ := hD
        replace hp := el_go hp
        refine FW.seq (FW.region ?_)
        refine FL.v (E.move k145) ?_
        obtain ⟨H146, S147, i148, h149, nv150⟩ := S141.sealRowU (i := 0) (l' := []) rfl els40 (by decide) rfl
        obtain ⟨r151, hr152, hp⟩ := bnd hp
        refine FL.call rfl rfl rfl (E.call Tryz.call27 (A2 rfl rfl)) (w_strings_Join S147.sl v37 s36 (h149.mono upI) (ByteArray.mk #[59, 32]) hr152) ?_
        rintro e w153 ⟨rfl, r154⟩
        refine ⟨_, rfl, ?_⟩
        have S155 := S147.callX rfl r154
        refine FL.v (E.assign (v := Value.string r151) rfl) ?_
        refine FL.v (E.assign (v := Value.bool true) rfl) ?_
        refine FL.nil ?_
        refine FW.ret ?_
        obtain rfl := Option.some.inj hp
        exact ⟨.inr rfl, res2 rfl rfl rfl ⟨rfl, S155.back⟩⟩
      · exact x36.elim

theorem w_laws_eqIntS {Ha : GH} {wa : World} (hs : Sl Ha wa) (v0 : Value) (a0 : List Int) (p0 : RSl Ha eI 1 v0 a0) (v1 : Value) (a1 : List Int) (p1 : RSl Ha eI 1 v1 a1) {r : Bool} (hp : (PF.laws_eqIntS a0 a1) = some r) :
  Calls Tryz.prog 47 #[v0, v1] wa (Sc Ha wa (Value.bool r)) := by
 unfold PF.laws_eqIntS at hp
 have S0 := St.init hs
 refine calls_go (N := 26) (args := [v0, v1]) Tryz.func47 rfl rfl rfl ?_
 refine FW.seq (FW.region ?_)
 refine FL.v (E.assign (v := Value.bool false) rfl) ?_
 refine FL.nil (FW.seq (FW.seq (FW.region ?_)))
 refine FL.v (E.move (v := v0) rfl) ?_
 refine FL.v (E.lenP te48 rfl p0) ?_
 refine FL.v (E.move (v := v1) rfl) ?_
 refine FL.v (E.lenP te48 rfl p1) ?_
 refine FL.v (E.neq rfl rfl) ?_
 refine FL.nil ?_
 rcases ifB hp with ⟨c21, hp⟩ | ⟨c21, hp⟩
 ·
  refine FW.condT rfl c21 ?_
  refine FW.seq (FW.region ?_)
  refine FL.v (E.assign (v := Value.bool false) rfl) ?_
  refine FL.nil ?_
  refine FW.ret ?_
  obtain rfl := Option.some.inj hp
  exact ⟨.inr rfl, res1 rfl rfl ⟨rfl, S0.back⟩⟩
 ·
  refine FW.condF rfl c21 ?_
  refine FW.skip (FW.seq (FW.seq (FW.region ?_)))
  refine FL.v (E.assign (v := Value.int .i64 0) rfl) ?_
  refine FL.nil ?_
  obtain ⟨q23, hq, hp⟩ := bndR hp
  refine FW.block ?_
  refine FW.mono (FW.forL (S := Unit) (X := Bool) (fun (i23 : Nat) (s23 : Unit) f w => ∃ H : GH, St Ha wa H w [] ∧ Inc Ha H ∧ f 5 = Value.int .i64 ((i23 : Nat) : Int) ∧ f 0 = v0 ∧ f 1 = v1) (fun q e f w => match q with | .go s23 => e = Exit.exit 0 ∧ (∃ H : GH, St Ha wa H w [] ∧ Inc Ha H) | .rt x => ((e = Exit.ret) ∧ (fun e f w => (e = Exit.normal ∨ e = Exit.ret) ∧ ∀ a, Fr (δ := []) 26 a f → ∃ v, (results Tryz.f47 a.tmps).run Tryz.prog w = .ok v w ∧ (Sc Ha wa (Value.bool x)) (.returned v) w) e f w)) hq ⟨_, S0, (Inc.rfl _), rfl, rfl, rfl⟩ ?_ ?_) ?_
  ·
   clear hp hq
   rintro i23 y22 s23 f55 w54 ⟨H51, S52, i53, k56, k57, k58⟩ hx23 o78 hp
   refine FW.seq (FW.seq (FW.region ?_))
   refine FL.v (E.move k56) ?_
   refine FL.v (E.move k57) ?_
   refine FL.v (E.lenP te48 rfl p0) ?_
   refine FL.v (E.lssT rfl rfl (lss_len hx23)) ?_
   refine FL.nil ?_
   refine FW.condT rfl rfl ?_
   refine FW.skip (FW.seq (FW.block (FW.seq ?_)))
   refine FW.draw (fun w' => Run w54.heap.size H51 w54 H51 w') (by kernel_rfl) (by kernel_rfl) (run_drew S52.sl) ?_
   refine FD.val rfl rfl rfl (fun w' hw' => (E.move k57)) ?_
   refine FD.val rfl rfl rfl (fun w' hw' => (E.move k56)) ?_
   obtain ⟨p60, cs61, pt62, l63, at64, rel65⟩ := p0.at (ix_nat hx23)
   obtain rfl := eI_open rel65
   refine FD.val rfl rfl rfl (fun w' hw' => (E.indexAddr te48 rfl rfl pt62)) ?_
   refine FD.val rfl rfl rfl (fun w' hw' => (E.load rfl (run_load0 Tryz.isAgg3 ((at64.mono i53).now (S52.call hw').sl) rfl))) ?_
   refine FD.val rfl rfl rfl (fun w' hw' => (E.move k58)) ?_
   refine FD.val rfl rfl rfl (fun w' hw' => (E.move k56)) ?_
   obtain ⟨x72, hx73, hp⟩ := bnd hp
   obtain ⟨p66, cs67, pt68, l69, at70, rel71⟩ := p1.at hx73
   obtain rfl := eI_open rel71
   refine FD.val rfl rfl rfl (fun w' hw' => (E.indexAddr te48 rfl rfl pt68)) ?_
   refine FD.val rfl rfl rfl (fun w' hw' => (E.load rfl (run_load0 Tryz.isAgg3 ((at70.mono i53).now (S52.call hw').sl) rfl))) ?_
   refine FD.val rfl rfl rfl (fun w' hw' => (E.neq rfl rfl)) ?_
   refine FD.nil ?_
   intro w74 r76
   have S75 := S52.call r76
   rcases ifB hp with ⟨c77, hp⟩ | ⟨c77, hp⟩
   ·
    refine FW.condT rfl c77 ?_
    refine FW.seq (FW.region ?_)
    refine FL.v (E.assign (v := Value.bool false) rfl) ?_
    refine FL.nil ?_
    refine FW.ret ?_
    obtain rfl := Option.some.inj hp
    exact ⟨nofun, rfl, ⟨.inr rfl, res1 rfl rfl ⟨rfl, S75.back⟩⟩⟩
   ·
    refine FW.condF rfl c77 ?_
    refine FW.skip (FW.region ?_)
    refine FL.v (E.move k56) ?_
    refine FL.v (E.add rfl rfl) ?_
    refine FL.v (E.assign (v := Value.int .i64 (wr (((i23 : Nat) : Int) + 1))) rfl) ?_
    refine FL.nil ?_
    obtain rfl := Option.some.inj hp
    exact ⟨rfl, ⟨_, S75, i53, (nat_succ rfl (lt_of_get hx23) (p0.mono i53).le), k57, k58⟩⟩
  ·
   clear hp hq
   rintro s23 f88 w87 ⟨H84, S85, i86, k89, k90, k91⟩
   refine FW.seq (FW.seq (FW.region ?_))
   refine FL.v (E.move k89) ?_
   refine FL.v (E.move k90) ?_
   refine FL.v (E.lenP te48 rfl p0) ?_
   refine FL.v (E.lss rfl rfl) ?_
   refine FL.nil ?_
   refine FW.condF rfl dlt_len ?_
   refine FW.exit ?_
   exact ⟨nofun, rfl, ⟨_, S85, i86⟩⟩
  ·
   clear hq
   intro e f83 w82 hD
   rcases q23 with s23 | x23
   ·
    obtain ⟨rfl, hD⟩ := hD
    obtain ⟨H79, S80, i81⟩ := hD
    replace hp := el_go hp
    refine FW.seq (FW.region ?_)
    refine FL.v (E.assign (v := Value.bool true) rfl) ?_
    refine FL.nil ?_
    refine FW.ret ?_
    obtain rfl := Option.some.inj hp
    exact ⟨.inr rfl, res1 rfl rfl ⟨rfl, S80.back⟩⟩
   ·
    obtain ⟨he, hL⟩ := hD
    replace hp := el_rt hp
    obtain rfl := Option.some.inj hp
    subst he
    exact hL

theorem w_laws_eqIntSS {Ha : GH} {wa : World} (hs : Sl Ha wa) (v0 : Value) (a0 : List (List Int)) (p0 : RSl Ha (eL eI 1) 1 v0 a0) (v1 : Value) (a1 : List (List Int)) (p1 : RSl Ha (eL eI 1) 1 v1 a1) {r : Bool} (hp : (PF.laws_eqIntSS a0 a1) = some r) :
  Calls Tryz.prog 28 #[v0, v1] wa (Sc Ha wa (Value.bool r)) := by
 unfold PF.laws_eqIntSS at hp
 have S0 := St.init hs
 refine calls_go (N := 27) (args := [v0, v1]) Tryz.func28 rfl rfl rfl ?_
 refine FW.seq (FW.region ?_)
 refine FL.v (E.assign (v := Value.bool false) rfl) ?_
 refine FL.nil (FW.seq (FW.seq (FW.region ?_)))
 refine FL.v (E.move (v := v0) rfl) ?_
 refine FL.v (E.lenP te22 rfl p0) ?_
 refine FL.v (E.move (v := v1) rfl) ?_
 refine FL.v (E.lenP te22 rfl p1) ?_
 refine FL.v (E.neq rfl rfl) ?_
 refine FL.nil ?_
 rcases ifB hp with ⟨c21, hp⟩ | ⟨c21, hp⟩
 ·
  refine FW.condT rfl c21 ?_
  refine FW.seq (FW.region ?_)
  refine FL.v (E.assign (v := Value.bool false) rfl) ?_
  refine FL.nil ?_
  refine FW.ret ?_
  obtain rfl := Option.some.inj hp
  exact ⟨.inr rfl, res1 rfl rfl ⟨rfl, S0.back⟩⟩
 ·
  refine FW.condF rfl c21 ?_
  refine FW.skip (FW.seq (FW.seq (FW.region ?_)))
  refine FL.v (E.assign (v := Value.int .i64 0) rfl) ?_
  refine FL.nil ?_
  obtain ⟨q23, hq, hp⟩ := bndR hp
  refine FW.block ?_
  refine FW.mono (FW.forL (S := Unit) (X := Bool) (fun (i23 : Nat) (s23 : Unit) f w => ∃ H : GH, St Ha wa H w [] ∧ Inc Ha H ∧ f 5 = Value.int .i64 ((i23 : Nat) : Int) ∧ f 0 = v0 ∧ f 1 = v1) (fun q e f w => match q with | .go s23 => e = Exit.exit 0 ∧ (∃ H : GH, St Ha wa H w [] ∧ Inc Ha H) | .rt x => ((e = Exit.ret) ∧ (fun e f w => (e = Exit.normal ∨ e = Exit.ret) ∧ ∀ a, Fr (δ := []) 27 a f → ∃ v, (results Tryz.f28 a.tmps).run Tryz.prog w = .ok v w ∧ (Sc Ha wa (Value.bool x)) (.returned v) w) e f w)) hq ⟨_, S0, (Inc.rfl _), rfl, rfl, rfl⟩ ?_ ?_) ?_
  ·
   clear hp hq
   rintro i23 y22 s23 f61 w60 ⟨H57, S58, i59, k62, k63, k64⟩ hx23 o90 hp
   refine FW.seq (FW.seq (FW.region ?_))
   refine FL.v (E.move k62) ?_
   refine FL.v (E.move k63) ?_
   refine FL.v (E.lenP te22 rfl p0) ?_
   refine FL.v (E.lssT rfl rfl (lss_len hx23)) ?_
   refine FL.nil ?_
   refine FW.condT rfl rfl ?_
   refine FW.skip (FW.seq (FW.block (FW.seq ?_)))
   refine FW.draw (fun w' => Run w60.heap.size H57 w60 H57 w') (by kernel_rfl) (by kernel_rfl) (run_drew S58.sl) ?_
   refine FD.val rfl rfl rfl (fun w' hw' => (E.move k63)) ?_
   refine FD.val rfl rfl rfl (fun w' hw' => (E.move k62)) ?_
   obtain ⟨p66, cs67, pt68, l69, at70, rel71⟩ := p0.at (ix_nat hx23)
   obtain ⟨v72, rfl, h73⟩ := eL_open rel71
   refine FD.val rfl rfl rfl (fun w' hw' => (E.indexAddr te22 rfl rfl pt68)) ?_
   refine FD.val rfl rfl rfl (fun w' hw' => (E.load rfl (run_load0 Tryz.isAgg48 ((at70.mono i59).now (S58.call hw').sl) rfl))) ?_
   refine FD.val rfl rfl rfl (fun w' hw' => (E.move k64)) ?_
   refine FD.val rfl rfl rfl (fun w' hw' => (E.move k62)) ?_
   obtain ⟨x80, hx81, hp⟩ := bnd hp
   obtain ⟨p74, cs75, pt76, l77, at78, rel79⟩ := p1.at hx81
   obtain ⟨v82, rfl, h83⟩ := eL_open rel79
   refine FD.val rfl rfl rfl (fun w' hw' => (E.indexAddr te22 rfl rfl pt76)) ?_
   refine FD.val rfl rfl rfl (fun w' hw' => (E.load rfl (run_load0 Tryz.isAgg48 ((at78.mono i59).now (S58.call hw').sl) rfl))) ?_
   obtain ⟨r84, hr85, hp⟩ := bnd hp
   refine FD.call rfl rfl rfl (fun w' hw' => (E.call Tryz.call47 (A2 rfl rfl))) (fun w' hw' => Calls.cls hw' (w_laws_eqIntS (S58.call hw').sl v72 y22 (h73.mono i59) v82 x80 (h83.mono i59) hr85)) ?_
   refine FD.val rfl rfl rfl (fun w' hw' => (E.not rfl)) ?_
   refine FD.nil ?_
   intro w86 r88
   have S87 := S58.call r88
   rcases ifB hp with ⟨c89, hp⟩ | ⟨c89, hp⟩
   ·
    refine FW.condT rfl c89 ?_
    refine FW.seq (FW.region ?_)
    refine FL.v (E.assign (v := Value.bool false) rfl) ?_
    refine FL.nil ?_
    refine FW.ret ?_
    obtain rfl := Option.some.inj hp
    exact ⟨nofun, rfl, ⟨.inr rfl, res1 rfl rfl ⟨rfl, S87.back⟩⟩⟩
   ·
    refine FW.condF rfl c89 ?_
    refine FW.skip (FW.region ?_)
    refine FL.v (E.move k62) ?_
    refine FL.v (E.add rfl rfl) ?_
    refine FL.v (E.assign (v := Value.int .i64 (wr (((i23 : Nat) : Int) + 1))) rfl) ?_
    refine FL.nil ?_
    obtain rfl := Option.some.inj hp
    exact ⟨rfl, ⟨_, S87, i59, (nat_succ rfl (lt_of_get hx23) (p0.mono i59).le), k63, k64⟩⟩
  ·
   clear hp hq
   rintro s23 f100 w99 ⟨H96, S97, i98, k101, k102, k103⟩
   refine FW.seq (FW.seq (FW.region ?_))
   refine FL.v (E.move k101) ?_
   refine FL.v (E.move k102) ?_
   refine FL.v (E.lenP te22 rfl p0) ?_
   refine FL.v (E.lss rfl rfl) ?_
   refine FL.nil ?_
   refine FW.condF rfl dlt_len ?_
   refine FW.exit ?_
   exact ⟨nofun, rfl, ⟨_, S97, i98⟩⟩
  ·
   clear hq
   intro e f95 w94 hD
   rcases q23 with s23 | x23
   ·
    obtain ⟨rfl, hD⟩ := hD
    obtain ⟨H91, S92, i93⟩ := hD
    replace hp := el_go hp
    refine FW.seq (FW.region ?_)
    refine FL.v (E.assign (v := Value.bool true) rfl) ?_
    refine FL.nil ?_
    refine FW.ret ?_
    obtain rfl := Option.some.inj hp
    exact ⟨.inr rfl, res1 rfl rfl ⟨rfl, S92.back⟩⟩
   ·
    obtain ⟨he, hL⟩ := hD
    replace hp := el_rt hp
    obtain rfl := Option.some.inj hp
    subst he
    exact hL

theorem w_laws_eqCnf {Ha : GH} {wa : World} (hs : Sl Ha wa) (a0 : Cnf) (v0_1 : Value) (p0_1 : RSl Ha (eL eI 1) 1 v0_1 a0.clauses) (a1 : Cnf) (v1_1 : Value) (p1_1 : RSl Ha (eL eI 1) 1 v1_1 a1.clauses) {r : Bool} (hp : (PF.laws_eqCnf a0 a1) = some r) :
  Calls Tryz.prog 11 #[Value.agg #[Value.int .i64 a0.vars, v0_1], Value.agg #[Value.int .i64 a1.vars, v1_1]] wa (Sc Ha wa (Value.bool r)) := by
 unfold PF.laws_eqCnf at hp
 have S0 := St.init hs
 refine calls_go (N := 16) (args := [Value.agg #[Value.int .i64 a0.vars, v0_1], Value.agg #[Value.int .i64 a1.vars, v1_1]]) Tryz.func11 rfl rfl rfl ?_
 refine FW.seq (FW.region ?_)
 obtain ⟨b21, w22, run23, S24⟩ := S0.box (P := Tryz.prog) 30 [Value.int .i64 a0.vars, v0_1] (v := Value.agg #[Value.int .i64 a0.vars, v0_1]) rfl (ones_cons rfl (ones_cons p0_1.one ones_nil))
 refine FL.v (E.box rfl run23) ?_
 obtain ⟨H25, S26, i27, at28⟩ := S24.sealBox (i := 0) (l' := []) rfl rfl
 obtain ⟨b29, w30, run31, S32⟩ := S26.box (P := Tryz.prog) 30 [Value.int .i64 a1.vars, v1_1] (v := Value.agg #[Value.int .i64 a1.vars, v1_1]) rfl (ones_cons rfl (ones_cons p1_1.one ones_nil))
 refine FL.v (E.box rfl run31) ?_
 obtain ⟨H33, S34, i35, at36⟩ := S32.sealBox (i := 0) (l' := []) rfl rfl
 refine FL.v (E.assign (v := Value.bool false) rfl) ?_
 refine FL.nil (FW.seq (FW.seq (FW.region ?_)))
 refine FL.v (E.fieldAddr tf30_0 rfl) ?_
 refine FL.v (E.load rfl (run_load1 Tryz.isAgg3 ((at28.mono i35).now S34.sl) rfl)) ?_
 refine FL.v (E.fieldAddr tf30_0 rfl) ?_
 refine FL.v (E.load rfl (run_load1 Tryz.isAgg3 (at36.now S34.sl) rfl)) ?_
 refine FL.v (E.neq rfl rfl) ?_
 refine FL.nil ?_
 rcases ifB hp with ⟨c37, hp⟩ | ⟨c37, hp⟩
 ·
  refine FW.condT rfl c37 ?_
  refine FW.seq (FW.region ?_)
  refine FL.v (E.assign (v := Value.bool false) rfl) ?_
  refine FL.nil ?_
  refine FW.ret ?_
  obtain rfl := Option.some.inj hp
  exact ⟨.inr rfl, res1 rfl rfl ⟨rfl, S34.back⟩⟩
 ·
  refine FW.condF rfl c37 ?_
  refine FW.skip (FW.seq (FW.seq (FW.region ?_)))
  refine FL.v (E.fieldAddr tf30_1 rfl) ?_
  refine FL.v (E.load rfl (run_load1 Tryz.isAgg22 ((at28.mono i35).now S34.sl) rfl)) ?_
  refine FL.v (E.fieldAddr tf30_1 rfl) ?_
  refine FL.v (E.load rfl (run_load1 Tryz.isAgg22 (at36.now S34.sl) rfl)) ?_
  obtain ⟨r38, hr39, hp⟩ := bnd hp
  refine FL.call rfl rfl rfl (E.call Tryz.call28 (A2 rfl rfl)) (w_laws_eqIntSS S34.sl v0_1 a0.clauses (p0_1.mono (i27.tr i35)) v1_1 a1.clauses (p1_1.mono (i27.tr i35)) hr39) ?_
  rintro e w40 ⟨rfl, r41⟩
  refine ⟨_, rfl, ?_⟩
  have S42 := S34.call r41
  refine FL.v (E.not rfl) ?_
  refine FL.nil ?_
  rcases ifB hp with ⟨c43, hp⟩ | ⟨c43, hp⟩
  ·
   refine FW.condT rfl c43 ?_
   refine FW.seq (FW.region ?_)
   refine FL.v (E.assign (v := Value.bool false) rfl) ?_
   refine FL.nil ?_
   refine FW.ret ?_
   obtain rfl := Option.some.inj hp
   exact ⟨.inr rfl, res1 rfl rfl ⟨rfl, S42.back⟩⟩
  ·
   refine FW.condF rfl c43 ?_
   refine FW.skip (FW.seq (FW.region ?_))
   refine FL.v (E.assign (v := Value.bool true) rfl) ?_
   refine FL.nil ?_
   refine FW.ret ?_
   obtain rfl := Option.some.inj hp
   exact ⟨.inr rfl, res1 rfl rfl ⟨rfl, S42.back⟩⟩

theorem w_laws_eqResStep {Ha : GH} {wa : World} (hs : Sl Ha wa) (a0 : ResStep) (v0_0 : Value) (p0_0 : RSl Ha eI 1 v0_0 a0.clause) (a1 : ResStep) (v1_0 : Value) (p1_0 : RSl Ha eI 1 v1_0 a1.clause) {r : Bool} (hp : (PF.laws_eqResStep a0 a1) = some r) :
  Calls Tryz.prog 29 #[Value.agg #[v0_0, Value.int .i64 a0.left, Value.int .i64 a0.right, Value.int .i64 a0.pivot], Value.agg #[v1_0, Value.int .i64 a1.left, Value.int .i64 a1.right, Value.int .i64 a1.pivot]] wa (Sc Ha wa (Value.bool r)) := by
 unfold PF.laws_eqResStep at hp
 have S0 := St.init hs
 refine calls_go (N := 26) (args := [Value.agg #[v0_0, Value.int .i64 a0.left, Value.int .i64 a0.right, Value.int .i64 a0.pivot], Value.agg #[v1_0, Value.int .i64 a1.left, Value.int .i64 a1.right, Value.int .i64 a1.pivot]]) Tryz.func29 rfl rfl rfl ?_
 refine FW.seq (FW.region ?_)
 obtain ⟨b21, w22, run23, S24⟩ := S0.box (P := Tryz.prog) 52 [v0_0, Value.int .i64 a0.left, Value.int .i64 a0.right, Value.int .i64 a0.pivot] (v := Value.agg #[v0_0, Value.int .i64 a0.left, Value.int .i64 a0.right, Value.int .i64 a0.pivot]) rfl (ones_cons p0_0.one (ones_cons rfl (ones_cons rfl (ones_cons rfl ones_nil))))
 refine FL.v (E.box rfl run23) ?_
 obtain ⟨H25, S26, i27, at28⟩ := S24.sealBox (i := 0) (l' := []) rfl rfl
 obtain ⟨b29, w30, run31, S32⟩ := S26.box (P := Tryz.prog) 52 [v1_0, Value.int .i64 a1.left, Value.int .i64 a1.right, Value.int .i64 a1.pivot] (v := Value.agg #[v1_0, Value.int .i64 a1.left, Value.int .i64 a1.right, Value.int .i64 a1.pivot]) rfl (ones_cons p1_0.one (ones_cons rfl (ones_cons rfl (ones_cons rfl ones_nil))))
 refine FL.v (E.box rfl run31) ?_
 obtain ⟨H33, S34, i35, at36⟩ := S32.sealBox (i := 0) (l' := []) rfl rfl
 refine FL.v (E.assign (v := Value.bool false) rfl) ?_
 refine FL.nil (FW.seq (FW.seq (FW.region ?_)))
 refine FL.v (E.fieldAddr tf52_0 rfl) ?_
 refine FL.v (E.load rfl (run_load1 Tryz.isAgg48 ((at28.mono i35).now S34.sl) rfl)) ?_
 refine FL.v (E.fieldAddr tf52_0 rfl) ?_
 refine FL.v (E.load rfl (run_load1 Tryz.isAgg48 (at36.now S34.sl) rfl)) ?_
 obtain ⟨r37, hr38, hp⟩ := bnd hp
 refine FL.call rfl rfl rfl (E.call Tryz.call47 (A2 rfl rfl)) (w_laws_eqIntS S34.sl v0_0 a0.clause (p0_0.mono (i27.tr i35)) v1_0 a1.clause (p1_0.mono (i27.tr i35)) hr38) ?_
 rintro e w39 ⟨rfl, r40⟩
 refine ⟨_, rfl, ?_⟩
 have S41 := S34.call r40
 refine FL.v (E.not rfl) ?_
 refine FL.nil ?_
 rcases ifB hp with ⟨c42, hp⟩ | ⟨c42, hp⟩
 ·
  refine FW.condT rfl c42 ?_
  refine FW.seq (FW.region ?_)
  refine FL.v (E.assign (v := Value.bool false) rfl) ?_
  refine FL.nil ?_
  refine FW.ret ?_
  obtain rfl := Option.some.inj hp
  exact ⟨.inr rfl, res1 rfl rfl ⟨rfl, S41.back⟩⟩
 ·
  refine FW.condF rfl c42 ?_
  refine FW.skip (FW.seq (FW.seq (FW.region ?_)))
  refine FL.v (E.fieldAddr tf52_1 rfl) ?_
  refine FL.v (E.load rfl (run_load1 Tryz.isAgg3 ((at28.mono i35).now S41.sl) rfl)) ?_
  refine FL.v (E.fieldAddr tf52_1 rfl) ?_
  refine FL.v (E.load rfl (run_load1 Tryz.isAgg3 (at36.now S41.sl) rfl)) ?_
  refine FL.v (E.neq rfl rfl) ?_
  refine FL.nil ?_
  rcases ifB hp with ⟨c43, hp⟩ | ⟨c43, hp⟩
  ·
   refine FW.condT rfl c43 ?_
   refine FW.seq (FW.region ?_)
   refine FL.v (E.assign (v := Value.bool false) rfl) ?_
   refine FL.nil ?_
   refine FW.ret ?_
   obtain rfl := Option.some.inj hp
   exact ⟨.inr rfl, res1 rfl rfl ⟨rfl, S41.back⟩⟩
  ·
   refine FW.condF rfl c43 ?_
   refine FW.skip (FW.seq (FW.seq (FW.region ?_)))
   refine FL.v (E.fieldAddr tf52_2 rfl) ?_
   refine FL.v (E.load rfl (run_load1 Tryz.isAgg3 ((at28.mono i35).now S41.sl) rfl)) ?_
   refine FL.v (E.fieldAddr tf52_2 rfl) ?_
   refine FL.v (E.load rfl (run_load1 Tryz.isAgg3 (at36.now S41.sl) rfl)) ?_
   refine FL.v (E.neq rfl rfl) ?_
   refine FL.nil ?_
   rcases ifB hp with ⟨c44, hp⟩ | ⟨c44, hp⟩
   ·
    refine FW.condT rfl c44 ?_
    refine FW.seq (FW.region ?_)
    refine FL.v (E.assign (v := Value.bool false) rfl) ?_
    refine FL.nil ?_
    refine FW.ret ?_
    obtain rfl := Option.some.inj hp
    exact ⟨.inr rfl, res1 rfl rfl ⟨rfl, S41.back⟩⟩
   ·
    refine FW.condF rfl c44 ?_
    refine FW.skip (FW.seq (FW.seq (FW.region ?_)))
    refine FL.v (E.fieldAddr tf52_3 rfl) ?_
    refine FL.v (E.load rfl (run_load1 Tryz.isAgg3 ((at28.mono i35).now S41.sl) rfl)) ?_
    refine FL.v (E.fieldAddr tf52_3 rfl) ?_
    refine FL.v (E.load rfl (run_load1 Tryz.isAgg3 (at36.now S41.sl) rfl)) ?_
    refine FL.v (E.neq rfl rfl) ?_
    refine FL.nil ?_
    rcases ifB hp with ⟨c45, hp⟩ | ⟨c45, hp⟩
    ·
     refine FW.condT rfl c45 ?_
     refine FW.seq (FW.region ?_)
     refine FL.v (E.assign (v := Value.bool false) rfl) ?_
     refine FL.nil ?_
     refine FW.ret ?_
     obtain rfl := Option.some.inj hp
     exact ⟨.inr rfl, res1 rfl rfl ⟨rfl, S41.back⟩⟩
    ·
     refine FW.condF rfl c45 ?_
     refine FW.skip (FW.seq (FW.region ?_))
     refine FL.v (E.assign (v := Value.bool true) rfl) ?_
     refine FL.nil ?_
     refine FW.ret ?_
     obtain rfl := Option.some.inj hp
     exact ⟨.inr rfl, res1 rfl rfl ⟨rfl, S41.back⟩⟩

theorem w_laws_eqResStepS {Ha : GH} {wa : World} (hs : Sl Ha wa) (v0 : Value) (a0 : List ResStep) (p0 : RSl Ha eResStep 4 v0 a0) (v1 : Value) (a1 : List ResStep) (p1 : RSl Ha eResStep 4 v1 a1) {r : Bool} (hp : (PF.laws_eqResStepS a0 a1) = some r) :
  Calls Tryz.prog 12 #[v0, v1] wa (Sc Ha wa (Value.bool r)) := by
 unfold PF.laws_eqResStepS at hp
 have S0 := St.init hs
 refine calls_go (N := 27) (args := [v0, v1]) Tryz.func12 rfl rfl rfl ?_
 refine FW.seq (FW.region ?_)
 refine FL.v (E.assign (v := Value.bool false) rfl) ?_
 refine FL.nil (FW.seq (FW.seq (FW.region ?_)))
 refine FL.v (E.move (v := v0) rfl) ?_
 refine FL.v (E.lenP te32 rfl p0) ?_
 refine FL.v (E.move (v := v1) rfl) ?_
 refine FL.v (E.lenP te32 rfl p1) ?_
 refine FL.v (E.neq rfl rfl) ?_
 refine FL.nil ?_
 rcases ifB hp with ⟨c21, hp⟩ | ⟨c21, hp⟩
 ·
  refine FW.condT rfl c21 ?_
  refine FW.seq (FW.region ?_)
  refine FL.v (E.assign (v := Value.bool false) rfl) ?_
  refine FL.nil ?_
  refine FW.ret ?_
  obtain rfl := Option.some.inj hp
  exact ⟨.inr rfl, res1 rfl rfl ⟨rfl, S0.back⟩⟩
 ·
  refine FW.condF rfl c21 ?_
  refine FW.skip (FW.seq (FW.seq (FW.region ?_)))
  refine FL.v (E.assign (v := Value.int .i64 0) rfl) ?_
  refine FL.nil ?_
  obtain ⟨q23, hq, hp⟩ := bndR hp
  refine FW.block ?_
  refine FW.mono (FW.forL (S := Unit) (X := Bool) (fun (i23 : Nat) (s23 : Unit) f w => ∃ H : GH, St Ha wa H w [] ∧ Inc Ha H ∧ f 5 = Value.int .i64 ((i23 : Nat) : Int) ∧ f 0 = v0 ∧ f 1 = v1) (fun q e f w => match q with | .go s23 => e = Exit.exit 0 ∧ (∃ H : GH, St Ha wa H w [] ∧ Inc Ha H) | .rt x => ((e = Exit.ret) ∧ (fun e f w => (e = Exit.normal ∨ e = Exit.ret) ∧ ∀ a, Fr (δ := []) 27 a f → ∃ v, (results Tryz.f12 a.tmps).run Tryz.prog w = .ok v w ∧ (Sc Ha wa (Value.bool x)) (.returned v) w) e f w)) hq ⟨_, S0, (Inc.rfl _), rfl, rfl, rfl⟩ ?_ ?_) ?_
  ·
   clear hp hq
   rintro i23 y22 s23 f61 w60 ⟨H57, S58, i59, k62, k63, k64⟩ hx23 o90 hp
   refine FW.seq (FW.seq (FW.region ?_))
   refine FL.v (E.move k62) ?_
   refine FL.v (E.move k63) ?_
   refine FL.v (E.lenP te32 rfl p0) ?_
   refine FL.v (E.lssT rfl rfl (lss_len hx23)) ?_
   refine FL.nil ?_
   refine FW.condT rfl rfl ?_
   refine FW.skip (FW.seq (FW.block (FW.seq ?_)))
   refine FW.draw (fun w' => Run w60.heap.size H57 w60 H57 w') (by kernel_rfl) (by kernel_rfl) (run_drew S58.sl) ?_
   refine FD.val rfl rfl rfl (fun w' hw' => (E.move k63)) ?_
   refine FD.val rfl rfl rfl (fun w' hw' => (E.move k62)) ?_
   obtain ⟨p66, cs67, pt68, l69, at70, rel71⟩ := p0.at (ix_nat hx23)
   obtain ⟨v72, rfl, h73⟩ := eResStep_open rel71
   refine FD.val rfl rfl rfl (fun w' hw' => (E.indexAddr te32 rfl rfl pt68)) ?_
   refine FD.val rfl rfl rfl (fun w' hw' => (E.load rfl (run_loadA Tryz.isAgg52 Tryz.sizeOf52 ((at70.mono i59).now (S58.call hw').sl) rfl))) ?_
   refine FD.val rfl rfl rfl (fun w' hw' => (E.move k64)) ?_
   refine FD.val rfl rfl rfl (fun w' hw' => (E.move k62)) ?_
   obtain ⟨x80, hx81, hp⟩ := bnd hp
   obtain ⟨p74, cs75, pt76, l77, at78, rel79⟩ := p1.at hx81
   obtain ⟨v82, rfl, h83⟩ := eResStep_open rel79
   refine FD.val rfl rfl rfl (fun w' hw' => (E.indexAddr te32 rfl rfl pt76)) ?_
   refine FD.val rfl rfl rfl (fun w' hw' => (E.load rfl (run_loadA Tryz.isAgg52 Tryz.sizeOf52 ((at78.mono i59).now (S58.call hw').sl) rfl))) ?_
   obtain ⟨r84, hr85, hp⟩ := bnd hp
   refine FD.call rfl rfl rfl (fun w' hw' => (E.call Tryz.call29 (A2 rfl rfl))) (fun w' hw' => Calls.cls hw' (w_laws_eqResStep (S58.call hw').sl y22 v72 (h73.mono i59) x80 v82 (h83.mono i59) hr85)) ?_
   refine FD.val rfl rfl rfl (fun w' hw' => (E.not rfl)) ?_
   refine FD.nil ?_
   intro w86 r88
   have S87 := S58.call r88
   rcases ifB hp with ⟨c89, hp⟩ | ⟨c89, hp⟩
   ·
    refine FW.condT rfl c89 ?_
    refine FW.seq (FW.region ?_)
    refine FL.v (E.assign (v := Value.bool false) rfl) ?_
    refine FL.nil ?_
    refine FW.ret ?_
    obtain rfl := Option.some.inj hp
    exact ⟨nofun, rfl, ⟨.inr rfl, res1 rfl rfl ⟨rfl, S87.back⟩⟩⟩
   ·
    refine FW.condF rfl c89 ?_
    refine FW.skip (FW.region ?_)
    refine FL.v (E.move k62) ?_
    refine FL.v (E.add rfl rfl) ?_
    refine FL.v (E.assign (v := Value.int .i64 (wr (((i23 : Nat) : Int) + 1))) rfl) ?_
    refine FL.nil ?_
    obtain rfl := Option.some.inj hp
    exact ⟨rfl, ⟨_, S87, i59, (nat_succ rfl (lt_of_get hx23) (p0.mono i59).le), k63, k64⟩⟩
  ·
   clear hp hq
   rintro s23 f100 w99 ⟨H96, S97, i98, k101, k102, k103⟩
   refine FW.seq (FW.seq (FW.region ?_))
   refine FL.v (E.move k101) ?_
   refine FL.v (E.move k102) ?_
   refine FL.v (E.lenP te32 rfl p0) ?_
   refine FL.v (E.lss rfl rfl) ?_
   refine FL.nil ?_
   refine FW.condF rfl dlt_len ?_
   refine FW.exit ?_
   exact ⟨nofun, rfl, ⟨_, S97, i98⟩⟩
  ·
   clear hq
   intro e f95 w94 hD
   rcases q23 with s23 | x23
   ·
    obtain ⟨rfl, hD⟩ := hD
    obtain ⟨H91, S92, i93⟩ := hD
    replace hp := el_go hp
    refine FW.seq (FW.region ?_)
    refine FL.v (E.assign (v := Value.bool true) rfl) ?_
    refine FL.nil ?_
    refine FW.ret ?_
    obtain rfl := Option.some.inj hp
    exact ⟨.inr rfl, res1 rfl rfl ⟨rfl, S92.back⟩⟩
   ·
    obtain ⟨he, hL⟩ := hD
    replace hp := el_rt hp
    obtain rfl := Option.some.inj hp
    subst he
    exact hL

set_option maxHeartbeats 4000000 in
theorem w_laws_FnExactDerivationText {Ha : GH} {wa : World} (hs : Sl Ha wa) (a0 : Cnf) (v0_1 : Value) (p0_1 : RSl Ha (eL eI 1) 1 v0_1 a0.clauses) (v1 : Value) (a1 : List ResStep) (p1 : RSl Ha eResStep 4 v1 a1) (hT : TabI Tryz.prog Ha) {r : Bool} (hp : (PF.laws_FnExactDerivationText a0 a1) = some r) :
  Calls Tryz.prog 3 #[Value.agg #[Value.int .i64 a0.vars, v0_1], v1] wa (Sc Ha (wz wa) (Value.bool r)) := by
 unfold PF.laws_FnExactDerivationText at hp
 have S0 := St.init0 hs
 refine calls_go (N := 58) (args := [Value.agg #[Value.int .i64 a0.vars, v0_1], v1]) Tryz.func3 rfl rfl rfl ?_
 refine FW.seq (FW.region ?_)
 obtain ⟨w21, run22, S23, z24⟩ := S0.boxB (P := Tryz.prog) 24 [Value.int .i64 a0.vars, v0_1] (v := Value.agg #[Value.int .i64 a0.vars, v0_1]) rfl (ones_cons rfl (ones_cons p0_1.one ones_nil))
 refine FL.v (E.box rfl run22) ?_
 obtain ⟨H25, S26, i27, at28⟩ := S23.sealBoxB (i := 0) (l' := []) rfl rfl
 refine FL.v (E.assign (v := Value.bool false) rfl) ?_
 refine FL.nil (FW.seq (FW.region ?_))
 refine FL.v (E.assign (v := Value.int .i64 1048576) rfl) ?_
 refine FL.nil (FW.seq (FW.region ?_))
 refine FL.v (E.load rfl (run_loadA Tryz.isAgg24 Tryz.sizeOf24 ((at28.mono sgI).now S26.sl) rfl)) ?_
 refine FL.v (E.move (v := Value.int .i64 1048576) rfl) ?_
 obtain ⟨r29, hr30, hp⟩ := bnd hp
 refine FL.call rfl rfl rfl (E.call Tryz.call5 (A2 rfl rfl)) (w_laws_szCnf S26.sl a0 v0_1 (p0_1.mono i27) 1048576 hr30) ?_
 rintro e w31 ⟨rfl, r32⟩
 refine ⟨_, rfl, ?_⟩
 have S33 := S26.call r32
 have z34 := r32.bel.size
 refine FL.v (E.assign (v := Value.int .i64 r29) rfl) ?_
 refine FL.nil (FW.seq (FW.seq (FW.region ?_)))
 refine FL.v (E.move (v := Value.int .i64 r29) rfl) ?_
 refine FL.v (E.lss rfl rfl) ?_
 refine FL.nil ?_
 rcases ifB hp with ⟨c35, hp⟩ | ⟨c35, hp⟩
 ·
  refine FW.condT rfl c35 ?_
  refine FW.seq (FW.region ?_)
  refine FL.v (E.assign (v := Value.bool true) rfl) ?_
  refine FL.nil ?_
  refine FW.ret ?_
  obtain rfl := Option.some.inj hp
  exact ⟨.inr rfl, res1 rfl rfl ⟨rfl, S33.back⟩⟩
 ·
  refine FW.condF rfl c35 ?_
  refine FW.skip (FW.seq (FW.region ?_))
  refine FL.v (E.move (v := v1) rfl) ?_
  refine FL.v (E.move (v := Value.int .i64 r29) rfl) ?_
  obtain ⟨r36, hr37, hp⟩ := bnd hp
  refine FL.call rfl rfl rfl (E.call Tryz.call6 (A2 rfl rfl)) (w_laws_szResStepS S33.sl v1 a1 (p1.mono i27) r29 hr37) ?_
  rintro e w38 ⟨rfl, r39⟩
  refine ⟨_, rfl, ?_⟩
  have S40 := S33.call r39
  have z41 := r39.bel.size
  refine FL.v (E.assign (v := Value.int .i64 r36) rfl) ?_
  refine FL.nil (FW.seq (FW.seq (FW.region ?_)))
  refine FL.v (E.move (v := Value.int .i64 r36) rfl) ?_
  refine FL.v (E.lss rfl rfl) ?_
  refine FL.nil ?_
  rcases ifB hp with ⟨c42, hp⟩ | ⟨c42, hp⟩
  ·
   refine FW.condT rfl c42 ?_
   refine FW.seq (FW.region ?_)
   refine FL.v (E.assign (v := Value.bool true) rfl) ?_
   refine FL.nil ?_
   refine FW.ret ?_
   obtain rfl := Option.some.inj hp
   exact ⟨.inr rfl, res1 rfl rfl ⟨rfl, S40.back⟩⟩
  ·
   refine FW.condF rfl c42 ?_
   refine FW.skip (FW.seq (FW.region ?_))
   refine FL.v (E.load rfl (run_loadA Tryz.isAgg24 Tryz.sizeOf24 ((at28.mono sgI).now S40.sl) rfl)) ?_
   obtain ⟨r43, hr44, hp⟩ := bnd hp
   refine FL.call rfl rfl rfl (E.call Tryz.call8 (A1 rfl)) (w_laws_toCnf S40.sl a0 v0_1 (p0_1.mono i27) hr44) ?_
   rintro e w46 ⟨H45, v49, rfl, r48, ⟨c52, ns51⟩⟩
   refine ⟨_, rfl, ?_⟩
   have h50 := ns51.rsl
   have nv53 : New H25 c52 := New.of_up S40.sl (fun b hb => ns51.dom b (.inr hb))
   have nv54 : New H25 [v49] := New.of_up S40.sl h50.dom
   have S47 := S40.call r48
   have z55 := r48.bel.size
   have h50 := h50.mono (sg_of S47.sl)
   have ns51 := ns51.mono (sg_of S47.sl)
   refine FL.v (E.move (v := v1) rfl) ?_
   obtain ⟨r56, hr57, hp⟩ := bnd hp
   refine FL.call rfl rfl rfl (E.call Tryz.call9 (A1 rfl)) (w_laws_toResStepS S47.sl v1 a1 (p1.mono (i27.tr r48.inc)) hr57) ?_
   rintro e w59 ⟨H58, v62, n63, cs64, rfl, r61, els65, nd66⟩
   refine ⟨_, rfl, ?_⟩
   have nv67 : New H45 cs64 := New.of_up S47.sl els65.dom
   obtain ⟨H68, r69, i70, ns73, nv72⟩ := r61.sealRowN (i := 0) (l' := []) rfl els65 nd66 (by decide) rfl
   have h71 := ns73.rsl
   have S60 := S47.call r69.run
   have z74 := r69.run.bel.size
   have h71 := h71.mono (sg_of S60.sl)
   have ns73 := ns73.mono (sg_of S60.sl)
   obtain ⟨r75, hr76, hp⟩ := bnd hp
   refine FL.call rfl rfl rfl (E.call Tryz.call7 (A2 rfl rfl)) (w_spec_DerivationText S60.sl r43 v49 (h50.mono (sgI.tr r69.run.inc)) v62 r56 (h71.mono sgI) hr76) ?_
   rintro e w77 ⟨rfl, r78⟩
   refine ⟨_, rfl, ?_⟩
   have S79 := S60.call r78
   have z80 := r78.bel.size
   refine FL.v (E.move (v := Value.tuple #[Value.string r75.1, Value.bool r75.2]) rfl) ?_
   refine FL.v (E.extract (i := 0) rfl rfl) ?_
   refine FL.v (E.extract (i := 1) rfl rfl) ?_
   refine FL.v (E.assign (v := Value.string r75.1) rfl) ?_
   refine FL.v (E.assign (v := Value.bool r75.2) rfl) ?_
   refine FL.nil (FW.seq (FW.region ?_))
   refine FL.v (E.load rfl (run_loadA Tryz.isAgg24 Tryz.sizeOf24 ((at28.mono (sgI.tr (r48.inc.tr r69.run.inc))).now S79.sl) rfl)) ?_
   obtain ⟨r81, hr82, hp⟩ := bnd hp
   refine FL.call rfl rfl rfl (E.call Tryz.call8 (A1 rfl)) (w_laws_toCnf S79.sl a0 v0_1 (p0_1.mono ((i27.tr r48.inc).tr r69.run.inc)) hr82) ?_
   rintro e w84 ⟨H83, v87, rfl, r86, ⟨c90, ns89⟩⟩
   refine ⟨_, rfl, ?_⟩
   have h88 := ns89.rsl
   have nv91 : New H68 c90 := New.of_up S79.sl (fun b hb => ns89.dom b (.inr hb))
   have nv92 : New H68 [v87] := New.of_up S79.sl h88.dom
   have S85 := S79.call r86
   have z93 := r86.bel.size
   have h88 := h88.mono (sg_of S85.sl)
   have ns89 := ns89.mono (sg_of S85.sl)
   obtain ⟨w94, run95, S96, z97⟩ := S85.allocB (P := Tryz.prog) 30 [Value.int .i64 0, Value.slice none 0 0] Tryz.zeroValue30 rfl (ones_cons rfl (ones_cons rfl ones_nil))
   refine FL.v (E.alloc run95) ?_
   obtain ⟨w98, run99, S100, z101⟩ := S96.store0B (P := Tryz.prog) (t := 30) (i := 0) (cs' := [Value.int .i64 r81.vars, v87]) (l' := [.box w84.heap.size 30 [Value.int .i64 r81.vars, v87]]) (v := Value.agg #[Value.int .i64 r81.vars, v87]) (c := [Value.int .i64 r81.vars, v87]) rfl Tryz.sizeOf30 rfl rfl (ones_cons rfl (ones_cons h88.one ones_nil)) (Nat.le_of_ble_eq_true rfl) rfl rfl
   refine FL.act rfl rfl (E.store rfl rfl run99) ?_
   obtain ⟨H102, S103, i104, at105⟩ := S100.sealBoxB (i := 0) (l' := []) rfl rfl
   refine FL.nil (FW.seq (FW.region ?_))
   refine FL.v (E.move (v := v1) rfl) ?_
   obtain ⟨r106, hr107, hp⟩ := bnd hp
   refine FL.call rfl rfl rfl (E.call Tryz.call9 (A1 rfl)) (w_laws_toResStepS S103.sl v1 a1 (p1.mono ((((i27.tr r48.inc).tr r69.run.inc).tr r86.inc).tr i104)) hr107) ?_
   rintro e w109 ⟨H108, v112, n113, cs114, rfl, r111, els115, nd116⟩
   refine ⟨_, rfl, ?_⟩
   have nv117 : New H102 cs114 := New.of_up S103.sl els115.dom
   obtain ⟨H118, r119, i120, ns123, nv122⟩ := r111.sealRowN (i := 0) (l' := []) rfl els115 nd116 (by decide) rfl
   have h121 := ns123.rsl
   have S110 := S103.call r119.run
   have z124 := r119.run.bel.size
   have h121 := h121.mono (sg_of S110.sl)
   have ns123 := ns123.mono (sg_of S110.sl)
   refine FL.v (E.assign (v := v112) rfl) ?_
   refine FL.nil (FW.seq (FW.region ?_))
   refine FL.v (E.load rfl (run_loadA Tryz.isAgg30 Tryz.sizeOf30 ((at105.mono (sgI.tr r119.run.inc)).now S110.sl) rfl)) ?_
   refine FL.v (E.move (v := v112) rfl) ?_
   obtain ⟨r125, hr126, hp⟩ := bnd hp
   refine FL.call rfl rfl rfl (E.call Tryz.call10 (A2 rfl rfl)) (w_impl_DerivationText S110.sl r81 v87 (h88.mono (sgI.tr (i104.tr r119.run.inc))) v112 r106 (h121.mono sgI) (hT.mono (((((i27.tr r48.inc).tr r69.run.inc).tr r86.inc).tr i104).tr r119.run.inc)) hr126) ?_
   rintro e w127 ⟨rfl, r128⟩
   refine ⟨_, rfl, ?_⟩
   have S129 := S110.callX rfl r128
   have z130 := (below_z r128.bel).size
   refine FL.v (E.move (v := Value.tuple #[Value.string r125.1, Value.bool r125.2]) rfl) ?_
   refine FL.v (E.extract (i := 0) rfl rfl) ?_
   refine FL.v (E.extract (i := 1) rfl rfl) ?_
   refine FL.v (E.assign (v := Value.string r125.1) rfl) ?_
   refine FL.v (E.assign (v := Value.bool r125.2) rfl) ?_
   refine FL.nil (FW.seq (FW.seq (FW.region ?_)))
   refine FL.v (E.move (v := Value.string r125.1) rfl) ?_
   refine FL.v (E.move (v := Value.string r75.1) rfl) ?_
   refine FL.v (E.neqS rfl rfl) ?_
   refine FL.v (E.move (v := Value.bool (!(r125.1.toList == r75.1.toList))) rfl) ?_
   refine FL.cut 4 (fun f w => ∃ H : GH, St Ha (wz wa) H w [] ∧ Inc H118 H ∧ f 1 = v1 ∧ f 2 = Value.pointer (some ⟨wa.heap.size, 0, none⟩) ∧ f 8 = Value.pointer (some ⟨w84.heap.size, 0, none⟩) ∧ f 9 = v112 ∧ f 47 = Value.bool (bif (!(r125.1.toList == r75.1.toList)) then true else (!(r125.2 == r75.2)))) ?_ ?_
   ·
    rcases bcase (!(r125.1.toList == r75.1.toList)) with c137 | c137
    ·
     refine FL.skip (wF_no rfl rfl rfl c137) rfl ?_
     refine FL.skip (wF_no rfl rfl rfl c137) rfl ?_
     refine FL.skip (wF_no rfl rfl rfl c137) rfl ?_
     refine FL.v (E.pickT rfl c137 rfl) ?_
     exact FL.nil ⟨rfl, _, S129, (Inc.rfl _), rfl, rfl, rfl, rfl, (congrArg Value.bool (bifT c137).symm)⟩
    ·
     refine FL.val (wF_yes rfl rfl rfl c137) rfl rfl (E.move (v := Value.bool r125.2) rfl) ?_
     refine FL.val (wF_yes rfl rfl rfl c137) rfl rfl (E.move (v := Value.bool r75.2) rfl) ?_
     refine FL.val (wF_yes rfl rfl rfl c137) rfl rfl (E.neqB Tryz.runUnderlying4 rfl rfl) ?_
     refine FL.v (E.pickF rfl c137 rfl) ?_
     exact FL.nil ⟨rfl, _, S129, (Inc.rfl _), rfl, rfl, rfl, rfl, (congrArg Value.bool (bifF c137).symm)⟩
   rintro f136 w135 ⟨H132, S133, i134, k138, k139, k140, k141, k142⟩
   refine FL.nil ?_
   rcases ifB hp with ⟨c143, hp⟩ | ⟨c143, hp⟩
   ·
    refine FW.condT k142 c143 ?_
    refine FW.seq (FW.region ?_)
    refine FL.v (E.assign (v := Value.bool false) rfl) ?_
    refine FL.nil ?_
    refine FW.ret ?_
    obtain rfl := Option.some.inj hp
    exact ⟨.inr rfl, res1 rfl rfl ⟨rfl, S133.back⟩⟩
   ·
    refine FW.condF k142 c143 ?_
    refine FW.skip (FW.seq (FW.seq ?_))
    obtain ⟨r131, hr147, hp⟩ := bnd hp
    obtain ⟨r159, hr160, hp⟩ := bnd hp
    refine FW.drawB (Sl H132) (fun f w => ∃ H : GH, St Ha (wz wa) H w [] ∧ Inc H132 H ∧ f 1 = v1 ∧ f 9 = v112 ∧ f 52 = Value.bool (!r159)) (by kernel_rfl) S133.sl ?_ ?_
    ·
     intro w144 r145
     have S146 := S133.call r145
     refine FB.t (i := 0) (bs 5 1) rfl (SP.nil S146.sl) rfl (fun w' hw' => (E.load k140 (run_loadA Tryz.isAgg30 Tryz.sizeOf30 ((at105.mono (sgI.tr (r119.run.inc.tr i134))).now hw') rfl))) ?_
     refine FB.t (i := 1) (bs 5 3) rfl (SP.nil S146.sl) rfl (fun w' hw' => (E.load k139 (run_loadA Tryz.isAgg24 Tryz.sizeOf24 ((at28.mono (sgI.tr (((((r48.inc.tr r69.run.inc).tr r86.inc).tr i104).tr r119.run.inc).tr i134))).now hw') rfl))) ?_
     refine FB.all1 (i := 2) (by kernel_rfl) ?_
     ·
      refine FC.call (l' := (bs 5 7)) rfl (by kernel_rfl) rfl rfl rfl (E.call Tryz.call8 (A1 rfl)) (w_laws_toCnf S146.sl a0 v0_1 (p0_1.mono ((((((i27.tr r48.inc).tr r69.run.inc).tr r86.inc).tr i104).tr r119.run.inc).tr i134)) hr147) ?_
      rintro e w149 ⟨H148, v152, rfl, r151, ⟨c155, ns154⟩⟩
      refine ⟨_, rfl, ?_⟩
      have h153 := ns154.rsl
      have nv156 : New H132 c155 := New.of_up S146.sl (fun b hb => ns154.dom b (.inr hb))
      have nv157 : New H132 [v152] := New.of_up S146.sl h153.dom
      have S150 := S146.call r151
      have z158 := r151.bel.size
      have h153 := h153.mono (sg_of S150.sl)
      have ns154 := ns154.mono (sg_of S150.sl)
      refine ⟨(SP.nil (Sl.of_inc r151.inc S150.sl)), ?_⟩
      refine FB.all1 (i := 3) (by kernel_rfl) ?_
      ·
       refine FC.call (l' := (bs 5 15)) rfl (by kernel_rfl) rfl rfl rfl (E.call Tryz.call11 (A2 rfl rfl)) (w_laws_eqCnf S150.sl r81 v87 (h88.mono (sgI.tr (((i104.tr r119.run.inc).tr i134).tr r151.inc))) r131 v152 (h153.mono sgI) hr160) ?_
       rintro e w161 ⟨rfl, r162⟩
       refine ⟨_, rfl, ?_⟩
       have S163 := S150.call r162
       have z164 := r162.bel.size
       refine ⟨(SP.nil (Sl.of_inc r151.inc S163.sl)), ?_⟩
       refine FB.t (i := 4) (bs 5 31) rfl (SP.nil (Sl.of_inc r151.inc S163.sl)) rfl (fun w' hw' => (E.not rfl)) ?_
       exact FB.done (by kernel_rfl) ⟨_, S163, r151.inc, k138, k141, rfl⟩
    ·
     rintro f169 w168 ⟨H165, S166, i167, k170, k171, k172⟩
     rcases ifB hp with ⟨c173, hp⟩ | ⟨c173, hp⟩
     ·
      refine FW.condT k172 c173 ?_
      refine FW.seq (FW.region ?_)
      refine FL.v (E.assign (v := Value.bool false) rfl) ?_
      refine FL.nil ?_
      refine FW.ret ?_
      obtain rfl := Option.some.inj hp
      exact ⟨.inr rfl, res1 rfl rfl ⟨rfl, S166.back⟩⟩
     ·
      refine FW.condF k172 c173 ?_
      refine FW.skip (FW.seq (FW.seq (FW.region ?_)))
      refine FL.v (E.move k171) ?_
      refine FL.v (E.move k170) ?_
      obtain ⟨r174, hr175, hp⟩ := bnd hp
      refine FL.call rfl rfl rfl (E.call Tryz.call9 (A1 rfl)) (w_laws_toResStepS S166.sl v1 a1 (p1.mono (((((((i27.tr r48.inc).tr r69.run.inc).tr r86.inc).tr i104).tr r119.run.inc).tr i134).tr i167)) hr175) ?_
      rintro e w177 ⟨H176, v180, n181, cs182, rfl, r179, els183, nd184⟩
      refine ⟨_, rfl, ?_⟩
      have nv185 : New H165 cs182 := New.of_up S166.sl els183.dom
      obtain ⟨H186, r187, i188, ns191, nv190⟩ := r179.sealRowN (i := 0) (l' := []) rfl els183 nd184 (by decide) rfl
      have h189 := ns191.rsl
      have S178 := S166.call r187.run
      have z192 := r187.run.bel.size
      have h189 := h189.mono (sg_of S178.sl)
      have ns191 := ns191.mono (sg_of S178.sl)
      obtain ⟨r193, hr194, hp⟩ := bnd hp
      refine FL.call rfl rfl rfl (E.call Tryz.call12 (A2 rfl rfl)) (w_laws_eqResStepS S178.sl v112 r106 (h121.mono (sgI.tr ((i134.tr i167).tr r187.run.inc))) v180 r174 (h189.mono sgI) hr194) ?_
      rintro e w195 ⟨rfl, r196⟩
      refine ⟨_, rfl, ?_⟩
      have S197 := S178.call r196
      have z198 := r196.bel.size
      refine FL.v (E.not rfl) ?_
      refine FL.nil ?_
      rcases ifB hp with ⟨c199, hp⟩ | ⟨c199, hp⟩
      ·
       refine FW.condT rfl c199 ?_
       refine FW.seq (FW.region ?_)
       refine FL.v (E.assign (v := Value.bool false) rfl) ?_
       refine FL.nil ?_
       refine FW.ret ?_
       obtain rfl := Option.some.inj hp
       exact ⟨.inr rfl, res1 rfl rfl ⟨rfl, S197.back⟩⟩
      ·
       refine FW.condF rfl c199 ?_
       refine FW.skip (FW.seq (FW.region ?_))
       refine FL.v (E.assign (v := Value.bool true) rfl) ?_
       refine FL.nil ?_
       refine FW.ret ?_
       obtain rfl := Option.some.inj hp
       exact ⟨.inr rfl, res1 rfl rfl ⟨rfl, S197.back⟩⟩

end Go.Proofs
