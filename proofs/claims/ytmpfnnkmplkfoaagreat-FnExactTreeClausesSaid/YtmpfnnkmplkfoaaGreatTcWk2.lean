/- Part of the walks and plain laws behind the claim: it proves helpers, under no condition beyond their own. -/
import Derived.Test.YtmpfnnkmplkfoaaGreatTcWk1
set_option linter.unusedVariables false
set_option maxRecDepth 100000
namespace Go.Proofs
open Go.Mr Go.Pu Go.PF Go.RowKit

@[reducible] def p_slices_Sort_int_int (H0 : GH) (w0 : World) (Ha : GH) (L : List MO) (v0 : Value) (n0 : Nat) (r : (List Int)) : Ending → World → Prop :=
 fun e w' => ∃ H' : GH, ∃ c0k : List Value, e = .returned (Value.tuple #[]) ∧ (St H0 w0 H' w' (.row 3 1 v0 n0 c0k :: L) ∧ Inc Ha H') ∧ Els (up w0.heap.size H') eI 1 c0k r
theorem w_slices_Sort_int_int {H0 Ha : GH} {w0 wa : World} {L : List MO} {v0 : Value} {n0 : Nat} {k0 : List Value} (S0 : St H0 w0 Ha wa (.row 3 1 v0 n0 k0 :: L)) (a0 : List Int) (p0 : Els (up w0.heap.size Ha) eI 1 k0 a0) {r : (List Int)} (hp : (PF.slices_Sort_int_int a0) = some r) :
  Calls Tryz.prog 253 #[v0] wa (p_slices_Sort_int_int H0 w0 Ha L v0 n0 r) := by
 refine (St.sortInts (l := .row 3 1 v0 n0 k0 :: L) (i := 0) S0 rfl p0 (fun p cap w => Any.slices_Sort_int_none Tryz.sint253 p cap w) (fun blk off cap zs w hH hb hs => Any.slices_Sort_int Tryz.sint253 blk off cap zs w hH hb hs) hp).mono ?_
 rintro e w' ⟨rfl, c', h1, h2⟩
 exact ⟨_, _, rfl, ⟨h1, Inc.rfl _⟩, h2⟩

@[reducible] def p_slices_Compact_int_int (H0 : GH) (w0 : World) (Ha : GH) (L : List MO) (r : (List Int)) : Ending → World → Prop :=
 fun e w' => ∃ H' : GH, ∃ v0r : Value, ∃ n0r : Nat, ∃ c0r : List Value, e = .returned (v0r) ∧ (St H0 w0 H' w' (.row 3 1 v0r n0r c0r :: L) ∧ Inc Ha H') ∧ Els (up w0.heap.size H') eI 1 c0r r
theorem w_slices_Compact_int_int {H0 Ha : GH} {w0 wa : World} {L : List MO} {v0 : Value} {n0 : Nat} {k0 : List Value} (S0 : St H0 w0 Ha wa (.row 3 1 v0 n0 k0 :: L)) (a0 : List Int) (p0 : Els (up w0.heap.size Ha) eI 1 k0 a0) {r : (List Int)} (hp : (PF.slices_Compact_int_int a0) = some r) :
  Calls Tryz.prog 236 #[v0] wa (p_slices_Compact_int_int H0 w0 Ha L r) := by
 cases hp
 refine (St.compactF (l := .row 3 1 v0 n0 k0 :: L) (i := 0) S0 rfl p0 (enc := Value.int .i64) (fun _ => rfl) (fun _ _ _ h => by cases eI_open h; rfl) (fun _ _ => rfl) 0 (fun w => compact_none Tryz.comp236 w) (fun blk off cap d w hH hs hc => AnyE.slices_Compact Tryz.comp236 (Value.int .i64) (fun _ => rfl) (EqlAt.intD _ _ _) (NeqAt.intD _ _ _) 0 (fun w => Tryz.zeroValue3 w) blk off cap d w hH hs hc)).mono ?_
 rintro e w' ⟨v', n', c', rfl, h1, h2⟩
 exact ⟨_, _, _, _, rfl, ⟨h1, Inc.rfl _⟩, h2⟩

@[reducible] def p_impl_varsOf (Ha : GH) (wa : World) (r : (List Int)) : Ending → World → Prop :=
  fun e w' => ∃ H' : GH, ∃ v0 : Value, ∃ n0 : Nat, ∃ c0 : List Value, e = .returned (v0) ∧ St Ha wa H' w' [.row 3 1 v0 n0 c0] ∧ Els (up wa.heap.size H') eI 1 c0 r
theorem w_impl_varsOf {Ha : GH} {wa : World} (hs : Sl Ha wa) (v0 : Value) (a0 : List (List Int)) (p0 : RSl Ha (eL eI 1) 1 v0 a0) {r : (List Int)} (hp : (PF.impl_varsOf a0) = some r) :
    Calls Tryz.prog 234 #[v0] wa (p_impl_varsOf Ha wa r) := by
  unfold PF.impl_varsOf at hp
  have S0 := St.init hs
  refine calls_go (N := 31) (args := [v0]) Tryz.func234 rfl rfl rfl ?_
  refine FW.seq (FW.region ?_)
  refine FL.v (E.assign (v := Value.slice none 0 0) rfl) ?_
  refine FL.nil (FW.seq (FW.region ?_))
  refine FL.v (E.assign (v := Value.slice none 0 0) rfl) ?_
  refine FL.nil (FW.seq (FW.seq (FW.region ?_)))
  refine FL.v (E.move (v := v0) rfl) ?_
  refine FL.v (E.lenP te22 rfl p0) ?_
  refine FL.v (E.move (v := Value.int .i64 0) rfl) ?_
  refine FL.nil ?_
  obtain ⟨q22, hq, hp⟩ := bndR hp
  refine FW.block ?_
  refine FW.mono (FW.forL (S := (List Int)) (X := Empty) (fun (i22 : Nat) (s22 : (List Int)) f w => ∃ H : GH, ∃ v23 : Value, ∃ n24 : Nat, ∃ cs25 : List Value, St Ha wa H w [.row 3 1 v23 n24 cs25] ∧ Inc Ha H ∧ Els (up wa.heap.size H) eI 1 cs25 s22 ∧ f 10 = Value.int .i64 ((i22 : Nat) : Int) ∧ f 3 = v23 ∧ f 8 = v0 ∧ f 9 = Value.int .i64 (len a0)) (fun (q : Rs (List Int) Empty) e f w => match q with | .go s22 => e = Exit.exit 0 ∧ (∃ H : GH, ∃ v23 : Value, ∃ n24 : Nat, ∃ cs25 : List Value, St Ha wa H w [.row 3 1 v23 n24 cs25] ∧ Inc Ha H ∧ Els (up wa.heap.size H) eI 1 cs25 s22 ∧ f 3 = v23) | .rt x => x.elim) hq ⟨_, _, _, _, (S0.nil 3 1), (Inc.rfl _), Els.nil, rfl, rfl, rfl, rfl⟩ ?_ ?_) ?_
  ·
    clear hp hq
    rintro i22 y21 s22 f112 w111 ⟨H108, v23, n24, cs25, S109, i110, els26, k113, k114, k115, k116⟩ hx22 o227 hp
    refine FW.seq (FW.region ?_)
    refine FL.v (E.lssT k113 k116 (lss_len hx22)) ?_
    refine FL.nil (FW.seq ?_)
    refine FW.condT rfl rfl ?_
    refine FW.skip (FW.seq (FW.block (FW.seq (FW.region ?_))))
    obtain ⟨p117, cs118, pt119, l120, at121, rel122⟩ := p0.at (ix_nat hx22)
    obtain ⟨v123, rfl, h124⟩ := eL_open rel122
    refine FL.v (E.indexAddr te22 k115 k113 pt119) ?_
    refine FL.v (E.load rfl (run_load0 Tryz.isAgg84 ((at121.mono i110).now S109.sl) rfl)) ?_
    refine FL.v (E.assign (v := v123) rfl) ?_
    refine FL.nil (FW.seq (FW.region ?_))
    refine FL.v (E.move (v := v123) rfl) ?_
    refine FL.v (E.lenP te84 rfl h124) ?_
    refine FL.v (E.move (v := Value.int .i64 0) rfl) ?_
    refine FL.nil ?_
    obtain ⟨q126, hq, hp⟩ := bndR hp
    refine FW.block ?_
    refine FW.mono (FW.forL (S := (List Int)) (X := Empty) (fun (i126 : Nat) (s126 : (List Int)) f w => ∃ H : GH, ∃ v127 : Value, ∃ n128 : Nat, ∃ cs129 : List Value, St Ha wa H w [.row 3 1 v127 n128 cs129] ∧ Inc H108 H ∧ Els (up wa.heap.size H) eI 1 cs129 s126 ∧ f 16 = Value.int .i64 ((i126 : Nat) : Int) ∧ f 3 = v127 ∧ f 8 = v0 ∧ f 9 = Value.int .i64 (len a0) ∧ f 10 = Value.int .i64 ((i22 : Nat) : Int) ∧ f 14 = v123 ∧ f 15 = Value.int .i64 (len y21)) (fun (q : Rs (List Int) Empty) e f w => match q with | .go s126 => e = Exit.exit 2 ∧ (∃ H : GH, ∃ v127 : Value, ∃ n128 : Nat, ∃ cs129 : List Value, St Ha wa H w [.row 3 1 v127 n128 cs129] ∧ Inc H108 H ∧ Els (up wa.heap.size H) eI 1 cs129 s126 ∧ f 3 = v127 ∧ f 8 = v0 ∧ f 9 = Value.int .i64 (len a0) ∧ f 10 = Value.int .i64 ((i22 : Nat) : Int)) | .rt x => x.elim) hq ⟨_, _, _, _, S109, (Inc.rfl _), els26, rfl, k114, k115, k116, k113, rfl, rfl⟩ ?_ ?_) ?_
    ·
      clear hp hq
      rintro i126 y125 s126 f172 w171 ⟨H168, v127, n128, cs129, S169, i170, els130, k173, k174, k175, k176, k177, k178, k179⟩ hx126 o205 hp
      refine FW.seq (FW.region ?_)
      refine FL.v (E.lssT k173 k179 (lss_len hx126)) ?_
      refine FL.nil (FW.seq ?_)
      refine FW.condT rfl rfl ?_
      refine FW.skip (FW.seq (FW.block (FW.seq (FW.region ?_))))
      obtain ⟨p180, cs181, pt182, l183, at184, rel185⟩ := h124.at (ix_nat hx126)
      obtain rfl := eI_open rel185
      refine FL.v (E.indexAddr te84 k178 k173 pt182) ?_
      refine FL.v (E.load rfl (run_load0 Tryz.isAgg3 ((at184.mono (i110.tr i170)).now S169.sl) rfl)) ?_
      refine FL.v (E.assign (v := Value.int .i64 y125) rfl) ?_
      refine FL.nil (FW.region ?_)
      refine FL.v (E.move k174) ?_
      refine FL.v (E.move (v := Value.int .i64 y125) rfl) ?_
      refine FL.call rfl rfl rfl (E.call Tryz.call166 (A1 rfl)) (w_impl_abs S169.sl y125) ?_
      rintro e w186 ⟨rfl, r187⟩
      refine ⟨_, rfl, ?_⟩
      have S188 := S169.call r187
      obtain ⟨v189, w190, run191, S192⟩ := S188.buildSlice (P := Tryz.prog) te84 [Value.int .i64 (PF.impl_abs y125)] (parts := #[(0, Value.int .i64 (PF.impl_abs y125))]) (cells := [Value.int .i64 (PF.impl_abs y125)]) rfl (szs_cons rfl szs_nil) (fc_cons rfl fc_nil) (ones_cons rfl ones_nil) (Nat.le_of_ble_eq_true rfl)
      have els193 : Els (up wa.heap.size H168) eI 1 [Value.int .i64 (PF.impl_abs y125)] [(PF.impl_abs y125)] := (Els.snoc (H := (up wa.heap.size H168)) (E := eI) (k := 1) (c := [Value.int .i64 (PF.impl_abs y125)]) (x := (PF.impl_abs y125)) Els.nil rfl rfl)
      refine FL.v (E.buildSlice (B1 rfl) run191) ?_
      obtain ⟨xs194, hz195, hp⟩ := bnd hp
      obtain ⟨v196, w199, n197, cs198, run200, S201, els202, ce203⟩ := S192.appendO (P := Tryz.prog) te84 (i := 1) (j := 0) rfl els130 rfl els193 hz195
      have S201 : St Ha wa H168 w199 [.row 3 1 v189 1 [Value.int .i64 (PF.impl_abs y125)], .row 3 1 v196 n197 cs198] := S201
      have S204 : St Ha wa H168 w199 [.row 3 1 v196 n197 cs198] := S201.drop 0
      refine FL.v (E.append rfl rfl run200) ?_
      refine FL.v (E.assign (v := v196) rfl) ?_
      refine FL.nil (FW.region ?_)
      refine FL.v (E.add k173 rfl) ?_
      refine FL.v (E.move (v := Value.int .i64 (wr (((i126 : Nat) : Int) + 1))) rfl) ?_
      refine FL.nil ?_
      obtain rfl := Option.some.inj hp
      exact ⟨rfl, ⟨_, _, _, _, S204, i170, els202, (nat_succ rfl (lt_of_get hx126) (h124.mono (i110.tr i170)).le), rfl, k175, k176, k177, k178, k179⟩⟩
    ·
      clear hp hq
      rintro s126 f219 w218 ⟨H215, v127, n128, cs129, S216, i217, els130, k220, k221, k222, k223, k224, k225, k226⟩
      refine FW.seq (FW.region ?_)
      refine FL.v (E.lss k220 k226) ?_
      refine FL.nil (FW.seq ?_)
      refine FW.condF rfl dlt_len ?_
      refine FW.exit ?_
      exact ⟨nofun, rfl, ⟨_, _, _, _, S216, i217, els130, k221, k222, k223, k224⟩⟩
    ·
      clear hq
      intro e f210 w209 hD
      rcases q126 with s126 | x126
      ·
        obtain ⟨rfl, hD⟩ := hD
        obtain ⟨H206, v127, n128, cs129, S207, i208, els130, k211, k212, k213, k214⟩ := hD
        replace hp := el_go hp
        refine FW.region ?_
        refine FL.v (E.add k214 rfl) ?_
        refine FL.v (E.move (v := Value.int .i64 (wr (((i22 : Nat) : Int) + 1))) rfl) ?_
        refine FL.nil ?_
        obtain rfl := Option.some.inj hp
        exact ⟨rfl, ⟨_, _, _, _, S207, (i110.tr i208), els130, (nat_succ rfl (lt_of_get hx22) (p0.mono (i110.tr i208)).le), k211, k212, k213⟩⟩
      · exact x126.elim
  ·
    clear hp hq
    rintro s22 f256 w255 ⟨H252, v23, n24, cs25, S253, i254, els26, k257, k258, k259, k260⟩
    refine FW.seq (FW.region ?_)
    refine FL.v (E.lss k257 k260) ?_
    refine FL.nil (FW.seq ?_)
    refine FW.condF rfl dlt_len ?_
    refine FW.exit ?_
    exact ⟨nofun, rfl, ⟨_, _, _, _, S253, i254, els26, k258⟩⟩
  ·
    clear hq
    intro e f232 w231 hD
    rcases q22 with s22 | x22
    ·
      obtain ⟨rfl, hD⟩ := hD
      obtain ⟨H228, v23, n24, cs25, S229, i230, els26, k233⟩ := hD
      replace hp := el_go hp
      refine FW.seq (FW.region ?_)
      refine FL.v (E.move k233) ?_
      obtain ⟨r234, hr235, hp⟩ := bnd hp
      refine FL.call rfl rfl rfl (E.call Tryz.call253 (A1 rfl)) (w_slices_Sort_int_int (L := []) S229 s22 els26 hr235) ?_
      rintro e w237 ⟨H236, cs240, rfl, ⟨S238, i239⟩, els241⟩
      refine ⟨_, rfl, ?_⟩
      have S238 : St Ha wa H236 w237 [.row 3 1 v23 n24 cs240] := S238
      refine FL.nil (FW.seq (FW.region ?_))
      refine FL.v (E.move k233) ?_
      obtain ⟨r242, hr243, hp⟩ := bnd hp
      refine FL.call rfl rfl rfl (E.call Tryz.call236 (A1 rfl)) (w_slices_Compact_int_int (L := []) S238 r234 els241 hr243) ?_
      rintro e w245 ⟨H244, v248, n249, cs250, rfl, ⟨S246, i247⟩, els251⟩
      refine ⟨_, rfl, ?_⟩
      have S246 : St Ha wa H244 w245 [.row 3 1 v248 n249 cs250] := S246
      refine FL.v (E.assign (v := v248) rfl) ?_
      refine FL.nil ?_
      refine FW.ret ?_
      obtain rfl := Option.some.inj hp
      exact ⟨.inr rfl, res1 rfl rfl ⟨_, _, _, _, rfl, S246, els251⟩⟩
    · exact x22.elim

theorem w_slices_Index_int_int {Ha : GH} {wa : World} (hs : Sl Ha wa) (v0 : Value) (a0 : List Int) (p0 : RSl Ha eI 1 v0 a0) (a1 : Int) {r : Int} (hp : (PF.slices_Index_int_int a0 a1) = some r) :
  Calls Tryz.prog 180 #[v0, Value.int .i64 a1] wa (Sc Ha wa (Value.int .i64 r)) := by
 unfold PF.slices_Index_int_int at hp
 have S0 := St.init hs
 refine calls_go (N := 19) (args := [v0, Value.int .i64 a1]) Tryz.func180 rfl rfl rfl ?_
 refine FW.seq (FW.region ?_)
 refine FL.v (E.assign (v := Value.int .i64 0) rfl) ?_
 refine FL.nil (FW.seq (FW.seq (FW.region ?_)))
 refine FL.v (E.move (v := v0) rfl) ?_
 refine FL.v (E.lenP te84 rfl p0) ?_
 refine FL.v (E.move (v := Value.int .i64 0) rfl) ?_
 refine FL.nil ?_
 obtain ⟨q22, hq, hp⟩ := bndR hp
 refine FW.block ?_
 refine FW.mono (FW.forL (S := Unit) (X := Int) (fun (i22 : Nat) (s22 : Unit) f w => ∃ H : GH, St Ha wa H w [] ∧ Inc Ha H ∧ f 8 = Value.int .i64 ((i22 : Nat) : Int) ∧ f 0 = v0 ∧ f 1 = Value.int .i64 a1 ∧ f 7 = Value.int .i64 (len a0)) (fun q e f w => match q with | .go s22 => e = Exit.exit 0 ∧ (∃ H : GH, St Ha wa H w [] ∧ Inc Ha H) | .rt x => ((e = Exit.ret) ∧ (fun e f w => (e = Exit.normal ∨ e = Exit.ret) ∧ ∀ a, Fr (δ := []) 19 a f → ∃ v, (results Tryz.f180 a.tmps).run Tryz.prog w = .ok v w ∧ (Sc Ha wa (Value.int .i64 x)) (.returned v) w) e f w)) hq ⟨_, S0, (Inc.rfl _), rfl, rfl, rfl, rfl⟩ ?_ ?_) ?_
 ·
  clear hp hq
  rintro i22 y21 s22 f43 w42 ⟨H39, S40, i41, k44, k45, k46, k47⟩ hx22 o55 hp
  refine FW.seq (FW.region ?_)
  refine FL.v (E.lssT k44 k47 (lss_len hx22)) ?_
  refine FL.nil (FW.seq ?_)
  refine FW.condT rfl rfl ?_
  refine FW.skip (FW.seq (FW.block (FW.seq (FW.region ?_))))
  refine FL.v (E.move k44) ?_
  refine FL.v (E.assign (v := Value.int .i64 ((i22 : Nat) : Int)) rfl) ?_
  refine FL.nil (FW.seq (FW.region ?_))
  refine FL.v (E.move k46) ?_
  refine FL.v (E.move k45) ?_
  refine FL.v (E.move (v := Value.int .i64 ((i22 : Nat) : Int)) rfl) ?_
  obtain ⟨p48, cs49, pt50, l51, at52, rel53⟩ := p0.at (ix_nat hx22)
  obtain rfl := eI_open rel53
  refine FL.v (E.indexAddr te84 rfl rfl pt50) ?_
  refine FL.v (E.load rfl (run_load0 Tryz.isAgg3 ((at52.mono i41).now S40.sl) rfl)) ?_
  refine FL.v (E.eql rfl rfl) ?_
  refine FL.nil ?_
  rcases ifB hp with ⟨c54, hp⟩ | ⟨c54, hp⟩
  ·
   refine FW.condT rfl c54 ?_
   refine FW.seq (FW.region ?_)
   refine FL.v (E.move (v := Value.int .i64 ((i22 : Nat) : Int)) rfl) ?_
   refine FL.v (E.assign (v := Value.int .i64 ((i22 : Nat) : Int)) rfl) ?_
   refine FL.nil ?_
   refine FW.ret ?_
   obtain rfl := Option.some.inj hp
   exact ⟨nofun, rfl, ⟨.inr rfl, res1 rfl rfl ⟨rfl, S40.back⟩⟩⟩
  ·
   refine FW.condF rfl c54 ?_
   refine FW.skip (FW.region ?_)
   refine FL.v (E.add k44 rfl) ?_
   refine FL.v (E.move (v := Value.int .i64 (wr (((i22 : Nat) : Int) + 1))) rfl) ?_
   refine FL.nil ?_
   obtain rfl := Option.some.inj hp
   exact ⟨rfl, ⟨_, S40, i41, (nat_succ rfl (lt_of_get hx22) (p0.mono i41).le), k45, k46, k47⟩⟩
 ·
  clear hp hq
  rintro s22 f65 w64 ⟨H61, S62, i63, k66, k67, k68, k69⟩
  refine FW.seq (FW.region ?_)
  refine FL.v (E.lss k66 k69) ?_
  refine FL.nil (FW.seq ?_)
  refine FW.condF rfl dlt_len ?_
  refine FW.exit ?_
  exact ⟨nofun, rfl, ⟨_, S62, i63⟩⟩
 ·
  clear hq
  intro e f60 w59 hD
  rcases q22 with s22 | x22
  ·
   obtain ⟨rfl, hD⟩ := hD
   obtain ⟨H56, S57, i58⟩ := hD
   replace hp := el_go hp
   refine FW.seq (FW.region ?_)
   refine FL.v (E.assign (v := Value.int .i64 (-1)) rfl) ?_
   refine FL.nil ?_
   refine FW.ret ?_
   obtain rfl := Option.some.inj hp
   exact ⟨.inr rfl, res1 rfl rfl ⟨rfl, S57.back⟩⟩
  ·
   obtain ⟨he, hL⟩ := hD
   replace hp := el_rt hp
   obtain rfl := Option.some.inj hp
   subst he
   exact hL

theorem w_slices_Contains_int_int {Ha : GH} {wa : World} (hs : Sl Ha wa) (v0 : Value) (a0 : List Int) (p0 : RSl Ha eI 1 v0 a0) (a1 : Int) {r : Bool} (hp : (PF.slices_Contains_int_int a0 a1) = some r) :
  Calls Tryz.prog 129 #[v0, Value.int .i64 a1] wa (Sc Ha wa (Value.bool r)) := by
 unfold PF.slices_Contains_int_int at hp
 have S0 := St.init hs
 refine calls_go (N := 9) (args := [v0, Value.int .i64 a1]) Tryz.func129 rfl rfl rfl ?_
 refine FW.seq (FW.region ?_)
 refine FL.v (E.assign (v := Value.bool false) rfl) ?_
 refine FL.nil (FW.seq (FW.region ?_))
 refine FL.v (E.move (v := v0) rfl) ?_
 refine FL.v (E.move (v := Value.int .i64 a1) rfl) ?_
 obtain ⟨r21, hr22, hp⟩ := bnd hp
 refine FL.call rfl rfl rfl (E.call Tryz.call180 (A2 rfl rfl)) (w_slices_Index_int_int S0.sl v0 a0 p0 a1 hr22) ?_
 rintro e w23 ⟨rfl, r24⟩
 refine ⟨_, rfl, ?_⟩
 have S25 := S0.call r24
 refine FL.v (E.geq rfl rfl) ?_
 refine FL.v (E.assign (v := Value.bool (decide (0 ≤ r21))) rfl) ?_
 refine FL.nil ?_
 refine FW.ret ?_
 obtain rfl := Option.some.inj hp
 exact ⟨.inr rfl, res1 rfl rfl ⟨rfl, S25.back⟩⟩

@[reducible] def p_slices_Clone_int_int (Ha : GH) (wa : World) (r : (List Int)) : Ending → World → Prop :=
 fun e w' => ∃ H' : GH, ∃ v0 : Value, ∃ n0 : Nat, ∃ c0 : List Value, e = .returned (v0) ∧ St Ha wa H' w' [.row 3 1 v0 n0 c0] ∧ Els (up wa.heap.size H') eI 1 c0 r
theorem w_slices_Clone_int_int {Ha : GH} {wa : World} (hs : Sl Ha wa) (v0 : Value) (a0 : List Int) (p0 : RSl Ha eI 1 v0 a0) {r : (List Int)} (hp : (PF.slices_Clone_int_int a0) = some r) :
  Calls Tryz.prog 62 #[v0] wa (p_slices_Clone_int_int Ha wa r) := by
 unfold PF.slices_Clone_int_int at hp
 have S0 := St.init hs
 refine calls_go (N := 8) (args := [v0]) Tryz.func62 rfl rfl rfl ?_
 refine FW.seq (FW.region ?_)
 refine FL.v (E.assign (v := Value.slice none 0 0) rfl) ?_
 refine FL.nil (FW.seq (FW.seq (FW.region ?_)))
 refine FL.v (E.move (v := v0) rfl) ?_
 obtain ⟨nb21, run22, hn23⟩ := RSl.nilTest te84 p0
 refine FL.v (run22 _ _ _ _ _ _ _ _ _ _ _ _ rfl rfl) ?_
 refine FL.nil ?_
 rcases bcase nb21 with c24 | c24
 ·
  refine FW.condT (b := nb21) rfl c24 ?_
  rw [hn23 c24, app_nil2] at hp
  refine FW.seq (FW.region ?_)
  refine FL.v (E.assign (v := Value.slice none 0 0) rfl) ?_
  refine FL.nil ?_
  refine FW.ret ?_
  obtain rfl := Option.some.inj hp
  exact ⟨.inr rfl, res1 rfl rfl ⟨_, _, _, _, rfl, (S0.nil 3 1), Els.nil⟩⟩
 ·
  refine FW.condF (b := nb21) rfl c24 ?_
  refine FW.skip (FW.seq (FW.region ?_))
  obtain ⟨v25, w26, run27, S28⟩ := S0.buildSlice (P := Tryz.prog) te84 [] (parts := #[]) (cells := []) rfl szs_nil fc_nil ones_nil (Nat.le_of_ble_eq_true rfl)
  have els29 : Els (up wa.heap.size Ha) eI 1 [] [] := Els.nil
  refine FL.v (E.buildSlice (B0) run27) ?_
  refine FL.v (E.move (v := v0) rfl) ?_
  obtain ⟨xs30, hz31, hp⟩ := bnd hp
  obtain ⟨v32, w35, n33, cs34, run36, S37, els38⟩ := S28.appendP (P := Tryz.prog) (Inc.rfl _) te84 (i := 0) rfl (els29.mono upI) p0 hz31
  have S37 : St Ha wa Ha w35 [.row 3 1 v32 n33 cs34] := S37
  have els38 : Els (up wa.heap.size Ha) eI 1 cs34 xs30 := els38.any (fun _ _ _ _ h => h)
  refine FL.v (E.append rfl rfl run36) ?_
  refine FL.v (E.assign (v := v32) rfl) ?_
  refine FL.nil ?_
  refine FW.ret ?_
  obtain rfl := Option.some.inj hp
  exact ⟨.inr rfl, res1 rfl rfl ⟨_, _, _, _, rfl, S37, els38⟩⟩

theorem w_slices_IndexFunc_int_int {Ha : GH} {wa : World} (hs : Sl Ha wa) (v0 : Value) (a0 : List Int) (p0 : RSl Ha eI 1 v0 a0) (v1 : Value) (a1 : Int → Option Bool) (p1 : Fn_I_to_B Tryz.prog Ha v1 a1) {r : Int} (hp : (PF.slices_IndexFunc_int_int a0 a1) = some r) :
  Calls Tryz.prog 216 #[v0, v1] wa (Sc Ha wa (Value.int .i64 r)) := by
 unfold PF.slices_IndexFunc_int_int at hp
 have S0 := St.init hs
 refine calls_go (N := 19) (args := [v0, v1]) Tryz.func216 rfl rfl rfl ?_
 refine FW.seq (FW.region ?_)
 refine FL.v (E.assign (v := Value.int .i64 0) rfl) ?_
 refine FL.nil (FW.seq (FW.seq (FW.region ?_)))
 refine FL.v (E.move (v := v0) rfl) ?_
 refine FL.v (E.lenP te84 rfl p0) ?_
 refine FL.v (E.move (v := Value.int .i64 0) rfl) ?_
 refine FL.nil ?_
 obtain ⟨q22, hq, hp⟩ := bndR hp
 refine FW.block ?_
 refine FW.mono (FW.forL (S := Unit) (X := Int) (fun (i22 : Nat) (s22 : Unit) f w => ∃ H : GH, St Ha wa H w [] ∧ Inc Ha H ∧ f 8 = Value.int .i64 ((i22 : Nat) : Int) ∧ f 0 = v0 ∧ f 1 = v1 ∧ f 7 = Value.int .i64 (len a0)) (fun q e f w => match q with | .go s22 => e = Exit.exit 0 ∧ (∃ H : GH, St Ha wa H w [] ∧ Inc Ha H) | .rt x => ((e = Exit.ret) ∧ (fun e f w => (e = Exit.normal ∨ e = Exit.ret) ∧ ∀ a, Fr (δ := []) 19 a f → ∃ v, (results Tryz.f216 a.tmps).run Tryz.prog w = .ok v w ∧ (Sc Ha wa (Value.int .i64 x)) (.returned v) w) e f w)) hq ⟨_, S0, (Inc.rfl _), rfl, rfl, rfl, rfl⟩ ?_ ?_) ?_
 ·
  clear hp hq
  rintro i22 y21 s22 f53 w52 ⟨H49, S50, i51, k54, k55, k56, k57⟩ hx22 o75 hp
  refine FW.seq (FW.region ?_)
  refine FL.v (E.lssT k54 k57 (lss_len hx22)) ?_
  refine FL.nil (FW.seq ?_)
  refine FW.condT rfl rfl ?_
  refine FW.skip (FW.seq (FW.block (FW.seq (FW.region ?_))))
  refine FL.v (E.move k54) ?_
  refine FL.v (E.assign (v := Value.int .i64 ((i22 : Nat) : Int)) rfl) ?_
  refine FL.nil (FW.seq (FW.region ?_))
  refine FL.v (E.move k56) ?_
  refine FL.v (E.move k55) ?_
  refine FL.v (E.move (v := Value.int .i64 ((i22 : Nat) : Int)) rfl) ?_
  obtain ⟨p58, cs59, pt60, l61, at62, rel63⟩ := p0.at (ix_nat hx22)
  obtain rfl := eI_open rel63
  refine FL.v (E.indexAddr te84 rfl rfl pt60) ?_
  refine FL.v (E.load rfl (run_load0 Tryz.isAgg3 ((at62.mono i51).now S50.sl) rfl)) ?_
  obtain ⟨r64, hr65, hp⟩ := bnd hp
  obtain ⟨fi69, cs70, hv71, he72, hc73⟩ := (p1.mono i51) H49 w52 (Inc.rfl _) S50.sl y21 r64 hr65
  refine FL.call rfl rfl rfl (E.callV he72 (Eq.trans rfl hv71) (appA (A1 rfl) cs70)) hc73 ?_
  rintro e w66 ⟨rfl, r67⟩
  refine ⟨_, rfl, ?_⟩
  have S68 := S50.call r67
  refine FL.nil ?_
  rcases ifB hp with ⟨c74, hp⟩ | ⟨c74, hp⟩
  ·
   refine FW.condT rfl c74 ?_
   refine FW.seq (FW.region ?_)
   refine FL.v (E.move (v := Value.int .i64 ((i22 : Nat) : Int)) rfl) ?_
   refine FL.v (E.assign (v := Value.int .i64 ((i22 : Nat) : Int)) rfl) ?_
   refine FL.nil ?_
   refine FW.ret ?_
   obtain rfl := Option.some.inj hp
   exact ⟨nofun, rfl, ⟨.inr rfl, res1 rfl rfl ⟨rfl, S68.back⟩⟩⟩
  ·
   refine FW.condF rfl c74 ?_
   refine FW.skip (FW.region ?_)
   refine FL.v (E.add k54 rfl) ?_
   refine FL.v (E.move (v := Value.int .i64 (wr (((i22 : Nat) : Int) + 1))) rfl) ?_
   refine FL.nil ?_
   obtain rfl := Option.some.inj hp
   exact ⟨rfl, ⟨_, S68, i51, (nat_succ rfl (lt_of_get hx22) (p0.mono i51).le), k55, k56, k57⟩⟩
 ·
  clear hp hq
  rintro s22 f85 w84 ⟨H81, S82, i83, k86, k87, k88, k89⟩
  refine FW.seq (FW.region ?_)
  refine FL.v (E.lss k86 k89) ?_
  refine FL.nil (FW.seq ?_)
  refine FW.condF rfl dlt_len ?_
  refine FW.exit ?_
  exact ⟨nofun, rfl, ⟨_, S82, i83⟩⟩
 ·
  clear hq
  intro e f80 w79 hD
  rcases q22 with s22 | x22
  ·
   obtain ⟨rfl, hD⟩ := hD
   obtain ⟨H76, S77, i78⟩ := hD
   replace hp := el_go hp
   refine FW.seq (FW.region ?_)
   refine FL.v (E.assign (v := Value.int .i64 (-1)) rfl) ?_
   refine FL.nil ?_
   refine FW.ret ?_
   obtain rfl := Option.some.inj hp
   exact ⟨.inr rfl, res1 rfl rfl ⟨rfl, S77.back⟩⟩
  ·
   obtain ⟨he, hL⟩ := hD
   replace hp := el_rt hp
   obtain rfl := Option.some.inj hp
   subst he
   exact hL

@[reducible] def p_slices_DeleteFunc_int_int (H0 : GH) (w0 : World) (Ha : GH) (L : List MO) (r : (List Int)) : Ending → World → Prop :=
  fun e w' => ∃ H' : GH, ∃ v0r : Value, ∃ n0r : Nat, ∃ c0r : List Value, e = .returned (v0r) ∧ (St H0 w0 H' w' (.row 3 1 v0r n0r c0r :: L) ∧ Inc Ha H') ∧ Els (up w0.heap.size H') eI 1 c0r r
theorem w_slices_DeleteFunc_int_int {H0 Ha : GH} {w0 wa : World} {L : List MO} {v0 : Value} {n0 : Nat} {k0 : List Value} (S0 : St H0 w0 Ha wa (.row 3 1 v0 n0 k0 :: L)) (a0 : List Int) (p0 : Els (up w0.heap.size Ha) eI 1 k0 a0) (v1 : Value) (a1 : Int → Option Bool) (p1 : Fn_I_to_B Tryz.prog Ha v1 a1) {r : (List Int)} (hp : (PF.slices_DeleteFunc_int_int a0 a1) = some r) :
    Calls Tryz.prog 222 #[v0, v1] wa (p_slices_DeleteFunc_int_int H0 w0 Ha L r) := by
  unfold PF.slices_DeleteFunc_int_int at hp
  refine calls_go (N := 42) (args := [v0, v1]) Tryz.func222 rfl rfl rfl ?_
  refine FW.seq (FW.region ?_)
  refine FL.v (E.assign (v := Value.slice none 0 0) rfl) ?_
  refine FL.nil (FW.seq (FW.region ?_))
  refine FL.v (E.move (v := v0) rfl) ?_
  refine FL.v (E.move (v := v1) rfl) ?_
  obtain ⟨H21, S22, i23, h24, nv25⟩ := S0.sealRowU (i := 0) (l' := L) rfl p0 (by decide) rfl
  obtain ⟨r26, hr27, hp⟩ := bnd hp
  refine FL.call rfl rfl rfl (E.call Tryz.call216 (A2 rfl rfl)) (w_slices_IndexFunc_int_int S22.sl v0 a0 (h24.mono upI) v1 a1 (p1.mono i23) hr27) ?_
  rintro e w28 ⟨rfl, r29⟩
  refine ⟨_, rfl, ?_⟩
  have r29 := Run.lend i23 S0.sl r29
  have S30 := S0.call r29
  refine FL.v (E.assign (v := Value.int .i64 r26) rfl) ?_
  refine FL.nil (FW.seq (FW.seq (FW.region ?_)))
  refine FL.v (E.move (v := Value.int .i64 r26) rfl) ?_
  refine FL.v (E.eql rfl rfl) ?_
  refine FL.nil ?_
  rcases ifB hp with ⟨c31, hp⟩ | ⟨c31, hp⟩
  ·
    refine FW.condT rfl c31 ?_
    refine FW.seq (FW.region ?_)
    refine FL.v (E.move (v := v0) rfl) ?_
    refine FL.v (E.assign (v := v0) rfl) ?_
    refine FL.nil ?_
    refine FW.ret ?_
    obtain rfl := Option.some.inj hp
    exact ⟨.inr rfl, res1 rfl rfl ⟨_, _, _, _, rfl, ⟨S30, (Inc.rfl _)⟩, p0⟩⟩
  ·
    refine FW.condF rfl c31 ?_
    refine FW.skip (FW.seq (FW.seq (FW.region ?_)))
    refine FL.v (E.move (v := Value.int .i64 r26) rfl) ?_
    refine FL.v (E.add rfl rfl) ?_
    refine FL.v (E.assign (v := Value.int .i64 (wr (r26 + 1))) rfl) ?_
    refine FL.nil ?_
    obtain ⟨q32, hq, hp⟩ := bndR hp
    refine FW.block ?_
    refine FW.mono (FW.iter (S := ((List Int) × Int × Int)) (X := Empty) (fun (s32 : ((List Int) × Int × Int)) f w => ∃ H : GH, ∃ cs78 : List Value, St H0 w0 H w (.row 3 1 v0 n0 cs78 :: L) ∧ Inc Ha H ∧ Els (up w0.heap.size H) eI 1 cs78 s32.1 ∧ f 0 = v0 ∧ f 1 = v1 ∧ f 5 = Value.int .i64 s32.2.1 ∧ f 6 = Value.int .i64 s32.2.2) (fun (q : Rs ((List Int) × Int × Int) Empty) e f w => match q with | .go s32 => e = Exit.exit 0 ∧ (∃ H : GH, ∃ cs78 : List Value, St H0 w0 H w (.row 3 1 v0 n0 cs78 :: L) ∧ Inc Ha H ∧ Els (up w0.heap.size H) eI 1 cs78 s32.1 ∧ f 0 = v0 ∧ f 5 = Value.int .i64 s32.2.1) | .rt x => x.elim) hq ⟨_, _, S30, (Inc.rfl _), p0, rfl, rfl, rfl, rfl⟩ ?_) ?_
    ·
      clear hp hq
      rintro s32 f129 w128 ⟨H125, cs78, S126, i127, els79, k130, k131, k132, k133⟩ o170 hp
      refine FW.seq (FW.seq (FW.region ?_))
      refine FL.v (E.move k133) ?_
      refine FL.v (E.move k130) ?_
      refine FL.v (E.lenO te84 rfl S126 (i := 0) rfl els79 (by decide)) ?_
      refine FL.v (E.lss rfl rfl) ?_
      refine FL.nil ?_
      rcases ifB hp with ⟨c134, hp⟩ | ⟨c134, hp⟩
      ·
        refine FW.condT rfl c134 ?_
        refine FW.skip (FW.seq (FW.block (FW.seq (FW.region ?_))))
        refine FL.v (E.move k130) ?_
        refine FL.v (E.move k133) ?_
        obtain ⟨x141, hx142, hp⟩ := bnd hp
        obtain ⟨p135, cs136, pt137, l138, at139, rel140⟩ := S126.row_at (i := 0) rfl els79 (by decide) hx142
        obtain rfl := eI_open rel140
        refine FL.v (E.indexAddr te84 rfl rfl pt137) ?_
        refine FL.v (E.load rfl (run_load0 Tryz.isAgg3 at139 rfl)) ?_
        refine FL.v (E.assign (v := Value.int .i64 x141) rfl) ?_
        refine FL.nil (FW.seq (FW.region ?_))
        refine FL.v (E.move k131) ?_
        refine FL.v (E.move (v := Value.int .i64 x141) rfl) ?_
        obtain ⟨r143, hr144, hp⟩ := bnd hp
        obtain ⟨fi148, cs149, hv150, he151, hc152⟩ := (p1.mono i127) H125 w128 (Inc.rfl _) S126.sl x141 r143 hr144
        refine FL.call rfl rfl rfl (E.callV he151 (Eq.trans rfl hv150) (appA (A1 rfl) cs149)) hc152 ?_
        rintro e w145 ⟨rfl, r146⟩
        refine ⟨_, rfl, ?_⟩
        have S147 := S126.call r146
        refine FL.v (E.not rfl) ?_
        refine FL.nil ?_
        rcases ifB hp with ⟨c153, hp⟩ | ⟨c153, hp⟩
        ·
          refine FW.condT rfl c153 ?_
          refine FW.seq (FW.region ?_)
          refine FL.v (E.move k130) ?_
          refine FL.v (E.move k132) ?_
          refine FL.v (E.move (v := Value.int .i64 x141) rfl) ?_
          obtain ⟨x160, hx161, hp⟩ := bnd hp
          obtain ⟨p154, cs155, pt156, l157, at158, rel159⟩ := S147.row_at (i := 0) rfl els79 (by decide) hx161
          obtain rfl := eI_open rel159
          refine FL.v (E.indexAddr te84 rfl rfl pt156) ?_
          obtain ⟨xs165, hput166, hp⟩ := bnd hp
          obtain ⟨w162, cs168, run163, S164, els167, ce169⟩ := S147.putEls (P := Tryz.prog) (t := 3) (i := 0) rfl els79 hput166 pt156 Tryz.sizeOf3 (u := Value.int .i64 x141) (c := [Value.int .i64 x141]) rfl rfl (ones_cons rfl ones_nil) rfl
          have S164 : St H0 w0 H125 w162 (.row 3 1 v0 n0 cs168 :: L) := S164
          refine FL.act rfl rfl (E.store rfl rfl run163) ?_
          refine FL.nil (FW.region ?_)
          refine FL.v (E.move k132) ?_
          refine FL.v (E.add rfl rfl) ?_
          refine FL.v (E.assign (v := Value.int .i64 (wr (s32.2.1 + 1))) rfl) ?_
          refine FL.nil (FW.region ?_)
          refine FL.v (E.move k133) ?_
          refine FL.v (E.add rfl rfl) ?_
          refine FL.v (E.assign (v := Value.int .i64 (wr (s32.2.2 + 1))) rfl) ?_
          refine FL.nil ?_
          obtain rfl := Option.some.inj hp
          exact ⟨rfl, ⟨_, _, S164, i127, els167, k130, k131, rfl, rfl⟩⟩
        ·
          refine FW.condF rfl c153 ?_
          refine FW.skip (FW.region ?_)
          refine FL.v (E.move k133) ?_
          refine FL.v (E.add rfl rfl) ?_
          refine FL.v (E.assign (v := Value.int .i64 (wr (s32.2.2 + 1))) rfl) ?_
          refine FL.nil ?_
          obtain rfl := Option.some.inj hp
          exact ⟨rfl, ⟨_, _, S147, i127, els79, k130, k131, k132, rfl⟩⟩
      ·
        refine FW.condF rfl c134 ?_
        refine FW.exit ?_
        obtain rfl := Option.some.inj hp
        exact ⟨nofun, rfl, ⟨_, _, S126, i127, els79, k130, k132⟩⟩
    ·
      clear hq
      intro e f175 w174 hD
      rcases q32 with s32 | x32
      ·
        obtain ⟨rfl, hD⟩ := hD
        obtain ⟨H171, cs78, S172, i173, els79, k176, k177⟩ := hD
        replace hp := el_go hp
        refine FW.seq (FW.region ?_)
        refine FL.v (E.move k176) ?_
        refine FL.v (E.move k177) ?_
        obtain ⟨xs178, hc179, hp⟩ := bnd hp
        obtain ⟨v180, run181, h182⟩ := S172.tail te84 (kk := .i64) (i := 0) rfl els79 hc179
        refine FL.v (E.slice te84 rfl (congrArg some rfl) rfl rfl (run181 _)) ?_
        obtain ⟨w183, cs184, run185, S186, els187⟩ := S172.clearTail (P := Tryz.prog) te84 (i := 0) rfl els79 h182 rfl (ones_cons rfl ones_nil)
        have S186 : St H0 w0 H171 w183 (.row 3 1 v0 n0 cs184 :: L) := S186
        refine FL.val0 rfl rfl (E.clear rfl run185) ?_
        refine FL.nil (FW.seq (FW.region ?_))
        refine FL.v (E.move k176) ?_
        refine FL.v (E.move k177) ?_
        obtain ⟨xs188, hc189, hp⟩ := bnd hp
        obtain ⟨v190, n191, cs192, run193, S194, els195, nd196⟩ := S186.cutRow te84 (kk := .i64) (i := 0) rfl els187 hc189
        have S194 : St H0 w0 H171 w183 (.row 3 1 v190 n191 cs192 :: L) := S194
        refine FL.v (E.slice te84 rfl rfl (congrArg some rfl) rfl (run193 _)) ?_
        refine FL.v (E.assign (v := v190) rfl) ?_
        refine FL.nil ?_
        refine FW.ret ?_
        obtain rfl := Option.some.inj hp
        exact ⟨.inr rfl, res1 rfl rfl ⟨_, _, _, _, rfl, ⟨S194, i173⟩, els195⟩⟩
      · exact x32.elim

theorem w_impl_withoutVar_1 {Ha : GH} {wa : World} (hs : Sl Ha wa) (a0 : Int) (q0 : Addr) (b0 : Int) (c0 : CAt Ha q0 [Value.int .i64 b0]) :
  Calls Tryz.prog 223 #[Value.int .i64 a0, Value.pointer (some q0)] wa (Sc Ha wa (Value.bool (PF.impl_withoutVar_1 a0 b0))) := by
 obtain ⟨r, hp⟩ : ∃ r, (PF.impl_withoutVar_1 a0 b0) = r := ⟨_, rfl⟩
 rw [hp]
 unfold PF.impl_withoutVar_1 at hp
 have S0 := St.init hs
 refine calls_go (N := 8) (args := [Value.int .i64 a0, Value.pointer (some q0)]) Tryz.func223 rfl rfl rfl ?_
 refine FW.seq (FW.region ?_)
 refine FL.v (E.assign (v := Value.bool false) rfl) ?_
 refine FL.nil (FW.seq ?_)
 refine FW.draw (fun w' => Run wa.heap.size Ha wa Ha w') (by kernel_rfl) (by kernel_rfl) (run_drew S0.sl) ?_
 refine FD.val rfl rfl rfl (fun w' hw' => (E.move (v := Value.int .i64 a0) rfl)) ?_
 refine FD.call rfl rfl rfl (fun w' hw' => (E.call Tryz.call166 (A1 rfl))) (fun w' hw' => Calls.cls hw' (w_impl_abs (S0.call hw').sl a0)) ?_
 refine FD.val rfl rfl rfl (fun w' hw' => (E.load rfl (run_load0 Tryz.isAgg3 (c0.now (S0.call hw').sl) rfl))) ?_
 refine FD.val rfl rfl rfl (fun w' hw' => (E.eql rfl rfl)) ?_
 refine FD.val rfl rfl rfl (fun w' hw' => (E.assign (v := Value.bool ((PF.impl_abs a0) == b0)) rfl)) ?_
 refine FD.nil ?_
 intro w22 r24
 have S23 := S0.call r24
 refine FW.ret ?_
 obtain rfl := hp
 exact ⟨.inr rfl, res1 rfl rfl ⟨rfl, S23.back⟩⟩

@[reducible] def p_impl_withoutVar (Ha : GH) (wa : World) (r : (List Int)) : Ending → World → Prop :=
 fun e w' => ∃ H' : GH, ∃ v0 : Value, ∃ n0 : Nat, ∃ c0 : List Value, e = .returned (v0) ∧ St Ha wa H' w' [.row 3 1 v0 n0 c0] ∧ Els (up wa.heap.size H') eI 1 c0 r
theorem w_impl_withoutVar {Ha : GH} {wa : World} (hs : Sl Ha wa) (v0 : Value) (a0 : List Int) (p0 : RSl Ha eI 1 v0 a0) (a1 : Int) {r : (List Int)} (hp : (PF.impl_withoutVar a0 a1) = some r) :
  Calls Tryz.prog 182 #[v0, Value.int .i64 a1] wa (p_impl_withoutVar Ha wa r) := by
 unfold PF.impl_withoutVar at hp
 have S0 := St.init hs
 refine calls_go (N := 9) (args := [v0, Value.int .i64 a1]) Tryz.func182 rfl rfl rfl ?_
 refine FW.seq (FW.region ?_)
 obtain ⟨b21, w22, run23, S24⟩ := S0.box (P := Tryz.prog) 3 [Value.int .i64 a1] (v := Value.int .i64 a1) rfl (ones_cons rfl ones_nil)
 refine FL.v (E.box rfl run23) ?_
 obtain ⟨H25, S26, i27, at28⟩ := S24.sealBox (i := 0) (l' := []) rfl rfl
 refine FL.v (E.assign (v := Value.slice none 0 0) rfl) ?_
 refine FL.nil (FW.seq (FW.region ?_))
 refine FL.v (E.move (v := v0) rfl) ?_
 obtain ⟨r29, hr30, hp⟩ := bnd hp
 refine FL.call rfl rfl rfl (E.call Tryz.call62 (A1 rfl)) (w_slices_Clone_int_int S26.sl v0 a0 (p0.mono i27) hr30) ?_
 rintro e w32 ⟨H31, v35, n36, cs37, rfl, r34, els38⟩
 refine ⟨_, rfl, ?_⟩
 have els38 := els38.mono (up_le S26.size)
 have S33 := S26.join (l' := [.row 3 1 v35 n36 cs37]) r34 rfl
 refine FL.v (E.makeFunc A0 (A1 rfl)) ?_
 obtain ⟨r39, hr40, hp⟩ := bnd hp
 refine FL.call rfl rfl rfl (E.call Tryz.call222 (A2 rfl rfl)) (w_slices_DeleteFunc_int_int (L := []) S33 r29 els38 (Value.func (.func 223) #[] #[Value.pointer (some ⟨b21, 0, none⟩)]) (fun x0 => some (PF.impl_withoutVar_1 x0 a1)) (fun H2 w2 hi2 hs2 x0 r hr => ⟨223, #[Value.pointer (some ⟨b21, 0, none⟩)], rfl, Tryz.call223, by cases hr; exact w_impl_withoutVar_1 hs2 x0 ⟨b21, 0, none⟩ a1 ((at28.mono r34.run.inc).mono hi2)⟩) hr40) ?_
 rintro e w42 ⟨H41, v45, n46, cs47, rfl, ⟨S43, i44⟩, els48⟩
 refine ⟨_, rfl, ?_⟩
 have S43 : St Ha wa H41 w42 [.row 3 1 v45 n46 cs47] := S43
 refine FL.v (E.assign (v := v45) rfl) ?_
 refine FL.nil ?_
 refine FW.ret ?_
 obtain rfl := Option.some.inj hp
 exact ⟨.inr rfl, res1 rfl rfl ⟨_, _, _, _, rfl, S43, els48⟩⟩

@[reducible] def p_slices_SortFunc_int_int (H0 : GH) (w0 : World) (Ha : GH) (L : List MO) (v0 : Value) (n0 : Nat) (r : (List Int)) : Ending → World → Prop :=
 fun e w' => ∃ H' : GH, ∃ c0k : List Value, e = .returned (Value.tuple #[]) ∧ (St H0 w0 H' w' (.row 3 1 v0 n0 c0k :: L) ∧ Inc Ha H') ∧ Els (up w0.heap.size H') eI 1 c0k r
theorem w_slices_SortFunc_int_int {H0 Ha : GH} {w0 wa : World} {L : List MO} {v0 : Value} {n0 : Nat} {k0 : List Value} (S0 : St H0 w0 Ha wa (.row 3 1 v0 n0 k0 :: L)) (a0 : List Int) (p0 : Els (up w0.heap.size Ha) eI 1 k0 a0) (v1 : Value) (a1 : Int → Int → Option Int) (p1 : Fn_I_I_to_I Tryz.prog Ha v1 a1) {r : (List Int)} (hp : (PF.slices_SortFunc_int_int a0 a1) = some r) :
  Calls Tryz.prog 235 #[v0, v1] wa (p_slices_SortFunc_int_int H0 w0 Ha L v0 n0 r) := by
 refine (St.sortF (l := .row 3 1 v0 n0 k0 :: L) (i := 0) upI S0 rfl p0 (fun H2 w2 hi hs2 c x hc d y hd r hr => by cases eI_open hc; cases eI_open hd; exact p1 H2 w2 hi hs2 x y r hr) (fun p cap fv w => AnyF.slices_SortFunc_none (P := Tryz.prog) (ρ := Tryz.sort235_ren) { Tryz.sort235 with } p cap fv w) (fun α _ enc h1 cf hO g cb blk off cap d w eg hc hH hb hs => Any.slices_SortFunc Tryz.sort235 enc h1 cf hO g cb blk off cap d w eg hc hH hb hs) hp).mono ?_
 rintro e w' ⟨rfl, c', h1, h2⟩
 exact ⟨_, _, rfl, ⟨h1, Inc.rfl _⟩, h2⟩

theorem w_cmp_isNaN_int {Ha : GH} {wa : World} (hs : Sl Ha wa) (a0 : Int) :
  Calls Tryz.prog 165 #[Value.int .i64 a0] wa (Sc Ha wa (Value.bool (PF.cmp_isNaN_int a0))) := by
 obtain ⟨r, hp⟩ : ∃ r, (PF.cmp_isNaN_int a0) = r := ⟨_, rfl⟩
 rw [hp]
 unfold PF.cmp_isNaN_int at hp
 have S0 := St.init hs
 refine calls_go (N := 6) (args := [Value.int .i64 a0]) Tryz.func165 rfl rfl rfl ?_
 refine FW.seq (FW.region ?_)
 refine FL.v (E.assign (v := Value.bool false) rfl) ?_
 refine FL.nil (FW.seq (FW.region ?_))
 refine FL.v (E.move (v := Value.int .i64 a0) rfl) ?_
 refine FL.v (E.move (v := Value.int .i64 a0) rfl) ?_
 refine FL.v (E.neq rfl rfl) ?_
 refine FL.v (E.assign (v := Value.bool (!(a0 == a0))) rfl) ?_
 refine FL.nil ?_
 refine FW.ret ?_
 obtain rfl := hp
 exact ⟨.inr rfl, res1 rfl rfl ⟨rfl, S0.back⟩⟩

theorem w_cmp_Compare_int {Ha : GH} {wa : World} (hs : Sl Ha wa) (a0 : Int) (a1 : Int) :
  Calls Tryz.prog 101 #[Value.int .i64 a0, Value.int .i64 a1] wa (Sc Ha wa (Value.int .i64 (PF.cmp_Compare_int a0 a1))) := by
 obtain ⟨r, hp⟩ : ∃ r, (PF.cmp_Compare_int a0 a1) = r := ⟨_, rfl⟩
 rw [hp]
 unfold PF.cmp_Compare_int at hp
 have S0 := St.init hs
 refine calls_go (N := 20) (args := [Value.int .i64 a0, Value.int .i64 a1]) Tryz.func101 rfl rfl rfl ?_
 refine FW.seq (FW.region ?_)
 refine FL.v (E.assign (v := Value.int .i64 0) rfl) ?_
 refine FL.nil (FW.seq (FW.region ?_))
 refine FL.v (E.move (v := Value.int .i64 a0) rfl) ?_
 refine FL.call rfl rfl rfl (E.call Tryz.call165 (A1 rfl)) (w_cmp_isNaN_int S0.sl a0) ?_
 rintro e w21 ⟨rfl, r22⟩
 refine ⟨_, rfl, ?_⟩
 have S23 := S0.call r22
 refine FL.v (E.assign (v := Value.bool (PF.cmp_isNaN_int a0)) rfl) ?_
 refine FL.nil (FW.seq (FW.region ?_))
 refine FL.v (E.move (v := Value.int .i64 a1) rfl) ?_
 refine FL.call rfl rfl rfl (E.call Tryz.call165 (A1 rfl)) (w_cmp_isNaN_int S23.sl a1) ?_
 rintro e w24 ⟨rfl, r25⟩
 refine ⟨_, rfl, ?_⟩
 have S26 := S23.call r25
 refine FL.v (E.assign (v := Value.bool (PF.cmp_isNaN_int a1)) rfl) ?_
 refine FL.nil (FW.seq (FW.seq (FW.region ?_)))
 refine FL.v (E.move (v := Value.bool (PF.cmp_isNaN_int a0)) rfl) ?_
 refine FL.nil ?_
 rcases ifT hp with ⟨c27, hp⟩ | ⟨c27, hp⟩
 ·
  refine FW.condT rfl c27 ?_
  refine FW.seq (FW.seq (FW.region ?_))
  refine FL.v (E.move (v := Value.bool (PF.cmp_isNaN_int a1)) rfl) ?_
  refine FL.nil ?_
  rcases ifT hp with ⟨c28, hp⟩ | ⟨c28, hp⟩
  ·
   refine FW.condT rfl c28 ?_
   refine FW.seq (FW.region ?_)
   refine FL.v (E.assign (v := Value.int .i64 0) rfl) ?_
   refine FL.nil ?_
   refine FW.ret ?_
   obtain rfl := hp
   exact ⟨.inr rfl, res1 rfl rfl ⟨rfl, S26.back⟩⟩
  ·
   refine FW.condF rfl c28 ?_
   refine FW.skip (FW.seq (FW.region ?_))
   refine FL.v (E.assign (v := Value.int .i64 (-1)) rfl) ?_
   refine FL.nil ?_
   refine FW.ret ?_
   obtain rfl := hp
   exact ⟨.inr rfl, res1 rfl rfl ⟨rfl, S26.back⟩⟩
 ·
  refine FW.condF rfl c27 ?_
  refine FW.skip (FW.seq (FW.seq (FW.region ?_)))
  refine FL.v (E.move (v := Value.bool (PF.cmp_isNaN_int a1)) rfl) ?_
  refine FL.nil ?_
  rcases ifT hp with ⟨c29, hp⟩ | ⟨c29, hp⟩
  ·
   refine FW.condT rfl c29 ?_
   refine FW.seq (FW.region ?_)
   refine FL.v (E.assign (v := Value.int .i64 1) rfl) ?_
   refine FL.nil ?_
   refine FW.ret ?_
   obtain rfl := hp
   exact ⟨.inr rfl, res1 rfl rfl ⟨rfl, S26.back⟩⟩
  ·
   refine FW.condF rfl c29 ?_
   refine FW.skip (FW.seq (FW.seq (FW.region ?_)))
   refine FL.v (E.move (v := Value.int .i64 a0) rfl) ?_
   refine FL.v (E.move (v := Value.int .i64 a1) rfl) ?_
   refine FL.v (E.lss rfl rfl) ?_
   refine FL.nil ?_
   rcases ifT hp with ⟨c30, hp⟩ | ⟨c30, hp⟩
   ·
    refine FW.condT rfl c30 ?_
    refine FW.seq (FW.region ?_)
    refine FL.v (E.assign (v := Value.int .i64 (-1)) rfl) ?_
    refine FL.nil ?_
    refine FW.ret ?_
    obtain rfl := hp
    exact ⟨.inr rfl, res1 rfl rfl ⟨rfl, S26.back⟩⟩
   ·
    refine FW.condF rfl c30 ?_
    refine FW.skip (FW.seq (FW.seq (FW.region ?_)))
    refine FL.v (E.move (v := Value.int .i64 a0) rfl) ?_
    refine FL.v (E.move (v := Value.int .i64 a1) rfl) ?_
    refine FL.v (E.gtr rfl rfl) ?_
    refine FL.nil ?_
    rcases ifT hp with ⟨c31, hp⟩ | ⟨c31, hp⟩
    ·
     refine FW.condT rfl c31 ?_
     refine FW.seq (FW.region ?_)
     refine FL.v (E.assign (v := Value.int .i64 1) rfl) ?_
     refine FL.nil ?_
     refine FW.ret ?_
     obtain rfl := hp
     exact ⟨.inr rfl, res1 rfl rfl ⟨rfl, S26.back⟩⟩
    ·
     refine FW.condF rfl c31 ?_
     refine FW.skip (FW.seq (FW.region ?_))
     refine FL.v (E.assign (v := Value.int .i64 0) rfl) ?_
     refine FL.nil ?_
     refine FW.ret ?_
     obtain rfl := hp
     exact ⟨.inr rfl, res1 rfl rfl ⟨rfl, S26.back⟩⟩

theorem w_cmp_Or_int {Ha : GH} {wa : World} (hs : Sl Ha wa) (v0 : Value) (a0 : List Int) (p0 : RSl Ha eI 1 v0 a0) {r : Int} (hp : (PF.cmp_Or_int a0) = some r) :
  Calls Tryz.prog 100 #[v0] wa (Sc Ha wa (Value.int .i64 r)) := by
 unfold PF.cmp_Or_int at hp
 have S0 := St.init hs
 refine calls_go (N := 18) (args := [v0]) Tryz.func100 rfl rfl rfl ?_
 refine FW.seq (FW.region ?_)
 refine FL.v (E.assign (v := Value.int .i64 0) rfl) ?_
 refine FL.nil (FW.seq (FW.region ?_))
 refine FL.v (E.assign (v := Value.int .i64 0) rfl) ?_
 refine FL.nil (FW.seq (FW.seq (FW.region ?_)))
 refine FL.v (E.move (v := v0) rfl) ?_
 refine FL.v (E.lenP te84 rfl p0) ?_
 refine FL.v (E.move (v := Value.int .i64 0) rfl) ?_
 refine FL.nil ?_
 obtain ⟨q22, hq, hp⟩ := bndR hp
 refine FW.block ?_
 refine FW.mono (FW.forL (S := Unit) (X := Int) (fun (i22 : Nat) (s22 : Unit) f w => ∃ H : GH, St Ha wa H w [] ∧ Inc Ha H ∧ f 8 = Value.int .i64 ((i22 : Nat) : Int) ∧ f 3 = Value.int .i64 0 ∧ f 6 = v0 ∧ f 7 = Value.int .i64 (len a0)) (fun q e f w => match q with | .go s22 => e = Exit.exit 0 ∧ (∃ H : GH, St Ha wa H w [] ∧ Inc Ha H ∧ f 3 = Value.int .i64 0) | .rt x => ((e = Exit.ret) ∧ (fun e f w => (e = Exit.normal ∨ e = Exit.ret) ∧ ∀ a, Fr (δ := []) 18 a f → ∃ v, (results Tryz.f100 a.tmps).run Tryz.prog w = .ok v w ∧ (Sc Ha wa (Value.int .i64 x)) (.returned v) w) e f w)) hq ⟨_, S0, (Inc.rfl _), rfl, rfl, rfl, rfl⟩ ?_ ?_) ?_
 ·
  clear hp hq
  rintro i22 y21 s22 f43 w42 ⟨H39, S40, i41, k44, k45, k46, k47⟩ hx22 o55 hp
  refine FW.seq (FW.region ?_)
  refine FL.v (E.lssT k44 k47 (lss_len hx22)) ?_
  refine FL.nil (FW.seq ?_)
  refine FW.condT rfl rfl ?_
  refine FW.skip (FW.seq (FW.block (FW.seq (FW.region ?_))))
  obtain ⟨p48, cs49, pt50, l51, at52, rel53⟩ := p0.at (ix_nat hx22)
  obtain rfl := eI_open rel53
  refine FL.v (E.indexAddr te84 k46 k44 pt50) ?_
  refine FL.v (E.load rfl (run_load0 Tryz.isAgg3 ((at52.mono i41).now S40.sl) rfl)) ?_
  refine FL.v (E.assign (v := Value.int .i64 y21) rfl) ?_
  refine FL.nil (FW.seq (FW.region ?_))
  refine FL.v (E.move (v := Value.int .i64 y21) rfl) ?_
  refine FL.v (E.move k45) ?_
  refine FL.v (E.neq rfl rfl) ?_
  refine FL.nil ?_
  rcases ifB hp with ⟨c54, hp⟩ | ⟨c54, hp⟩
  ·
   refine FW.condT rfl c54 ?_
   refine FW.seq (FW.region ?_)
   refine FL.v (E.move (v := Value.int .i64 y21) rfl) ?_
   refine FL.v (E.assign (v := Value.int .i64 y21) rfl) ?_
   refine FL.nil ?_
   refine FW.ret ?_
   obtain rfl := Option.some.inj hp
   exact ⟨nofun, rfl, ⟨.inr rfl, res1 rfl rfl ⟨rfl, S40.back⟩⟩⟩
  ·
   refine FW.condF rfl c54 ?_
   refine FW.skip (FW.region ?_)
   refine FL.v (E.add k44 rfl) ?_
   refine FL.v (E.move (v := Value.int .i64 (wr (((i22 : Nat) : Int) + 1))) rfl) ?_
   refine FL.nil ?_
   obtain rfl := Option.some.inj hp
   exact ⟨rfl, ⟨_, S40, i41, (nat_succ rfl (lt_of_get hx22) (p0.mono i41).le), k45, k46, k47⟩⟩
 ·
  clear hp hq
  rintro s22 f66 w65 ⟨H62, S63, i64, k67, k68, k69, k70⟩
  refine FW.seq (FW.region ?_)
  refine FL.v (E.lss k67 k70) ?_
  refine FL.nil (FW.seq ?_)
  refine FW.condF rfl dlt_len ?_
  refine FW.exit ?_
  exact ⟨nofun, rfl, ⟨_, S63, i64, k68⟩⟩
 ·
  clear hq
  intro e f60 w59 hD
  rcases q22 with s22 | x22
  ·
   obtain ⟨rfl, hD⟩ := hD
   obtain ⟨H56, S57, i58, k61⟩ := hD
   replace hp := el_go hp
   refine FW.seq (FW.region ?_)
   refine FL.v (E.move k61) ?_
   refine FL.v (E.assign (v := Value.int .i64 0) rfl) ?_
   refine FL.nil ?_
   refine FW.ret ?_
   obtain rfl := Option.some.inj hp
   exact ⟨.inr rfl, res1 rfl rfl ⟨rfl, S57.back⟩⟩
  ·
   obtain ⟨he, hL⟩ := hD
   replace hp := el_rt hp
   obtain rfl := Option.some.inj hp
   subst he
   exact hL

theorem w_impl_compareLiterals {Ha : GH} {wa : World} (hs : Sl Ha wa) (a0 : Int) (a1 : Int) {r : Int} (hp : (PF.impl_compareLiterals a0 a1) = some r) :
  Calls Tryz.prog 103 #[Value.int .i64 a0, Value.int .i64 a1] wa (Sc Ha wa (Value.int .i64 r)) := by
 unfold PF.impl_compareLiterals at hp
 have S0 := St.init hs
 refine calls_go (N := 15) (args := [Value.int .i64 a0, Value.int .i64 a1]) Tryz.func103 rfl rfl rfl ?_
 refine FW.seq (FW.region ?_)
 refine FL.v (E.assign (v := Value.int .i64 0) rfl) ?_
 refine FL.nil (FW.seq (FW.region ?_))
 refine FL.v (E.move (v := Value.int .i64 a0) rfl) ?_
 refine FL.call rfl rfl rfl (E.call Tryz.call166 (A1 rfl)) (w_impl_abs S0.sl a0) ?_
 rintro e w21 ⟨rfl, r22⟩
 refine ⟨_, rfl, ?_⟩
 have S23 := S0.call r22
 refine FL.v (E.move (v := Value.int .i64 a1) rfl) ?_
 refine FL.call rfl rfl rfl (E.call Tryz.call166 (A1 rfl)) (w_impl_abs S23.sl a1) ?_
 rintro e w24 ⟨rfl, r25⟩
 refine ⟨_, rfl, ?_⟩
 have S26 := S23.call r25
 refine FL.call rfl rfl rfl (E.call Tryz.call101 (A2 rfl rfl)) (w_cmp_Compare_int S26.sl (PF.impl_abs a0) (PF.impl_abs a1)) ?_
 rintro e w27 ⟨rfl, r28⟩
 refine ⟨_, rfl, ?_⟩
 have S29 := S26.call r28
 refine FL.v (E.move (v := Value.int .i64 a1) rfl) ?_
 refine FL.v (E.move (v := Value.int .i64 a0) rfl) ?_
 refine FL.call rfl rfl rfl (E.call Tryz.call101 (A2 rfl rfl)) (w_cmp_Compare_int S29.sl a1 a0) ?_
 rintro e w30 ⟨rfl, r31⟩
 refine ⟨_, rfl, ?_⟩
 have S32 := S29.call r31
 obtain ⟨v33, w34, run35, S36⟩ := S32.buildSlice (P := Tryz.prog) te84 [Value.int .i64 (PF.cmp_Compare_int (PF.impl_abs a0) (PF.impl_abs a1)), Value.int .i64 (PF.cmp_Compare_int a1 a0)] (parts := #[(0, Value.int .i64 (PF.cmp_Compare_int (PF.impl_abs a0) (PF.impl_abs a1))), (1, Value.int .i64 (PF.cmp_Compare_int a1 a0))]) (cells := [Value.int .i64 (PF.cmp_Compare_int (PF.impl_abs a0) (PF.impl_abs a1)), Value.int .i64 (PF.cmp_Compare_int a1 a0)]) rfl (szs_cons rfl (szs_cons rfl szs_nil)) (fc_cons rfl (fc_cons rfl fc_nil)) (ones_cons rfl (ones_cons rfl ones_nil)) (Nat.le_of_ble_eq_true rfl)
 have els37 : Els (up wa.heap.size Ha) eI 1 [Value.int .i64 (PF.cmp_Compare_int (PF.impl_abs a0) (PF.impl_abs a1)), Value.int .i64 (PF.cmp_Compare_int a1 a0)] [(PF.cmp_Compare_int (PF.impl_abs a0) (PF.impl_abs a1)), (PF.cmp_Compare_int a1 a0)] := (Els.snoc (H := (up wa.heap.size Ha)) (E := eI) (k := 1) (c := [Value.int .i64 (PF.cmp_Compare_int a1 a0)]) (x := (PF.cmp_Compare_int a1 a0)) (Els.snoc (H := (up wa.heap.size Ha)) (E := eI) (k := 1) (c := [Value.int .i64 (PF.cmp_Compare_int (PF.impl_abs a0) (PF.impl_abs a1))]) (x := (PF.cmp_Compare_int (PF.impl_abs a0) (PF.impl_abs a1))) Els.nil rfl rfl) rfl rfl)
 refine FL.v (E.buildSlice (B2 rfl rfl) run35) ?_
 obtain ⟨H38, S39, i40, h41, nv42⟩ := S36.sealRowU (i := 0) (l' := []) rfl els37 (by decide) rfl
 obtain ⟨r43, hr44, hp⟩ := bnd hp
 refine FL.call rfl rfl rfl (E.call Tryz.call100 (A1 rfl)) (w_cmp_Or_int S39.sl v33 [(PF.cmp_Compare_int (PF.impl_abs a0) (PF.impl_abs a1)), (PF.cmp_Compare_int a1 a0)] (h41.mono upI) hr44) ?_
 rintro e w45 ⟨rfl, r46⟩
 refine ⟨_, rfl, ?_⟩
 have r46 := Run.lend i40 S36.sl r46
 have S47 := S36.call r46
 refine FL.v (E.assign (v := Value.int .i64 r43) rfl) ?_
 refine FL.nil ?_
 refine FW.ret ?_
 obtain rfl := Option.some.inj hp
 exact ⟨.inr rfl, res1 rfl rfl ⟨rfl, S47.back⟩⟩

@[reducible] def p_impl_clause (Ha : GH) (wa : World) (r : ((List Int) × Bool)) : Ending → World → Prop :=
 fun e w' => ∃ H' : GH, ∃ v0 : Value, ∃ n0 : Nat, ∃ c0 : List Value, e = .returned (Value.tuple #[v0, Value.bool r.2]) ∧ St Ha wa H' w' [.row 3 1 v0 n0 c0] ∧ Els (up wa.heap.size H') eI 1 c0 r.1
theorem w_impl_clause {Ha : GH} {wa : World} (hs : Sl Ha wa) (v0 : Value) (a0 : List Int) (p0 : RSl Ha eI 1 v0 a0) {r : ((List Int) × Bool)} (hp : (PF.impl_clause a0) = some r) :
  Calls Tryz.prog 220 #[v0] wa (p_impl_clause Ha wa r) := by
 unfold PF.impl_clause at hp
 have S0 := St.init hs
 refine calls_go (N := 30) (args := [v0]) Tryz.func220 rfl rfl rfl ?_
 refine FW.seq (FW.region ?_)
 refine FL.v (E.assign (v := Value.slice none 0 0) rfl) ?_
 refine FL.v (E.assign (v := Value.bool false) rfl) ?_
 refine FL.nil (FW.seq (FW.region ?_))
 refine FL.v (E.move (v := v0) rfl) ?_
 obtain ⟨r21, hr22, hp⟩ := bnd hp
 refine FL.call rfl rfl rfl (E.call Tryz.call62 (A1 rfl)) (w_slices_Clone_int_int S0.sl v0 a0 p0 hr22) ?_
 rintro e w24 ⟨H23, v27, n28, cs29, rfl, r26, els30⟩
 refine ⟨_, rfl, ?_⟩
 have els30 := els30.mono (up_le S0.size)
 have S25 := S0.join (l' := [.row 3 1 v27 n28 cs29]) r26 rfl
 refine FL.v (E.assign (v := v27) rfl) ?_
 refine FL.nil (FW.seq (FW.region ?_))
 refine FL.v (E.move (v := v27) rfl) ?_
 obtain ⟨r31, hr32, hp⟩ := bnd hp
 refine FL.call rfl rfl rfl (E.call Tryz.call235 (A2 rfl rfl)) (w_slices_SortFunc_int_int (L := []) S25 r21 els30 (Value.func (.func 103) #[] #[]) (fun x0 x1 => PF.impl_compareLiterals x0 x1) (fun H2 w2 hi2 hs2 x0 x1 r hr => ⟨103, #[], rfl, Tryz.call103, w_impl_compareLiterals hs2 x0 x1  hr⟩) hr32) ?_
 rintro e w34 ⟨H33, cs37, rfl, ⟨S35, i36⟩, els38⟩
 refine ⟨_, rfl, ?_⟩
 have S35 : St Ha wa H33 w34 [.row 3 1 v27 n28 cs37] := S35
 refine FL.nil (FW.seq (FW.region ?_))
 refine FL.v (E.move (v := v27) rfl) ?_
 obtain ⟨r39, hr40, hp⟩ := bnd hp
 refine FL.call rfl rfl rfl (E.call Tryz.call236 (A1 rfl)) (w_slices_Compact_int_int (L := []) S35 r31 els38 hr40) ?_
 rintro e w42 ⟨H41, v45, n46, cs47, rfl, ⟨S43, i44⟩, els48⟩
 refine ⟨_, rfl, ?_⟩
 have S43 : St Ha wa H41 w42 [.row 3 1 v45 n46 cs47] := S43
 refine FL.v (E.assign (v := v45) rfl) ?_
 refine FL.nil (FW.seq (FW.seq (FW.region ?_)))
 refine FL.v (E.assign (v := Value.int .i64 1) rfl) ?_
 refine FL.nil ?_
 obtain ⟨q49, hq, hp⟩ := bndR hp
 refine FW.block ?_
 refine FW.mono (FW.iter (S := Int) (X := ((List Int) × Bool)) (fun (s49 : Int) f w => ∃ H : GH, St Ha wa H w [.row 3 1 v45 n46 cs47] ∧ Inc H41 H ∧ f 4 = v45 ∧ f 5 = Value.int .i64 s49) (fun q e f w => match q with | .go s49 => e = Exit.exit 0 ∧ (∃ H : GH, St Ha wa H w [.row 3 1 v45 n46 cs47] ∧ Inc H41 H ∧ f 4 = v45) | .rt x => ((e = Exit.ret) ∧ (fun e f w => (e = Exit.normal ∨ e = Exit.ret) ∧ ∀ a, Fr (δ := []) 30 a f → ∃ v, (results Tryz.f220 a.tmps).run Tryz.prog w = .ok v w ∧ (p_impl_clause Ha wa x) (.returned v) w) e f w)) hq ⟨_, S43, (Inc.rfl _), rfl, rfl⟩ ?_) ?_
 ·
  clear hp hq
  rintro s49 f83 w82 ⟨H79, S80, i81, k84, k85⟩ o108 hp
  refine FW.seq (FW.seq (FW.region ?_))
  refine FL.v (E.move k85) ?_
  refine FL.v (E.move k84) ?_
  refine FL.v (E.lenO te84 rfl S80 (i := 0) rfl els48 (by decide)) ?_
  refine FL.v (E.lss rfl rfl) ?_
  refine FL.nil ?_
  rcases ifB hp with ⟨c86, hp⟩ | ⟨c86, hp⟩
  ·
   refine FW.condT rfl c86 ?_
   refine FW.skip (FW.seq (FW.block (FW.seq ?_)))
   refine FW.draw (fun w' => Run w82.heap.size H79 w82 H79 w') (by kernel_rfl) (by kernel_rfl) (run_drew S80.sl) ?_
   refine FD.val rfl rfl rfl (fun w' hw' => (E.move k84)) ?_
   refine FD.val rfl rfl rfl (fun w' hw' => (E.move k85)) ?_
   obtain ⟨x94, hx95, hp⟩ := bnd hp
   obtain ⟨p88, cs89, pt90, l91, at92, rel93⟩ := S80.row_at (i := 0) rfl els48 (by decide) hx95
   obtain rfl := eI_open rel93
   refine FD.val rfl rfl rfl (fun w' hw' => (E.indexAddr te84 rfl rfl pt90)) ?_
   refine FD.val rfl rfl rfl (fun w' hw' => (E.load rfl (run_load0 Tryz.isAgg3 (at92.cls hw') rfl))) ?_
   refine FD.val rfl rfl rfl (fun w' hw' => (E.move k84)) ?_
   refine FD.val rfl rfl rfl (fun w' hw' => (E.move k85)) ?_
   refine FD.val rfl rfl rfl (fun w' hw' => (E.sub rfl rfl)) ?_
   obtain ⟨x102, hx103, hp⟩ := bnd hp
   obtain ⟨p96, cs97, pt98, l99, at100, rel101⟩ := S80.row_at (i := 0) rfl els48 (by decide) hx103
   obtain rfl := eI_open rel101
   refine FD.val rfl rfl rfl (fun w' hw' => (E.indexAddr te84 rfl rfl pt98)) ?_
   refine FD.val rfl rfl rfl (fun w' hw' => (E.load rfl (run_load0 Tryz.isAgg3 (at100.cls hw') rfl))) ?_
   refine FD.val rfl rfl rfl (fun w' hw' => (E.neg rfl)) ?_
   refine FD.val rfl rfl rfl (fun w' hw' => (E.eql rfl rfl)) ?_
   refine FD.nil ?_
   intro w104 r106
   have S105 := S80.call r106
   rcases ifB hp with ⟨c107, hp⟩ | ⟨c107, hp⟩
   ·
    refine FW.condT rfl c107 ?_
    refine FW.seq (FW.region ?_)
    refine FL.v (E.assign (v := Value.slice none 0 0) rfl) ?_
    refine FL.v (E.assign (v := Value.bool false) rfl) ?_
    refine FL.nil ?_
    refine FW.ret ?_
    obtain rfl := Option.some.inj hp
    exact ⟨nofun, rfl, ⟨.inr rfl, res2 rfl rfl rfl ⟨_, _, _, _, rfl, ((S105.nil 3 1).sel [0] (by decide) rfl), Els.nil⟩⟩⟩
   ·
    refine FW.condF rfl c107 ?_
    refine FW.skip (FW.region ?_)
    refine FL.v (E.move k85) ?_
    refine FL.v (E.add rfl rfl) ?_
    refine FL.v (E.assign (v := Value.int .i64 (wr (s49 + 1))) rfl) ?_
    refine FL.nil ?_
    obtain rfl := Option.some.inj hp
    exact ⟨rfl, ⟨_, S105, i81, k84, rfl⟩⟩
  ·
   refine FW.condF rfl c86 ?_
   refine FW.exit ?_
   obtain rfl := Option.some.inj hp
   exact ⟨nofun, rfl, ⟨_, S80, i81, k84⟩⟩
 ·
  clear hq
  intro e f113 w112 hD
  rcases q49 with s49 | x49
  ·
   obtain ⟨rfl, hD⟩ := hD
   obtain ⟨H109, S110, i111, k114⟩ := hD
   replace hp := el_go hp
   refine FW.seq (FW.region ?_)
   refine FL.v (E.move k114) ?_
   refine FL.v (E.assign (v := v45) rfl) ?_
   refine FL.v (E.assign (v := Value.bool true) rfl) ?_
   refine FL.nil ?_
   refine FW.ret ?_
   obtain rfl := Option.some.inj hp
   exact ⟨.inr rfl, res2 rfl rfl rfl ⟨_, _, _, _, rfl, S110, (els48.mono (up_mono i111))⟩⟩
  ·
   obtain ⟨he, hL⟩ := hD
   replace hp := el_rt hp
   obtain rfl := Option.some.inj hp
   subst he
   exact hL

@[reducible] def p_impl_mustClause (Ha : GH) (wa : World) (r : (List Int)) : Ending → World → Prop :=
 fun e w' => ∃ H' : GH, ∃ v0 : Value, ∃ n0 : Nat, ∃ c0 : List Value, e = .returned (v0) ∧ St Ha wa H' w' [.row 3 1 v0 n0 c0] ∧ Els (up wa.heap.size H') eI 1 c0 r
theorem w_impl_mustClause {Ha : GH} {wa : World} (hs : Sl Ha wa) (v0 : Value) (a0 : List Int) (p0 : RSl Ha eI 1 v0 a0) {r : (List Int)} (hp : (PF.impl_mustClause a0) = some r) :
  Calls Tryz.prog 181 #[v0] wa (p_impl_mustClause Ha wa r) := by
 unfold PF.impl_mustClause at hp
 have S0 := St.init hs
 refine calls_go (N := 11) (args := [v0]) Tryz.func181 rfl rfl rfl ?_
 refine FW.seq (FW.region ?_)
 refine FL.v (E.assign (v := Value.slice none 0 0) rfl) ?_
 refine FL.nil (FW.seq (FW.region ?_))
 refine FL.v (E.move (v := v0) rfl) ?_
 obtain ⟨r21, hr22, hp⟩ := bnd hp
 refine FL.call rfl rfl rfl (E.call Tryz.call220 (A1 rfl)) (w_impl_clause S0.sl v0 a0 p0 hr22) ?_
 rintro e w24 ⟨H23, v27, n28, cs29, rfl, r26, els30⟩
 refine ⟨_, rfl, ?_⟩
 have els30 := els30.mono (up_le S0.size)
 have S25 := S0.join (l' := [.row 3 1 v27 n28 cs29]) r26 rfl
 refine FL.v (E.move (v := Value.tuple #[v27, Value.bool r21.2]) rfl) ?_
 refine FL.v (E.extract (i := 0) rfl rfl) ?_
 refine FL.v (E.extract (i := 1) rfl rfl) ?_
 refine FL.v (E.assign (v := v27) rfl) ?_
 refine FL.v (E.assign (v := Value.bool r21.2) rfl) ?_
 refine FL.nil (FW.seq (FW.region ?_))
 refine FL.v (E.move (v := v27) rfl) ?_
 refine FL.v (E.assign (v := v27) rfl) ?_
 refine FL.nil ?_
 refine FW.ret ?_
 obtain rfl := Option.some.inj hp
 exact ⟨.inr rfl, res1 rfl rfl ⟨_, _, _, _, rfl, S25, els30⟩⟩

@[reducible] def p_impl_set (Ha : GH) (wa : World) (r : (List Int)) : Ending → World → Prop :=
 fun e w' => ∃ H' : GH, ∃ v0 : Value, ∃ n0 : Nat, ∃ c0 : List Value, e = .returned (v0) ∧ St Ha wa H' w' [.row 3 1 v0 n0 c0] ∧ Els (up wa.heap.size H') eI 1 c0 r
theorem w_impl_set {Ha : GH} {wa : World} (hs : Sl Ha wa) (v0 : Value) (a0 : List Int) (p0 : RSl Ha eI 1 v0 a0) (a1 : Int) {r : (List Int)} (hp : (PF.impl_set a0 a1) = some r) :
  Calls Tryz.prog 130 #[v0, Value.int .i64 a1] wa (p_impl_set Ha wa r) := by
 unfold PF.impl_set at hp
 have S0 := St.init hs
 refine calls_go (N := 13) (args := [v0, Value.int .i64 a1]) Tryz.func130 rfl rfl rfl ?_
 refine FW.seq (FW.region ?_)
 refine FL.v (E.assign (v := Value.slice none 0 0) rfl) ?_
 refine FL.nil (FW.seq (FW.region ?_))
 refine FL.v (E.move (v := v0) rfl) ?_
 refine FL.v (E.move (v := Value.int .i64 a1) rfl) ?_
 refine FL.call rfl rfl rfl (E.call Tryz.call166 (A1 rfl)) (w_impl_abs S0.sl a1) ?_
 rintro e w21 ⟨rfl, r22⟩
 refine ⟨_, rfl, ?_⟩
 have S23 := S0.call r22
 obtain ⟨r24, hr25, hp⟩ := bnd hp
 refine FL.call rfl rfl rfl (E.call Tryz.call182 (A2 rfl rfl)) (w_impl_withoutVar S23.sl v0 a0 p0 (PF.impl_abs a1) hr25) ?_
 rintro e w27 ⟨H26, v30, n31, cs32, rfl, r29, els33⟩
 refine ⟨_, rfl, ?_⟩
 have els33 := els33.mono (up_le S23.size)
 have S28 := S23.join (l' := [.row 3 1 v30 n31 cs32]) r29 rfl
 refine FL.v (E.move (v := Value.int .i64 a1) rfl) ?_
 obtain ⟨v34, w35, run36, S37⟩ := S28.buildSlice (P := Tryz.prog) te84 [Value.int .i64 a1] (parts := #[(0, Value.int .i64 a1)]) (cells := [Value.int .i64 a1]) rfl (szs_cons rfl szs_nil) (fc_cons rfl fc_nil) (ones_cons rfl ones_nil) (Nat.le_of_ble_eq_true rfl)
 have els38 : Els (up wa.heap.size H26) eI 1 [Value.int .i64 a1] [a1] := (Els.snoc (H := (up wa.heap.size H26)) (E := eI) (k := 1) (c := [Value.int .i64 a1]) (x := a1) Els.nil rfl rfl)
 refine FL.v (E.buildSlice (B1 rfl) run36) ?_
 obtain ⟨xs39, hz40, hp⟩ := bnd hp
 obtain ⟨v41, w44, n42, cs43, run45, S46, els47, ce48⟩ := S37.appendO (P := Tryz.prog) te84 (i := 1) (j := 0) rfl els33 rfl els38 hz40
 have S46 : St Ha wa H26 w44 [.row 3 1 v34 1 [Value.int .i64 a1], .row 3 1 v41 n42 cs43] := S46
 have S49 : St Ha wa H26 w44 [.row 3 1 v41 n42 cs43] := S46.drop 0
 refine FL.v (E.append rfl rfl run45) ?_
 obtain ⟨H50, S51, i52, h53, nv54⟩ := S49.sealRowU (i := 0) (l' := []) rfl els47 (by decide) rfl
 obtain ⟨r55, hr56, hp⟩ := bnd hp
 refine FL.call rfl rfl rfl (E.call Tryz.call181 (A1 rfl)) (w_impl_mustClause S51.sl v41 xs39 (h53.mono upI) hr56) ?_
 rintro e w58 ⟨H57, v63, n64, cs65, rfl, r60, els66⟩
 refine ⟨_, rfl, ?_⟩
 obtain ⟨H61, r60, hU62⟩ := St.lendX i52 S49.sl r60
 have els66 := els66.mono (hU62.tr (up_le S49.size))
 have S59 := S49.join (l' := [.row 3 1 v63 n64 cs65, .row 3 1 v41 n42 cs43]) r60 rfl
 refine FL.v (E.assign (v := v63) rfl) ?_
 refine FL.nil ?_
 refine FW.ret ?_
 obtain rfl := Option.some.inj hp
 exact ⟨.inr rfl, res1 rfl rfl ⟨_, _, _, _, rfl, (S59.sel [0] (by decide) rfl), els66⟩⟩

@[reducible] def p_impl_paths (Ha : GH) (wa : World) (r : ((List (List Int)) × Bool)) : Ending → World → Prop :=
 fun e w' => ∃ H' : GH, ∃ v0 : Value, ∃ n0 : Nat, ∃ c0 : List Value, e = .returned (Value.tuple #[v0, Value.bool r.2]) ∧ St Ha wa H' w' [.row 84 1 v0 n0 c0] ∧ Els (up wa.heap.size H') (eL eI 1) 1 c0 r.1 ∧ (bl c0).Nodup
set_option maxHeartbeats 4000000 in
theorem w_impl_paths {Ha : GH} {wa : World} (hs : Sl Ha wa) (v0 : Value) (a0 : List TreeNode) (p0 : RSl Ha eTreeNode 4 v0 a0) {r : ((List (List Int)) × Bool)} (hp : (PF.impl_paths a0) = some r) :
  Calls Tryz.prog 215 #[v0] wa (p_impl_paths Ha wa r) := by
 unfold PF.impl_paths at hp
 have S0 := St.init hs
 refine calls_goM (N := 86) (args := [v0]) Tryz.func215 rfl rfl rfl ?_
 refine FT.seq ?_
 refine FW.region ?_
 obtain ⟨b21, w22, run23, S24⟩ := S0.alloc (P := Tryz.prog) 22 [Value.slice none 0 0] Tryz.zeroValue22 rfl (ones_cons rfl ones_nil)
 refine FL.v (E.alloc run23) ?_
 obtain ⟨b25, w26, run27, S28⟩ := S24.alloc (P := Tryz.prog) 4 [Value.bool false] Tryz.zeroValue4 rfl (ones_cons rfl ones_nil)
 refine FL.v (E.alloc run27) ?_
 refine FL.nil ?_
 refine FT.seq ?_
 refine FW.region ?_
 refine FL.v (E.move (v := v0) rfl) ?_
 refine FL.v (E.lenP te56 rfl p0) ?_
 obtain ⟨xs29, hm30, hp⟩ := bnd hp
 obtain ⟨v31, w32, n36, cs37, run33, S34, els35, hbl38⟩ := S28.makeEls (P := Tryz.prog) te22 (G := (up wa.heap.size Ha)) (En := (eL eI 1)) (x0 := ([] : List Int)) hm30 ⟨_, rfl, RSl.nil _ _ _⟩ (ones_cons rfl ones_nil) .i64 .i64
 have nd39 : (bl cs37).Nodup := by rw [hbl38 (by simp [Value.cells, neb])]; exact List.nodup_nil
 refine FL.v (E.makeSlice rfl rfl run33) ?_
 obtain ⟨b40, w41, run42, S43⟩ := S34.alloc (P := Tryz.prog) 22 [Value.slice none 0 0] Tryz.zeroValue22 rfl (ones_cons rfl ones_nil)
 refine FL.v (E.alloc run42) ?_
 obtain ⟨w44, run45, S46⟩ := S43.store0 (P := Tryz.prog) (t := 22) (i := 0) (cs' := [v31]) (l' := [.box b40 22 [v31], .row 84 1 v31 n36 cs37, .box b25 4 [Value.bool false], .box b21 22 [Value.slice none 0 0]]) (v := v31) (c := [v31]) rfl Tryz.sizeOf22 (Ln.cells (S43.row_ln (i := 1) rfl)) rfl (ones_cons (Ln.one (S43.row_ln (i := 1) rfl)) ones_nil) (Nat.le_of_ble_eq_true rfl) rfl rfl
 refine FL.act rfl rfl (E.store rfl rfl run45) ?_
 refine FL.nil ?_
 refine FT.seq ?_
 refine FW.region ?_
 refine FL.v (E.move (v := v0) rfl) ?_
 refine FL.v (E.lenP te56 rfl p0) ?_
 obtain ⟨xs47, hm48, hp⟩ := bnd hp
 obtain ⟨v49, w50, n54, cs55, run51, S52, els53, hbl56⟩ := S46.makeEls (P := Tryz.prog) te247 (G := (up wa.heap.size Ha)) (En := eB) (x0 := (false : Bool)) hm48 rfl (ones_cons rfl ones_nil) .i64 .i64
 refine FL.v (E.makeSlice rfl rfl run51) ?_
 obtain ⟨b57, w58, run59, S60⟩ := S52.alloc (P := Tryz.prog) 247 [Value.slice none 0 0] Tryz.zeroValue247 rfl (ones_cons rfl ones_nil)
 refine FL.v (E.alloc run59) ?_
 obtain ⟨w61, run62, S63⟩ := S60.store0 (P := Tryz.prog) (t := 247) (i := 0) (cs' := [v49]) (l' := [.box b57 247 [v49], .row 4 1 v49 n54 cs55, .box b40 22 [v31], .row 84 1 v31 n36 cs37, .box b25 4 [Value.bool false], .box b21 22 [Value.slice none 0 0]]) (v := v49) (c := [v49]) rfl Tryz.sizeOf247 (Ln.cells (S60.row_ln (i := 1) rfl)) rfl (ones_cons (Ln.one (S60.row_ln (i := 1) rfl)) ones_nil) (Nat.le_of_ble_eq_true rfl) rfl rfl
 refine FL.act rfl rfl (E.store rfl rfl run62) ?_
 refine FL.nil ?_
 refine FT.seq ?_
 refine FW.region ?_
 refine FL.v (E.load rfl (run_load0 Tryz.isAgg247 (S63.box_now (i := 0) rfl) rfl)) ?_
 refine FL.v (E.move (v := v0) rfl) ?_
 refine FL.v (E.lenP te56 rfl p0) ?_
 refine FL.v (E.sub rfl rfl) ?_
 obtain ⟨x70, hx71, hp⟩ := bnd hp
 obtain ⟨p64, cs65, pt66, l67, at68, rel69⟩ := S63.row_at (i := 1) rfl els53 (by decide) hx71
 obtain rfl := eB_open rel69
 refine FL.v (E.indexAddr te247 rfl rfl pt66) ?_
 obtain ⟨xs75, hput76, hp⟩ := bnd hp
 obtain ⟨w72, cs78, run73, S74, els77, ce79⟩ := S63.putEls (P := Tryz.prog) (t := 4) (i := 1) rfl els53 hput76 pt66 Tryz.sizeOf4 (u := Value.bool true) (c := [Value.bool true]) rfl rfl (ones_cons rfl ones_nil) rfl
 have S74 : St Ha wa Ha w72 [.box b57 247 [v49], .row 4 1 v49 n54 cs78, .box b40 22 [v31], .row 84 1 v31 n36 cs37, .box b25 4 [Value.bool false], .box b21 22 [Value.slice none 0 0]] := S74
 refine FL.act rfl rfl (E.store rfl rfl run73) ?_
 refine FL.nil ?_
 refine FT.seqT ?_
 refine FT.seq ?_
 refine FW.region ?_
 refine FL.v (E.move (v := v0) rfl) ?_
 refine FL.call rfl rfl rfl (E.call Tryz.call233 (A1 rfl)) (w_back233 S74.sl v0 a0 p0) ?_
 rintro e w81 ⟨H80, b83, rfl, r84, at85⟩
 refine ⟨_, rfl, ?_⟩
 have S82 := S74.call r84
 refine FL.nil ?_
 obtain ⟨q86, hq, hp⟩ := bndR hp
 obtain ⟨L86, hL86, hA86⟩ := back_list (p0.mono r84.inc) (fun cs => Value.agg cs.toArray)
 replace hq := forB_eq hq hL86
 refine FT.range (S := ((List Bool) × (List (List Int)))) (X := Bool) (Hs := H80) (L := L86) (pj := Prod.snd) rfl Tryz.call252 (w_iter252 at85 (p0.mono r84.inc) L86 hL86 hA86) rfl (fun _ => rfl) (fun (T86 : List MO) (s86 : ((List Bool) × (List (List Int)))) (w : World) => ∃ H : GH, ∃ v87 : Value, ∃ n88 : Nat, ∃ cs89 : List Value, ∃ v91 : Value, ∃ n92 : Nat, ∃ cs93 : List Value, St Ha wa H w (.box b57 247 [v87] :: .row 4 1 v87 n88 cs89 :: .box b40 22 [v91] :: .row 84 1 v91 n92 cs93 :: .box b25 4 [Value.bool false] :: .box b21 22 [Value.slice none 0 0] :: T86) ∧ Inc H80 H ∧ Els (up wa.heap.size H) eB 1 cs89 s86.1 ∧ Els (up wa.heap.size H) (eL eI 1) 1 cs93 s86.2 ∧ (bl cs93).Nodup) (fun (T86 : List MO) (x86 : Bool) (w : World) => ∃ H : GH, St Ha wa H w (.box b25 4 [Value.bool x86] :: .box b21 22 [Value.slice none 0 0] :: T86) ∧ Inc H80 H) (fun s86 T86 w ⟨H, v87, n88, cs89, v91, n92, cs93, S, i0, f0, f1, f2⟩ => ⟨H, [.box b57 247 [v87], .row 4 1 v87 n88 cs89, .box b40 22 [v91], .row 84 1 v91 n92 cs93, .box b25 4 [Value.bool false], .box b21 22 [Value.slice none 0 0]], S, i0, fun T2 w2 S2 => ⟨H, v87, n88, cs89, v91, n92, cs93, S2, i0, f0, f1, f2⟩⟩) (fun x86 T86 w ⟨H, S, i0⟩ => ⟨H, [.box b25 4 [Value.bool x86], .box b21 22 [Value.slice none 0 0]], S, i0, fun T2 w2 S2 => ⟨H, S2, i0⟩⟩) ⟨_, _, _, _, _, _, _, S82, (Inc.rfl _), (els77.mono (up_mono r84.inc)), (els35.mono (up_mono r84.inc)), nd39⟩ hq ?_ ?_ ?_
 ·
  clear hp hq
  rintro l86 i86 T86 T86' ⟨u86, y86, j86⟩ s86 w100 o86 ha86 ⟨H96, v87, n88, cs89, v91, n92, cs93, S97, i99, els90, els94, nd95⟩ hp
  replace hp : bd (ix s86.1 ((j86 : Nat) : Int)) (fun x124 => (bif (!x124) then some (Lp.rt false) else (bif (y86.var == 0) then some (Lp.nx (s86.1, s86.2)) else bd (ix s86.1 y86.low) (fun x143 => bd (bif x143 then some true else bd (ix s86.1 y86.high) (fun x152 => some x152)) (fun t133_11 => bd (bif t133_11 then some true else bd (ix s86.2 ((j86 : Nat) : Int)) (fun x161 => bd (PF.impl_varsOf [x161]) (fun r176 => bd (PF.slices_Contains_int_int r176 y86.var) (fun r193 => some r193)))) (fun t133_22 => (bif t133_22 then some (Lp.rt false) else bd (ix s86.1 y86.low) (fun x223 => bd (put s86.1 y86.low true) (fun xs228 => bd (ix xs228 y86.high) (fun x239 => bd (put xs228 y86.high true) (fun xs244 => bd (ix s86.2 ((j86 : Nat) : Int)) (fun x259 => bd (PF.impl_set x259 (wr (-y86.var))) (fun r264 => bd (ix s86.2 y86.low) (fun x280 => bd (put s86.2 y86.low r264) (fun xs293 => bd (ix xs293 ((j86 : Nat) : Int)) (fun x324 => bd (PF.impl_set x324 y86.var) (fun r329 => bd (ix xs293 y86.high) (fun x345 => bd (put xs293 y86.high r329) (fun xs358 => some (Lp.nx (xs244, xs358))))))))))))))))))))) = some o86 := hp
  obtain ⟨l104, _, cs103, _, _, _, rel101, hu102⟩ := hA86 i86 _ ha86
  replace rel101 : eTreeNode.rel H80 cs103 y86 := rel101
  obtain rfl := eTreeNode_open rel101
  replace hu102 : u86 = Value.agg #[Value.int .i64 y86.var, Value.int .i64 y86.low, Value.int .i64 y86.high, Value.int .i64 y86.clause] := hu102
  subst hu102
  change FW (ρ := some l86) (δ := []) Tryz.prog 86 _ _ (upd (upd _ 21 (Value.int .i64 ((j86 : Nat) : Int))) 22 (Value.agg #[Value.int .i64 y86.var, Value.int .i64 y86.low, Value.int .i64 y86.high, Value.int .i64 y86.clause])) _
  refine FW.seq (FW.region ?_)
  refine FL.v (E.assign (v := Value.int .i64 ((j86 : Nat) : Int)) rfl) ?_
  refine FL.nil (FW.region ?_)
  obtain ⟨b105, w106, run107, S108⟩ := S97.alloc (P := Tryz.prog) 98 [Value.int .i64 0, Value.int .i64 0, Value.int .i64 0, Value.int .i64 0] Tryz.zeroValue98 rfl (ones_cons rfl (ones_cons rfl (ones_cons rfl (ones_cons rfl ones_nil))))
  refine FL.v (E.alloc run107) ?_
  obtain ⟨w109, run110, S111⟩ := S108.store0 (P := Tryz.prog) (t := 98) (i := 0) (cs' := [Value.int .i64 y86.var, Value.int .i64 y86.low, Value.int .i64 y86.high, Value.int .i64 y86.clause]) (l' := (.box b105 98 [Value.int .i64 y86.var, Value.int .i64 y86.low, Value.int .i64 y86.high, Value.int .i64 y86.clause] :: .box b57 247 [v87] :: .row 4 1 v87 n88 cs89 :: .box b40 22 [v91] :: .row 84 1 v91 n92 cs93 :: .box b25 4 [Value.bool false] :: .box b21 22 [Value.slice none 0 0] :: T86)) (v := Value.agg #[Value.int .i64 y86.var, Value.int .i64 y86.low, Value.int .i64 y86.high, Value.int .i64 y86.clause]) (c := [Value.int .i64 y86.var, Value.int .i64 y86.low, Value.int .i64 y86.high, Value.int .i64 y86.clause]) rfl Tryz.sizeOf98 rfl rfl (ones_cons rfl (ones_cons rfl (ones_cons rfl (ones_cons rfl ones_nil)))) (Nat.le_of_ble_eq_true rfl) rfl rfl
  refine FL.act rfl rfl (E.store rfl rfl run110) ?_
  obtain ⟨H112, S113, i114, at115⟩ := S111.sealBox (i := 0) (l' := (.box b57 247 [v87] :: .row 4 1 v87 n88 cs89 :: .box b40 22 [v91] :: .row 84 1 v91 n92 cs93 :: .box b25 4 [Value.bool false] :: .box b21 22 [Value.slice none 0 0] :: T86)) rfl rfl
  refine FL.nil ?_
  refine ⟨rfl, _, [.box b57 247 [v87], .row 4 1 v87 n88 cs89, .box b40 22 [v91], .row 84 1 v91 n92 cs93, .box b25 4 [Value.bool false], .box b21 22 [Value.slice none 0 0]], S113, ?_⟩
  intro w116 S117
  replace S117 : St Ha wa H112 w116 (.box b57 247 [v87] :: .row 4 1 v87 n88 cs89 :: .box b40 22 [v91] :: .row 84 1 v91 n92 cs93 :: .box b25 4 [Value.bool false] :: .box b21 22 [Value.slice none 0 0] :: T86') := S117
  refine FW.block (FW.seq (FW.seq (FW.region ?_)))
  refine FL.v (E.load rfl (run_load0 Tryz.isAgg247 (S117.box_now (i := 0) rfl) rfl)) ?_
  refine FL.v (E.move (v := Value.int .i64 ((j86 : Nat) : Int)) rfl) ?_
  obtain ⟨x124, hx125, hp⟩ := bnd hp
  obtain ⟨p118, cs119, pt120, l121, at122, rel123⟩ := S117.row_at (i := 1) rfl els90 (by decide) hx125
  obtain rfl := eB_open rel123
  refine FL.v (E.indexAddr te247 rfl rfl pt120) ?_
  refine FL.v (E.load rfl (run_load0 Tryz.isAgg4 at122 rfl)) ?_
  refine FL.v (E.not rfl) ?_
  refine FL.nil ?_
  rcases ifB hp with ⟨c126, hp⟩ | ⟨c126, hp⟩
  ·
   refine FW.condT rfl c126 ?_
   refine FW.seq (FW.region ?_)
   obtain ⟨w127, run128, S129⟩ := S117.store0 (P := Tryz.prog) (t := 22) (i := 5) (cs' := [Value.slice none 0 0]) (l' := (.box b57 247 [v87] :: .row 4 1 v87 n88 cs89 :: .box b40 22 [v91] :: .row 84 1 v91 n92 cs93 :: .box b25 4 [Value.bool false] :: .box b21 22 [Value.slice none 0 0] :: T86')) (v := Value.slice none 0 0) (c := [Value.slice none 0 0]) rfl Tryz.sizeOf22 rfl rfl (ones_cons rfl ones_nil) (Nat.le_of_ble_eq_true rfl) rfl rfl
   refine FL.act rfl rfl (E.store rfl rfl run128) ?_
   obtain ⟨w130, run131, S132⟩ := S129.store0 (P := Tryz.prog) (t := 4) (i := 4) (cs' := [Value.bool false]) (l' := (.box b57 247 [v87] :: .row 4 1 v87 n88 cs89 :: .box b40 22 [v91] :: .row 84 1 v91 n92 cs93 :: .box b25 4 [Value.bool false] :: .box b21 22 [Value.slice none 0 0] :: T86')) (v := Value.bool false) (c := [Value.bool false]) rfl Tryz.sizeOf4 rfl rfl (ones_cons rfl ones_nil) (Nat.le_of_ble_eq_true rfl) rfl rfl
   refine FL.act rfl rfl (E.store rfl rfl run131) ?_
   refine FL.nil ?_
   refine FW.ret ?_
   obtain rfl := Option.some.inj hp
   exact ⟨rfl, ⟨_, (S132.selT (a := [.box b57 247 [v87], .row 4 1 v87 n88 cs89, .box b40 22 [v91], .row 84 1 v91 n92 cs93, .box b25 4 [Value.bool false], .box b21 22 [Value.slice none 0 0]]) (l' := [.box b25 4 [Value.bool false], .box b21 22 [Value.slice none 0 0]]) [4, 5] (by decide) rfl), (i99.tr i114)⟩⟩
  ·
   refine FW.condF rfl c126 ?_
   refine FW.skip (FW.seq (FW.seq (FW.region ?_)))
   refine FL.v (E.fieldAddr tf98_0 rfl) ?_
   refine FL.v (E.load rfl (run_load1 Tryz.isAgg3 (at115.now S117.sl) rfl)) ?_
   refine FL.v (E.eql rfl rfl) ?_
   refine FL.nil ?_
   rcases ifB hp with ⟨c133, hp⟩ | ⟨c133, hp⟩
   ·
    refine FW.condT rfl c133 ?_
    refine FW.exit ?_
    obtain rfl := Option.some.inj hp
    exact ⟨rfl, ⟨_, _, _, _, _, _, _, S117, (i99.tr i114), (els90.mono (up_mono i114)), (els94.mono (up_mono i114)), nd95⟩⟩
   ·
    refine FW.condF rfl c133 ?_
    refine FW.skip (FW.seq (FW.seq ?_))
    obtain ⟨x143, hx144, hp⟩ := bnd hp
    obtain ⟨t133_11, hqt133_11, hp⟩ := bnd hp
    obtain ⟨t133_22, hqt133_22, hp⟩ := bnd hp
    refine FW.drawRB (SX Ha wa H112 (.box b57 247 [v87] :: .row 4 1 v87 n88 cs89 :: .box b40 22 [v91] :: .row 84 1 v91 n92 cs93 :: T86')) (fun f w => ∃ H : GH, St Ha wa H w (.box b57 247 [v87] :: .row 4 1 v87 n88 cs89 :: .box b40 22 [v91] :: .row 84 1 v91 n92 cs93 :: .box b25 4 [Value.bool false] :: .box b21 22 [Value.slice none 0 0] :: T86') ∧ Inc H112 H ∧ f 2 = Value.pointer (some (⟨b21, 0, none⟩ : Addr)) ∧ f 3 = Value.pointer (some (⟨b25, 0, none⟩ : Addr)) ∧ f 4 = Value.pointer (some (⟨b40, 0, none⟩ : Addr)) ∧ f 5 = Value.pointer (some (⟨b57, 0, none⟩ : Addr)) ∧ f 6 = Value.int .i64 ((j86 : Nat) : Int) ∧ f 7 = Value.pointer (some ⟨b105, 0, none⟩) ∧ f 53 = Value.bool t133_22) (by kernel_rfl) (by kernel_rfl) S117.sl ?_ ?_
    ·
     intro w134 r135
     have S136 := S117.call r135
     refine FB.t (i := 0) (bs 23 1) rfl (SP.nil ⟨_, (S136.selT (a := [.box b57 247 [v87], .row 4 1 v87 n88 cs89, .box b40 22 [v91], .row 84 1 v91 n92 cs93, .box b25 4 [Value.bool false], .box b21 22 [Value.slice none 0 0]]) (l' := [.box b57 247 [v87], .row 4 1 v87 n88 cs89, .box b40 22 [v91], .row 84 1 v91 n92 cs93]) [0, 1, 2, 3] (by decide) rfl), (Inc.rfl _)⟩) rfl (fun w' hw' => (E.load rfl (run_load0 Tryz.isAgg247 (SX.box_now hw' (i := 0) rfl) rfl))) ?_
     refine FB.t (i := 1) (bs 23 3) rfl (SP.nil ⟨_, (S136.selT (a := [.box b57 247 [v87], .row 4 1 v87 n88 cs89, .box b40 22 [v91], .row 84 1 v91 n92 cs93, .box b25 4 [Value.bool false], .box b21 22 [Value.slice none 0 0]]) (l' := [.box b57 247 [v87], .row 4 1 v87 n88 cs89, .box b40 22 [v91], .row 84 1 v91 n92 cs93]) [0, 1, 2, 3] (by decide) rfl), (Inc.rfl _)⟩) rfl (fun w' hw' => (E.fieldAddr tf98_1 rfl)) ?_
     refine FB.t (i := 2) (bs 23 7) rfl (SP.nil ⟨_, (S136.selT (a := [.box b57 247 [v87], .row 4 1 v87 n88 cs89, .box b40 22 [v91], .row 84 1 v91 n92 cs93, .box b25 4 [Value.bool false], .box b21 22 [Value.slice none 0 0]]) (l' := [.box b57 247 [v87], .row 4 1 v87 n88 cs89, .box b40 22 [v91], .row 84 1 v91 n92 cs93]) [0, 1, 2, 3] (by decide) rfl), (Inc.rfl _)⟩) rfl (fun w' hw' => (E.load rfl (run_load1 Tryz.isAgg3 (at115.now hw'.sl) rfl))) ?_
     obtain ⟨p137, cs138, pt139, l140, at141, rel142, hall145⟩ := S136.row_atA (i := 1) rfl els90 (by decide) hx144
     obtain rfl := eB_open rel142
     refine FB.t (i := 3) (bs 23 15) rfl (SP.nil ⟨_, (S136.selT (a := [.box b57 247 [v87], .row 4 1 v87 n88 cs89, .box b40 22 [v91], .row 84 1 v91 n92 cs93, .box b25 4 [Value.bool false], .box b21 22 [Value.slice none 0 0]]) (l' := [.box b57 247 [v87], .row 4 1 v87 n88 cs89, .box b40 22 [v91], .row 84 1 v91 n92 cs93]) [0, 1, 2, 3] (by decide) rfl), (Inc.rfl _)⟩) rfl (fun w' hw' => (E.indexAddr te247 rfl rfl pt139)) ?_
     refine FB.t (i := 4) (bs 23 31) rfl (SP.nil ⟨_, (S136.selT (a := [.box b57 247 [v87], .row 4 1 v87 n88 cs89, .box b40 22 [v91], .row 84 1 v91 n92 cs93, .box b25 4 [Value.bool false], .box b21 22 [Value.slice none 0 0]]) (l' := [.box b57 247 [v87], .row 4 1 v87 n88 cs89, .box b40 22 [v91], .row 84 1 v91 n92 cs93]) [0, 1, 2, 3] (by decide) rfl), (Inc.rfl _)⟩) rfl (fun w' hw' => (E.load rfl (run_load0 Tryz.isAgg4 (hw'.use fun _ st => hall145 _ _ _ 1 st rfl) rfl))) ?_
     refine FB.t (i := 5) (bs 23 63) rfl (SP.nil ⟨_, (S136.selT (a := [.box b57 247 [v87], .row 4 1 v87 n88 cs89, .box b40 22 [v91], .row 84 1 v91 n92 cs93, .box b25 4 [Value.bool false], .box b21 22 [Value.slice none 0 0]]) (l' := [.box b57 247 [v87], .row 4 1 v87 n88 cs89, .box b40 22 [v91], .row 84 1 v91 n92 cs93]) [0, 1, 2, 3] (by decide) rfl), (Inc.rfl _)⟩) rfl (fun w' hw' => (E.move (v := Value.bool x143) rfl)) ?_
     rcases ifB hqt133_11 with ⟨hc133_5, hqt133_11⟩ | ⟨hc133_5, hqt133_11⟩
     ·
      refine FB.skip (i := 6) (l' := (bs 23 127)) rfl (by kernel_rfl) (by kernel_rfl) (by kernel_rfl) (by kernel_rfl) (by kernel_rfl) (SP.nil ⟨_, (S136.selT (a := [.box b57 247 [v87], .row 4 1 v87 n88 cs89, .box b40 22 [v91], .row 84 1 v91 n92 cs93, .box b25 4 [Value.bool false], .box b21 22 [Value.slice none 0 0]]) (l' := [.box b57 247 [v87], .row 4 1 v87 n88 cs89, .box b40 22 [v91], .row 84 1 v91 n92 cs93]) [0, 1, 2, 3] (by decide) rfl), (Inc.rfl _)⟩) (wF_no rfl rfl rfl hc133_5) rfl rfl ?_
      refine FB.skip (i := 7) (l' := (bs 23 255)) rfl (by kernel_rfl) (by kernel_rfl) (by kernel_rfl) (by kernel_rfl) (by kernel_rfl) (SP.nil ⟨_, (S136.selT (a := [.box b57 247 [v87], .row 4 1 v87 n88 cs89, .box b40 22 [v91], .row 84 1 v91 n92 cs93, .box b25 4 [Value.bool false], .box b21 22 [Value.slice none 0 0]]) (l' := [.box b57 247 [v87], .row 4 1 v87 n88 cs89, .box b40 22 [v91], .row 84 1 v91 n92 cs93]) [0, 1, 2, 3] (by decide) rfl), (Inc.rfl _)⟩) (wF_no rfl rfl rfl hc133_5) rfl rfl ?_
      refine FB.skip (i := 8) (l' := (bs 23 511)) rfl (by kernel_rfl) (by kernel_rfl) (by kernel_rfl) (by kernel_rfl) (by kernel_rfl) (SP.nil ⟨_, (S136.selT (a := [.box b57 247 [v87], .row 4 1 v87 n88 cs89, .box b40 22 [v91], .row 84 1 v91 n92 cs93, .box b25 4 [Value.bool false], .box b21 22 [Value.slice none 0 0]]) (l' := [.box b57 247 [v87], .row 4 1 v87 n88 cs89, .box b40 22 [v91], .row 84 1 v91 n92 cs93]) [0, 1, 2, 3] (by decide) rfl), (Inc.rfl _)⟩) (wF_no rfl rfl rfl hc133_5) rfl rfl ?_
      refine FB.skip (i := 9) (l' := (bs 23 1023)) rfl (by kernel_rfl) (by kernel_rfl) (by kernel_rfl) (by kernel_rfl) (by kernel_rfl) (SP.nil ⟨_, (S136.selT (a := [.box b57 247 [v87], .row 4 1 v87 n88 cs89, .box b40 22 [v91], .row 84 1 v91 n92 cs93, .box b25 4 [Value.bool false], .box b21 22 [Value.slice none 0 0]]) (l' := [.box b57 247 [v87], .row 4 1 v87 n88 cs89, .box b40 22 [v91], .row 84 1 v91 n92 cs93]) [0, 1, 2, 3] (by decide) rfl), (Inc.rfl _)⟩) (wF_no rfl rfl rfl hc133_5) rfl rfl ?_
      refine FB.skip (i := 10) (l' := (bs 23 2047)) rfl (by kernel_rfl) (by kernel_rfl) (by kernel_rfl) (by kernel_rfl) (by kernel_rfl) (SP.nil ⟨_, (S136.selT (a := [.box b57 247 [v87], .row 4 1 v87 n88 cs89, .box b40 22 [v91], .row 84 1 v91 n92 cs93, .box b25 4 [Value.bool false], .box b21 22 [Value.slice none 0 0]]) (l' := [.box b57 247 [v87], .row 4 1 v87 n88 cs89, .box b40 22 [v91], .row 84 1 v91 n92 cs93]) [0, 1, 2, 3] (by decide) rfl), (Inc.rfl _)⟩) (wF_no rfl rfl rfl hc133_5) rfl rfl ?_
      refine FB.t (i := 11) (bs 23 4095) rfl (SP.nil ⟨_, (S136.selT (a := [.box b57 247 [v87], .row 4 1 v87 n88 cs89, .box b40 22 [v91], .row 84 1 v91 n92 cs93, .box b25 4 [Value.bool false], .box b21 22 [Value.slice none 0 0]]) (l' := [.box b57 247 [v87], .row 4 1 v87 n88 cs89, .box b40 22 [v91], .row 84 1 v91 n92 cs93]) [0, 1, 2, 3] (by decide) rfl), (Inc.rfl _)⟩) rfl (fun w' hw' => (E.asB (E.pickT rfl hc133_5 rfl) (Option.some.inj hqt133_11))) ?_
      refine FB.t (i := 12) (bs 23 8191) rfl (SP.nil ⟨_, (S136.selT (a := [.box b57 247 [v87], .row 4 1 v87 n88 cs89, .box b40 22 [v91], .row 84 1 v91 n92 cs93, .box b25 4 [Value.bool false], .box b21 22 [Value.slice none 0 0]]) (l' := [.box b57 247 [v87], .row 4 1 v87 n88 cs89, .box b40 22 [v91], .row 84 1 v91 n92 cs93]) [0, 1, 2, 3] (by decide) rfl), (Inc.rfl _)⟩) rfl (fun w' hw' => (E.move (v := Value.bool t133_11) rfl)) ?_
      have hc133_12 : t133_11 = true := (Option.some.inj hqt133_11).symm
      have hqt133_22 := (bifT hc133_12).symm.trans hqt133_22
      refine FB.skip (i := 13) (l' := (bs 23 16383)) rfl (by kernel_rfl) (by kernel_rfl) (by kernel_rfl) (by kernel_rfl) (by kernel_rfl) (SP.nil ⟨_, (S136.selT (a := [.box b57 247 [v87], .row 4 1 v87 n88 cs89, .box b40 22 [v91], .row 84 1 v91 n92 cs93, .box b25 4 [Value.bool false], .box b21 22 [Value.slice none 0 0]]) (l' := [.box b57 247 [v87], .row 4 1 v87 n88 cs89, .box b40 22 [v91], .row 84 1 v91 n92 cs93]) [0, 1, 2, 3] (by decide) rfl), (Inc.rfl _)⟩) (wF_no rfl rfl rfl hc133_12) rfl rfl ?_
      refine FB.skip (i := 14) (l' := (bs 23 32767)) rfl (by kernel_rfl) (by kernel_rfl) (by kernel_rfl) (by kernel_rfl) (by kernel_rfl) (SP.nil ⟨_, (S136.selT (a := [.box b57 247 [v87], .row 4 1 v87 n88 cs89, .box b40 22 [v91], .row 84 1 v91 n92 cs93, .box b25 4 [Value.bool false], .box b21 22 [Value.slice none 0 0]]) (l' := [.box b57 247 [v87], .row 4 1 v87 n88 cs89, .box b40 22 [v91], .row 84 1 v91 n92 cs93]) [0, 1, 2, 3] (by decide) rfl), (Inc.rfl _)⟩) (wF_no rfl rfl rfl hc133_12) rfl rfl ?_
      refine FB.skip (i := 15) (l' := (bs 23 65535)) rfl (by kernel_rfl) (by kernel_rfl) (by kernel_rfl) (by kernel_rfl) (by kernel_rfl) (SP.nil ⟨_, (S136.selT (a := [.box b57 247 [v87], .row 4 1 v87 n88 cs89, .box b40 22 [v91], .row 84 1 v91 n92 cs93, .box b25 4 [Value.bool false], .box b21 22 [Value.slice none 0 0]]) (l' := [.box b57 247 [v87], .row 4 1 v87 n88 cs89, .box b40 22 [v91], .row 84 1 v91 n92 cs93]) [0, 1, 2, 3] (by decide) rfl), (Inc.rfl _)⟩) (wF_no rfl rfl rfl hc133_12) rfl rfl ?_
      refine FB.skip (i := 16) (l' := (bs 23 131071)) rfl (by kernel_rfl) (by kernel_rfl) (by kernel_rfl) (by kernel_rfl) (by kernel_rfl) (SP.nil ⟨_, (S136.selT (a := [.box b57 247 [v87], .row 4 1 v87 n88 cs89, .box b40 22 [v91], .row 84 1 v91 n92 cs93, .box b25 4 [Value.bool false], .box b21 22 [Value.slice none 0 0]]) (l' := [.box b57 247 [v87], .row 4 1 v87 n88 cs89, .box b40 22 [v91], .row 84 1 v91 n92 cs93]) [0, 1, 2, 3] (by decide) rfl), (Inc.rfl _)⟩) (wF_no rfl rfl rfl hc133_12) rfl rfl ?_
      refine FB.skip (i := 17) (l' := (bs 23 262143)) rfl (by kernel_rfl) (by kernel_rfl) (by kernel_rfl) (by kernel_rfl) (by kernel_rfl) (SP.nil ⟨_, (S136.selT (a := [.box b57 247 [v87], .row 4 1 v87 n88 cs89, .box b40 22 [v91], .row 84 1 v91 n92 cs93, .box b25 4 [Value.bool false], .box b21 22 [Value.slice none 0 0]]) (l' := [.box b57 247 [v87], .row 4 1 v87 n88 cs89, .box b40 22 [v91], .row 84 1 v91 n92 cs93]) [0, 1, 2, 3] (by decide) rfl), (Inc.rfl _)⟩) (wF_no rfl rfl rfl hc133_12) rfl rfl ?_
      refine FB.skip (i := 18) (l' := (bs 23 524287)) rfl (by kernel_rfl) (by kernel_rfl) (by kernel_rfl) (by kernel_rfl) (by kernel_rfl) (SP.nil ⟨_, (S136.selT (a := [.box b57 247 [v87], .row 4 1 v87 n88 cs89, .box b40 22 [v91], .row 84 1 v91 n92 cs93, .box b25 4 [Value.bool false], .box b21 22 [Value.slice none 0 0]]) (l' := [.box b57 247 [v87], .row 4 1 v87 n88 cs89, .box b40 22 [v91], .row 84 1 v91 n92 cs93]) [0, 1, 2, 3] (by decide) rfl), (Inc.rfl _)⟩) (wF_no rfl rfl rfl hc133_12) rfl rfl ?_
      refine FB.skip (i := 19) (l' := (bs 23 1048575)) rfl (by kernel_rfl) (by kernel_rfl) (by kernel_rfl) (by kernel_rfl) (by kernel_rfl) (SP.nil ⟨_, (S136.selT (a := [.box b57 247 [v87], .row 4 1 v87 n88 cs89, .box b40 22 [v91], .row 84 1 v91 n92 cs93, .box b25 4 [Value.bool false], .box b21 22 [Value.slice none 0 0]]) (l' := [.box b57 247 [v87], .row 4 1 v87 n88 cs89, .box b40 22 [v91], .row 84 1 v91 n92 cs93]) [0, 1, 2, 3] (by decide) rfl), (Inc.rfl _)⟩) (wF_no rfl rfl rfl hc133_12) rfl rfl ?_
      refine FB.skip (i := 20) (l' := (bs 23 2097151)) rfl (by kernel_rfl) (by kernel_rfl) (by kernel_rfl) (by kernel_rfl) (by kernel_rfl) (SP.nil ⟨_, (S136.selT (a := [.box b57 247 [v87], .row 4 1 v87 n88 cs89, .box b40 22 [v91], .row 84 1 v91 n92 cs93, .box b25 4 [Value.bool false], .box b21 22 [Value.slice none 0 0]]) (l' := [.box b57 247 [v87], .row 4 1 v87 n88 cs89, .box b40 22 [v91], .row 84 1 v91 n92 cs93]) [0, 1, 2, 3] (by decide) rfl), (Inc.rfl _)⟩) (wF_no rfl rfl rfl hc133_12) rfl rfl ?_
      refine FB.skip (i := 21) (l' := (bs 23 4194303)) rfl (by kernel_rfl) (by kernel_rfl) (by kernel_rfl) (by kernel_rfl) (by kernel_rfl) (SP.nil ⟨_, (S136.selT (a := [.box b57 247 [v87], .row 4 1 v87 n88 cs89, .box b40 22 [v91], .row 84 1 v91 n92 cs93, .box b25 4 [Value.bool false], .box b21 22 [Value.slice none 0 0]]) (l' := [.box b57 247 [v87], .row 4 1 v87 n88 cs89, .box b40 22 [v91], .row 84 1 v91 n92 cs93]) [0, 1, 2, 3] (by decide) rfl), (Inc.rfl _)⟩) (wF_no rfl rfl rfl hc133_12) rfl rfl ?_
      refine FB.t (i := 22) (bs 23 8388607) rfl (SP.nil ⟨_, (S136.selT (a := [.box b57 247 [v87], .row 4 1 v87 n88 cs89, .box b40 22 [v91], .row 84 1 v91 n92 cs93, .box b25 4 [Value.bool false], .box b21 22 [Value.slice none 0 0]]) (l' := [.box b57 247 [v87], .row 4 1 v87 n88 cs89, .box b40 22 [v91], .row 84 1 v91 n92 cs93]) [0, 1, 2, 3] (by decide) rfl), (Inc.rfl _)⟩) rfl (fun w' hw' => (E.asB (E.pickT rfl hc133_12 rfl) (Option.some.inj hqt133_22))) ?_
      exact FB.done (by kernel_rfl) ⟨_, S136, (Inc.rfl _), rfl, rfl, rfl, rfl, rfl, rfl, rfl⟩
     ·
      obtain ⟨x152, hx153, hqt133_11⟩ := bnd hqt133_11
      refine FB.t (i := 6) (bs 23 127) rfl (SP.nil ⟨_, (S136.selT (a := [.box b57 247 [v87], .row 4 1 v87 n88 cs89, .box b40 22 [v91], .row 84 1 v91 n92 cs93, .box b25 4 [Value.bool false], .box b21 22 [Value.slice none 0 0]]) (l' := [.box b57 247 [v87], .row 4 1 v87 n88 cs89, .box b40 22 [v91], .row 84 1 v91 n92 cs93]) [0, 1, 2, 3] (by decide) rfl), (Inc.rfl _)⟩) (wF_yes rfl rfl rfl hc133_5) (fun w' hw' => (E.load rfl (run_load0 Tryz.isAgg247 (SX.box_now hw' (i := 0) rfl) rfl))) ?_
      refine FB.t (i := 7) (bs 23 255) rfl (SP.nil ⟨_, (S136.selT (a := [.box b57 247 [v87], .row 4 1 v87 n88 cs89, .box b40 22 [v91], .row 84 1 v91 n92 cs93, .box b25 4 [Value.bool false], .box b21 22 [Value.slice none 0 0]]) (l' := [.box b57 247 [v87], .row 4 1 v87 n88 cs89, .box b40 22 [v91], .row 84 1 v91 n92 cs93]) [0, 1, 2, 3] (by decide) rfl), (Inc.rfl _)⟩) (wF_yes rfl rfl rfl hc133_5) (fun w' hw' => (E.fieldAddr tf98_2 rfl)) ?_
      refine FB.t (i := 8) (bs 23 511) rfl (SP.nil ⟨_, (S136.selT (a := [.box b57 247 [v87], .row 4 1 v87 n88 cs89, .box b40 22 [v91], .row 84 1 v91 n92 cs93, .box b25 4 [Value.bool false], .box b21 22 [Value.slice none 0 0]]) (l' := [.box b57 247 [v87], .row 4 1 v87 n88 cs89, .box b40 22 [v91], .row 84 1 v91 n92 cs93]) [0, 1, 2, 3] (by decide) rfl), (Inc.rfl _)⟩) (wF_yes rfl rfl rfl hc133_5) (fun w' hw' => (E.load rfl (run_load1 Tryz.isAgg3 (at115.now hw'.sl) rfl))) ?_
      obtain ⟨p146, cs147, pt148, l149, at150, rel151, hall154⟩ := S136.row_atA (i := 1) rfl els90 (by decide) hx153
      obtain rfl := eB_open rel151
      refine FB.t (i := 9) (bs 23 1023) rfl (SP.nil ⟨_, (S136.selT (a := [.box b57 247 [v87], .row 4 1 v87 n88 cs89, .box b40 22 [v91], .row 84 1 v91 n92 cs93, .box b25 4 [Value.bool false], .box b21 22 [Value.slice none 0 0]]) (l' := [.box b57 247 [v87], .row 4 1 v87 n88 cs89, .box b40 22 [v91], .row 84 1 v91 n92 cs93]) [0, 1, 2, 3] (by decide) rfl), (Inc.rfl _)⟩) (wF_yes rfl rfl rfl hc133_5) (fun w' hw' => (E.indexAddr te247 rfl rfl pt148)) ?_
      refine FB.t (i := 10) (bs 23 2047) rfl (SP.nil ⟨_, (S136.selT (a := [.box b57 247 [v87], .row 4 1 v87 n88 cs89, .box b40 22 [v91], .row 84 1 v91 n92 cs93, .box b25 4 [Value.bool false], .box b21 22 [Value.slice none 0 0]]) (l' := [.box b57 247 [v87], .row 4 1 v87 n88 cs89, .box b40 22 [v91], .row 84 1 v91 n92 cs93]) [0, 1, 2, 3] (by decide) rfl), (Inc.rfl _)⟩) (wF_yes rfl rfl rfl hc133_5) (fun w' hw' => (E.load rfl (run_load0 Tryz.isAgg4 (hw'.use fun _ st => hall154 _ _ _ 1 st rfl) rfl))) ?_
      refine FB.t (i := 11) (bs 23 4095) rfl (SP.nil ⟨_, (S136.selT (a := [.box b57 247 [v87], .row 4 1 v87 n88 cs89, .box b40 22 [v91], .row 84 1 v91 n92 cs93, .box b25 4 [Value.bool false], .box b21 22 [Value.slice none 0 0]]) (l' := [.box b57 247 [v87], .row 4 1 v87 n88 cs89, .box b40 22 [v91], .row 84 1 v91 n92 cs93]) [0, 1, 2, 3] (by decide) rfl), (Inc.rfl _)⟩) rfl (fun w' hw' => (E.asB (E.pickF rfl hc133_5 rfl) (Option.some.inj hqt133_11))) ?_
      refine FB.t (i := 12) (bs 23 8191) rfl (SP.nil ⟨_, (S136.selT (a := [.box b57 247 [v87], .row 4 1 v87 n88 cs89, .box b40 22 [v91], .row 84 1 v91 n92 cs93, .box b25 4 [Value.bool false], .box b21 22 [Value.slice none 0 0]]) (l' := [.box b57 247 [v87], .row 4 1 v87 n88 cs89, .box b40 22 [v91], .row 84 1 v91 n92 cs93]) [0, 1, 2, 3] (by decide) rfl), (Inc.rfl _)⟩) rfl (fun w' hw' => (E.move (v := Value.bool t133_11) rfl)) ?_
      rcases ifB hqt133_22 with ⟨hc133_12, hqt133_22⟩ | ⟨hc133_12, hqt133_22⟩
      ·
       refine FB.skip (i := 13) (l' := (bs 23 16383)) rfl (by kernel_rfl) (by kernel_rfl) (by kernel_rfl) (by kernel_rfl) (by kernel_rfl) (SP.nil ⟨_, (S136.selT (a := [.box b57 247 [v87], .row 4 1 v87 n88 cs89, .box b40 22 [v91], .row 84 1 v91 n92 cs93, .box b25 4 [Value.bool false], .box b21 22 [Value.slice none 0 0]]) (l' := [.box b57 247 [v87], .row 4 1 v87 n88 cs89, .box b40 22 [v91], .row 84 1 v91 n92 cs93]) [0, 1, 2, 3] (by decide) rfl), (Inc.rfl _)⟩) (wF_no rfl rfl rfl hc133_12) rfl rfl ?_
       refine FB.skip (i := 14) (l' := (bs 23 32767)) rfl (by kernel_rfl) (by kernel_rfl) (by kernel_rfl) (by kernel_rfl) (by kernel_rfl) (SP.nil ⟨_, (S136.selT (a := [.box b57 247 [v87], .row 4 1 v87 n88 cs89, .box b40 22 [v91], .row 84 1 v91 n92 cs93, .box b25 4 [Value.bool false], .box b21 22 [Value.slice none 0 0]]) (l' := [.box b57 247 [v87], .row 4 1 v87 n88 cs89, .box b40 22 [v91], .row 84 1 v91 n92 cs93]) [0, 1, 2, 3] (by decide) rfl), (Inc.rfl _)⟩) (wF_no rfl rfl rfl hc133_12) rfl rfl ?_
       refine FB.skip (i := 15) (l' := (bs 23 65535)) rfl (by kernel_rfl) (by kernel_rfl) (by kernel_rfl) (by kernel_rfl) (by kernel_rfl) (SP.nil ⟨_, (S136.selT (a := [.box b57 247 [v87], .row 4 1 v87 n88 cs89, .box b40 22 [v91], .row 84 1 v91 n92 cs93, .box b25 4 [Value.bool false], .box b21 22 [Value.slice none 0 0]]) (l' := [.box b57 247 [v87], .row 4 1 v87 n88 cs89, .box b40 22 [v91], .row 84 1 v91 n92 cs93]) [0, 1, 2, 3] (by decide) rfl), (Inc.rfl _)⟩) (wF_no rfl rfl rfl hc133_12) rfl rfl ?_
       refine FB.skip (i := 16) (l' := (bs 23 131071)) rfl (by kernel_rfl) (by kernel_rfl) (by kernel_rfl) (by kernel_rfl) (by kernel_rfl) (SP.nil ⟨_, (S136.selT (a := [.box b57 247 [v87], .row 4 1 v87 n88 cs89, .box b40 22 [v91], .row 84 1 v91 n92 cs93, .box b25 4 [Value.bool false], .box b21 22 [Value.slice none 0 0]]) (l' := [.box b57 247 [v87], .row 4 1 v87 n88 cs89, .box b40 22 [v91], .row 84 1 v91 n92 cs93]) [0, 1, 2, 3] (by decide) rfl), (Inc.rfl _)⟩) (wF_no rfl rfl rfl hc133_12) rfl rfl ?_
       refine FB.skip (i := 17) (l' := (bs 23 262143)) rfl (by kernel_rfl) (by kernel_rfl) (by kernel_rfl) (by kernel_rfl) (by kernel_rfl) (SP.nil ⟨_, (S136.selT (a := [.box b57 247 [v87], .row 4 1 v87 n88 cs89, .box b40 22 [v91], .row 84 1 v91 n92 cs93, .box b25 4 [Value.bool false], .box b21 22 [Value.slice none 0 0]]) (l' := [.box b57 247 [v87], .row 4 1 v87 n88 cs89, .box b40 22 [v91], .row 84 1 v91 n92 cs93]) [0, 1, 2, 3] (by decide) rfl), (Inc.rfl _)⟩) (wF_no rfl rfl rfl hc133_12) rfl rfl ?_
       refine FB.skip (i := 18) (l' := (bs 23 524287)) rfl (by kernel_rfl) (by kernel_rfl) (by kernel_rfl) (by kernel_rfl) (by kernel_rfl) (SP.nil ⟨_, (S136.selT (a := [.box b57 247 [v87], .row 4 1 v87 n88 cs89, .box b40 22 [v91], .row 84 1 v91 n92 cs93, .box b25 4 [Value.bool false], .box b21 22 [Value.slice none 0 0]]) (l' := [.box b57 247 [v87], .row 4 1 v87 n88 cs89, .box b40 22 [v91], .row 84 1 v91 n92 cs93]) [0, 1, 2, 3] (by decide) rfl), (Inc.rfl _)⟩) (wF_no rfl rfl rfl hc133_12) rfl rfl ?_
       refine FB.skip (i := 19) (l' := (bs 23 1048575)) rfl (by kernel_rfl) (by kernel_rfl) (by kernel_rfl) (by kernel_rfl) (by kernel_rfl) (SP.nil ⟨_, (S136.selT (a := [.box b57 247 [v87], .row 4 1 v87 n88 cs89, .box b40 22 [v91], .row 84 1 v91 n92 cs93, .box b25 4 [Value.bool false], .box b21 22 [Value.slice none 0 0]]) (l' := [.box b57 247 [v87], .row 4 1 v87 n88 cs89, .box b40 22 [v91], .row 84 1 v91 n92 cs93]) [0, 1, 2, 3] (by decide) rfl), (Inc.rfl _)⟩) (wF_no rfl rfl rfl hc133_12) rfl rfl ?_
       refine FB.skip (i := 20) (l' := (bs 23 2097151)) rfl (by kernel_rfl) (by kernel_rfl) (by kernel_rfl) (by kernel_rfl) (by kernel_rfl) (SP.nil ⟨_, (S136.selT (a := [.box b57 247 [v87], .row 4 1 v87 n88 cs89, .box b40 22 [v91], .row 84 1 v91 n92 cs93, .box b25 4 [Value.bool false], .box b21 22 [Value.slice none 0 0]]) (l' := [.box b57 247 [v87], .row 4 1 v87 n88 cs89, .box b40 22 [v91], .row 84 1 v91 n92 cs93]) [0, 1, 2, 3] (by decide) rfl), (Inc.rfl _)⟩) (wF_no rfl rfl rfl hc133_12) rfl rfl ?_
       refine FB.skip (i := 21) (l' := (bs 23 4194303)) rfl (by kernel_rfl) (by kernel_rfl) (by kernel_rfl) (by kernel_rfl) (by kernel_rfl) (SP.nil ⟨_, (S136.selT (a := [.box b57 247 [v87], .row 4 1 v87 n88 cs89, .box b40 22 [v91], .row 84 1 v91 n92 cs93, .box b25 4 [Value.bool false], .box b21 22 [Value.slice none 0 0]]) (l' := [.box b57 247 [v87], .row 4 1 v87 n88 cs89, .box b40 22 [v91], .row 84 1 v91 n92 cs93]) [0, 1, 2, 3] (by decide) rfl), (Inc.rfl _)⟩) (wF_no rfl rfl rfl hc133_12) rfl rfl ?_
       refine FB.t (i := 22) (bs 23 8388607) rfl (SP.nil ⟨_, (S136.selT (a := [.box b57 247 [v87], .row 4 1 v87 n88 cs89, .box b40 22 [v91], .row 84 1 v91 n92 cs93, .box b25 4 [Value.bool false], .box b21 22 [Value.slice none 0 0]]) (l' := [.box b57 247 [v87], .row 4 1 v87 n88 cs89, .box b40 22 [v91], .row 84 1 v91 n92 cs93]) [0, 1, 2, 3] (by decide) rfl), (Inc.rfl _)⟩) rfl (fun w' hw' => (E.asB (E.pickT rfl hc133_12 rfl) (Option.some.inj hqt133_22))) ?_
       exact FB.done (by kernel_rfl) ⟨_, S136, (Inc.rfl _), rfl, rfl, rfl, rfl, rfl, rfl, rfl⟩
      ·
       obtain ⟨x161, hx162, hqt133_22⟩ := bnd hqt133_22
       obtain ⟨r176, hr177, hqt133_22⟩ := bnd hqt133_22
       obtain ⟨r193, hr194, hqt133_22⟩ := bnd hqt133_22
       refine FB.t (i := 13) (bs 23 16383) rfl (SP.nil ⟨_, (S136.selT (a := [.box b57 247 [v87], .row 4 1 v87 n88 cs89, .box b40 22 [v91], .row 84 1 v91 n92 cs93, .box b25 4 [Value.bool false], .box b21 22 [Value.slice none 0 0]]) (l' := [.box b57 247 [v87], .row 4 1 v87 n88 cs89, .box b40 22 [v91], .row 84 1 v91 n92 cs93]) [0, 1, 2, 3] (by decide) rfl), (Inc.rfl _)⟩) (wF_yes rfl rfl rfl hc133_12) (fun w' hw' => (E.load rfl (run_load0 Tryz.isAgg22 (SX.box_now hw' (i := 2) rfl) rfl))) ?_
       refine FB.t (i := 14) (bs 23 32767) rfl (SP.nil ⟨_, (S136.selT (a := [.box b57 247 [v87], .row 4 1 v87 n88 cs89, .box b40 22 [v91], .row 84 1 v91 n92 cs93, .box b25 4 [Value.bool false], .box b21 22 [Value.slice none 0 0]]) (l' := [.box b57 247 [v87], .row 4 1 v87 n88 cs89, .box b40 22 [v91], .row 84 1 v91 n92 cs93]) [0, 1, 2, 3] (by decide) rfl), (Inc.rfl _)⟩) (wF_yes rfl rfl rfl hc133_12) (fun w' hw' => (E.move (v := Value.int .i64 ((j86 : Nat) : Int)) rfl)) ?_
       obtain ⟨p155, cs156, pt157, l158, at159, rel160, hall163⟩ := S136.row_atA (i := 3) rfl els94 (by decide) hx162
       obtain ⟨v164, rfl, h165⟩ := eL_open rel160
       refine FB.t (i := 15) (bs 23 65535) rfl (SP.nil ⟨_, (S136.selT (a := [.box b57 247 [v87], .row 4 1 v87 n88 cs89, .box b40 22 [v91], .row 84 1 v91 n92 cs93, .box b25 4 [Value.bool false], .box b21 22 [Value.slice none 0 0]]) (l' := [.box b57 247 [v87], .row 4 1 v87 n88 cs89, .box b40 22 [v91], .row 84 1 v91 n92 cs93]) [0, 1, 2, 3] (by decide) rfl), (Inc.rfl _)⟩) (wF_yes rfl rfl rfl hc133_12) (fun w' hw' => (E.indexAddr te22 rfl rfl pt157)) ?_
       refine FB.t (i := 16) (bs 23 131071) rfl (SP.nil ⟨_, (S136.selT (a := [.box b57 247 [v87], .row 4 1 v87 n88 cs89, .box b40 22 [v91], .row 84 1 v91 n92 cs93, .box b25 4 [Value.bool false], .box b21 22 [Value.slice none 0 0]]) (l' := [.box b57 247 [v87], .row 4 1 v87 n88 cs89, .box b40 22 [v91], .row 84 1 v91 n92 cs93]) [0, 1, 2, 3] (by decide) rfl), (Inc.rfl _)⟩) (wF_yes rfl rfl rfl hc133_12) (fun w' hw' => (E.load rfl (run_load0 Tryz.isAgg84 (hw'.use fun _ st => hall163 _ _ _ 3 st rfl) rfl))) ?_
       refine FB.t (i := 19) (bs 23 655359) rfl (SP.nil ⟨_, (S136.selT (a := [.box b57 247 [v87], .row 4 1 v87 n88 cs89, .box b40 22 [v91], .row 84 1 v91 n92 cs93, .box b25 4 [Value.bool false], .box b21 22 [Value.slice none 0 0]]) (l' := [.box b57 247 [v87], .row 4 1 v87 n88 cs89, .box b40 22 [v91], .row 84 1 v91 n92 cs93]) [0, 1, 2, 3] (by decide) rfl), (Inc.rfl _)⟩) (wF_yes rfl rfl rfl hc133_12) (fun w' hw' => (E.fieldAddr tf98_0 rfl)) ?_
       refine FB.t (i := 20) (bs 23 1703935) rfl (SP.nil ⟨_, (S136.selT (a := [.box b57 247 [v87], .row 4 1 v87 n88 cs89, .box b40 22 [v91], .row 84 1 v91 n92 cs93, .box b25 4 [Value.bool false], .box b21 22 [Value.slice none 0 0]]) (l' := [.box b57 247 [v87], .row 4 1 v87 n88 cs89, .box b40 22 [v91], .row 84 1 v91 n92 cs93]) [0, 1, 2, 3] (by decide) rfl), (Inc.rfl _)⟩) (wF_yes rfl rfl rfl hc133_12) (fun w' hw' => (E.load rfl (run_load1 Tryz.isAgg3 (at115.now hw'.sl) rfl))) ?_
       refine FB.all1 (i := 17) (by kernel_rfl) ?_
       ·
        obtain ⟨v166, w167, run168, S169⟩ := S136.buildSlice (P := Tryz.prog) te22 [v164] (parts := #[(0, v164)]) (cells := [v164]) rfl (szs_cons (cells_size h165.cells) szs_nil) (fc_cons h165.cells fc_nil) (ones_cons h165.one ones_nil) (Nat.le_of_ble_eq_true rfl)
        have els170 : Els (up wa.heap.size H112) (eL eI 1) 1 [v164] [x161] := (Els.snoc (H := (up wa.heap.size H112)) (E := (eL eI 1)) (k := 1) (c := [v164]) (x := x161) Els.nil rfl ⟨_, rfl, (h165.mono (up_mono i114))⟩)
        refine FC.val (l' := (bs 23 1835007)) rfl (by kernel_rfl) (wF_yes rfl rfl rfl hc133_12) rfl rfl (E.buildSlice (B1 rfl) run168) ?_
        refine ⟨(SP.nil ⟨_, (S169.selT (a := [.row 84 1 v166 1 [v164], .box b57 247 [v87], .row 4 1 v87 n88 cs89, .box b40 22 [v91], .row 84 1 v91 n92 cs93, .box b25 4 [Value.bool false], .box b21 22 [Value.slice none 0 0]]) (l' := [.box b57 247 [v87], .row 4 1 v87 n88 cs89, .box b40 22 [v91], .row 84 1 v91 n92 cs93]) [1, 2, 3, 4] (by decide) rfl), (Inc.rfl _)⟩), ?_⟩
        refine FB.all1 (i := 18) (by kernel_rfl) ?_
        ·
         obtain ⟨H171, S172, i173, h174, nv175⟩ := S169.sealRowU (i := 0) (l' := (.box b57 247 [v87] :: .row 4 1 v87 n88 cs89 :: .box b40 22 [v91] :: .row 84 1 v91 n92 cs93 :: .box b25 4 [Value.bool false] :: .box b21 22 [Value.slice none 0 0] :: T86')) rfl els170 (by decide) rfl
         refine FC.call (l' := (bs 23 2097151)) rfl (by kernel_rfl) (wF_yes rfl rfl rfl hc133_12) rfl rfl (E.call Tryz.call234 (A1 rfl)) (w_impl_varsOf S172.sl v166 [x161] (h174.mono upI) hr177) ?_
         rintro e w179 ⟨H178, v184, n185, cs186, rfl, r181, els187⟩
         refine ⟨_, rfl, ?_⟩
         obtain ⟨H182, r181, hU183⟩ := St.lendX i173 S169.sl r181
         have els187 := els187.mono (hU183.tr (up_le S169.size))
         have S180 := S169.join (l' := (.row 3 1 v184 n185 cs186 :: .row 84 1 v166 1 [v164] :: .box b57 247 [v87] :: .row 4 1 v87 n88 cs89 :: .box b40 22 [v91] :: .row 84 1 v91 n92 cs93 :: .box b25 4 [Value.bool false] :: .box b21 22 [Value.slice none 0 0] :: T86')) r181 rfl
         refine ⟨(SP.nil ⟨_, (S180.selT (a := [.row 3 1 v184 n185 cs186, .row 84 1 v166 1 [v164], .box b57 247 [v87], .row 4 1 v87 n88 cs89, .box b40 22 [v91], .row 84 1 v91 n92 cs93, .box b25 4 [Value.bool false], .box b21 22 [Value.slice none 0 0]]) (l' := [.box b57 247 [v87], .row 4 1 v87 n88 cs89, .box b40 22 [v91], .row 84 1 v91 n92 cs93]) [2, 3, 4, 5] (by decide) rfl), r181.run.inc⟩), ?_⟩
         refine FB.all1 (i := 21) (by kernel_rfl) ?_
         ·
          obtain ⟨H188, S189, i190, h191, nv192⟩ := S180.sealRowU (i := 0) (l' := (.row 84 1 v166 1 [v164] :: .box b57 247 [v87] :: .row 4 1 v87 n88 cs89 :: .box b40 22 [v91] :: .row 84 1 v91 n92 cs93 :: .box b25 4 [Value.bool false] :: .box b21 22 [Value.slice none 0 0] :: T86')) rfl els187 (by decide) rfl
          refine FC.call (l' := (bs 23 4194303)) rfl (by kernel_rfl) (wF_yes rfl rfl rfl hc133_12) rfl rfl (E.call Tryz.call129 (A2 rfl rfl)) (w_slices_Contains_int_int S189.sl v184 r176 (h191.mono upI) y86.var hr194) ?_
          rintro e w195 ⟨rfl, r196⟩
          refine ⟨_, rfl, ?_⟩
          have r196 := Run.lend i190 S180.sl r196
          have S197 := S180.call r196
          refine ⟨(SP.nil ⟨_, (S197.selT (a := [.row 3 1 v184 n185 cs186, .row 84 1 v166 1 [v164], .box b57 247 [v87], .row 4 1 v87 n88 cs89, .box b40 22 [v91], .row 84 1 v91 n92 cs93, .box b25 4 [Value.bool false], .box b21 22 [Value.slice none 0 0]]) (l' := [.box b57 247 [v87], .row 4 1 v87 n88 cs89, .box b40 22 [v91], .row 84 1 v91 n92 cs93]) [2, 3, 4, 5] (by decide) rfl), r181.run.inc⟩), ?_⟩
          refine FB.t (i := 22) (bs 23 8388607) rfl (SP.nil ⟨_, (S197.selT (a := [.row 3 1 v184 n185 cs186, .row 84 1 v166 1 [v164], .box b57 247 [v87], .row 4 1 v87 n88 cs89, .box b40 22 [v91], .row 84 1 v91 n92 cs93, .box b25 4 [Value.bool false], .box b21 22 [Value.slice none 0 0]]) (l' := [.box b57 247 [v87], .row 4 1 v87 n88 cs89, .box b40 22 [v91], .row 84 1 v91 n92 cs93]) [2, 3, 4, 5] (by decide) rfl), r181.run.inc⟩) rfl (fun w' hw' => (E.asB (E.pickF rfl hc133_12 rfl) (Option.some.inj hqt133_22))) ?_
          exact FB.done (by kernel_rfl) ⟨_, (S197.selT (a := [.row 3 1 v184 n185 cs186, .row 84 1 v166 1 [v164], .box b57 247 [v87], .row 4 1 v87 n88 cs89, .box b40 22 [v91], .row 84 1 v91 n92 cs93, .box b25 4 [Value.bool false], .box b21 22 [Value.slice none 0 0]]) (l' := [.box b57 247 [v87], .row 4 1 v87 n88 cs89, .box b40 22 [v91], .row 84 1 v91 n92 cs93, .box b25 4 [Value.bool false], .box b21 22 [Value.slice none 0 0]]) [2, 3, 4, 5, 6, 7] (by decide) rfl), r181.run.inc, rfl, rfl, rfl, rfl, rfl, rfl, rfl⟩
    ·
     rintro f202 w201 ⟨H198, S199, i200, k203, k204, k205, k206, k207, k208, k209⟩
     rcases ifB hp with ⟨c210, hp⟩ | ⟨c210, hp⟩
     ·
      refine FW.condT k209 c210 ?_
      refine FW.seq (FW.region ?_)
      obtain ⟨w211, run212, S213⟩ := S199.store0 (P := Tryz.prog) (t := 22) (i := 5) (cs' := [Value.slice none 0 0]) (l' := (.box b57 247 [v87] :: .row 4 1 v87 n88 cs89 :: .box b40 22 [v91] :: .row 84 1 v91 n92 cs93 :: .box b25 4 [Value.bool false] :: .box b21 22 [Value.slice none 0 0] :: T86')) (v := Value.slice none 0 0) (c := [Value.slice none 0 0]) rfl Tryz.sizeOf22 rfl rfl (ones_cons rfl ones_nil) (Nat.le_of_ble_eq_true rfl) rfl rfl
      refine FL.act rfl rfl (E.store k203 rfl run212) ?_
      obtain ⟨w214, run215, S216⟩ := S213.store0 (P := Tryz.prog) (t := 4) (i := 4) (cs' := [Value.bool false]) (l' := (.box b57 247 [v87] :: .row 4 1 v87 n88 cs89 :: .box b40 22 [v91] :: .row 84 1 v91 n92 cs93 :: .box b25 4 [Value.bool false] :: .box b21 22 [Value.slice none 0 0] :: T86')) (v := Value.bool false) (c := [Value.bool false]) rfl Tryz.sizeOf4 rfl rfl (ones_cons rfl ones_nil) (Nat.le_of_ble_eq_true rfl) rfl rfl
      refine FL.act rfl rfl (E.store k204 rfl run215) ?_
      refine FL.nil ?_
      refine FW.ret ?_
      obtain rfl := Option.some.inj hp
      exact ⟨rfl, ⟨_, (S216.selT (a := [.box b57 247 [v87], .row 4 1 v87 n88 cs89, .box b40 22 [v91], .row 84 1 v91 n92 cs93, .box b25 4 [Value.bool false], .box b21 22 [Value.slice none 0 0]]) (l' := [.box b25 4 [Value.bool false], .box b21 22 [Value.slice none 0 0]]) [4, 5] (by decide) rfl), ((i99.tr i114).tr i200)⟩⟩
     ·
      refine FW.condF k209 c210 ?_
      refine FW.skip (FW.seq (FW.region ?_))
      refine FL.v (E.load k206 (run_load0 Tryz.isAgg247 (S199.box_now (i := 0) rfl) rfl)) ?_
      refine FL.v (E.fieldAddr tf98_1 k208) ?_
      refine FL.v (E.load rfl (run_load1 Tryz.isAgg3 ((at115.mono i200).now S199.sl) rfl)) ?_
      obtain ⟨x223, hx224, hp⟩ := bnd hp
      obtain ⟨p217, cs218, pt219, l220, at221, rel222⟩ := S199.row_at (i := 1) rfl els90 (by decide) hx224
      obtain rfl := eB_open rel222
      refine FL.v (E.indexAddr te247 rfl rfl pt219) ?_
      obtain ⟨xs228, hput229, hp⟩ := bnd hp
      obtain ⟨w225, cs231, run226, S227, els230, ce232⟩ := S199.putEls (P := Tryz.prog) (t := 4) (i := 1) rfl (els90.mono (up_mono (i114.tr i200))) hput229 pt219 Tryz.sizeOf4 (u := Value.bool true) (c := [Value.bool true]) rfl rfl (ones_cons rfl ones_nil) rfl
      have S227 : St Ha wa H198 w225 (.box b57 247 [v87] :: .row 4 1 v87 n88 cs231 :: .box b40 22 [v91] :: .row 84 1 v91 n92 cs93 :: .box b25 4 [Value.bool false] :: .box b21 22 [Value.slice none 0 0] :: T86') := S227
      refine FL.act rfl rfl (E.store rfl rfl run226) ?_
      refine FL.nil (FW.seq (FW.region ?_))
      refine FL.v (E.load k206 (run_load0 Tryz.isAgg247 (S227.box_now (i := 0) rfl) rfl)) ?_
      refine FL.v (E.fieldAddr tf98_2 k208) ?_
      refine FL.v (E.load rfl (run_load1 Tryz.isAgg3 ((at115.mono i200).now S227.sl) rfl)) ?_
      obtain ⟨x239, hx240, hp⟩ := bnd hp
      obtain ⟨p233, cs234, pt235, l236, at237, rel238⟩ := S227.row_at (i := 1) rfl els230 (by decide) hx240
      obtain rfl := eB_open rel238
      refine FL.v (E.indexAddr te247 rfl rfl pt235) ?_
      obtain ⟨xs244, hput245, hp⟩ := bnd hp
      obtain ⟨w241, cs248, run242, S243, els246, ce249⟩ := S227.putEls (P := Tryz.prog) (t := 4) (i := 1) rfl els230 hput245 pt235 Tryz.sizeOf4 (u := Value.bool true) (c := [Value.bool true]) rfl rfl (ones_cons rfl ones_nil) rfl
      have S243 : St Ha wa H198 w241 (.box b57 247 [v87] :: .row 4 1 v87 n88 cs248 :: .box b40 22 [v91] :: .row 84 1 v91 n92 cs93 :: .box b25 4 [Value.bool false] :: .box b21 22 [Value.slice none 0 0] :: T86') := S243
      refine FL.act rfl rfl (E.store rfl rfl run242) ?_
      refine FL.nil (FW.seq ?_)
      obtain ⟨x259, hx260, hp⟩ := bnd hp
      obtain ⟨r264, hr265, hp⟩ := bnd hp
      obtain ⟨x280, hx281, hp⟩ := bnd hp
      obtain ⟨xs293, hput294, hp⟩ := bnd hp
      refine FW.drawRB (Sl H198) (fun f w => ∃ H : GH, ∃ v299 : Value, ∃ n300 : Nat, ∃ cs301 : List Value, St Ha wa H w (.box b57 247 [v87] :: .row 4 1 v87 n88 cs248 :: .box b40 22 [v299] :: .row 84 1 v299 n300 cs301 :: .box b25 4 [Value.bool false] :: .box b21 22 [Value.slice none 0 0] :: T86') ∧ Inc H198 H ∧ Els (up wa.heap.size H) (eL eI 1) 1 cs301 xs293 ∧ (bl cs301).Nodup ∧ f 2 = Value.pointer (some (⟨b21, 0, none⟩ : Addr)) ∧ f 3 = Value.pointer (some (⟨b25, 0, none⟩ : Addr)) ∧ f 4 = Value.pointer (some (⟨b40, 0, none⟩ : Addr)) ∧ f 5 = Value.pointer (some (⟨b57, 0, none⟩ : Addr)) ∧ f 6 = Value.int .i64 ((j86 : Nat) : Int) ∧ f 7 = Value.pointer (some ⟨b105, 0, none⟩)) (by kernel_rfl) (by kernel_rfl) S243.sl ?_ ?_
      ·
       intro w250 r251
       have S252 := S243.call r251
       refine FB.phase [12] (fun w => WAt w (⟨b40, 0, none⟩ : Addr) [v91]) ?_
       refine FB.p (i := 0) (bs 13 1) 0 [11, 12] rfl (SP.on (S252.box_now (i := 2) rfl) (SP.nil S252.sl)) rfl rfl (fun w' hw' => (E.load k205 (run_load0 Tryz.isAgg22 hw' rfl))) ?_
       refine FB.t (i := 1) (bs 13 3) rfl (SP.on (S252.box_now (i := 2) rfl) (SP.nil S252.sl)) rfl (fun w' hw' => (E.fieldAddr tf98_1 k208)) ?_
       refine FB.t (i := 2) (bs 13 7) rfl (SP.on (S252.box_now (i := 2) rfl) (SP.nil S252.sl)) rfl (fun w' hw' => (E.load rfl (run_load1 Tryz.isAgg3 ((at115.mono i200).now hw') rfl))) ?_
       refine FB.p (i := 3) (bs 13 15) 0 [5, 6, 10, 11, 12] rfl (SP.on (S252.box_now (i := 2) rfl) (SP.nil S252.sl)) rfl rfl (fun w' hw' => (E.load k205 (run_load0 Tryz.isAgg22 hw' rfl))) ?_
       refine FB.t (i := 4) (bs 13 31) rfl (SP.on (S252.box_now (i := 2) rfl) (SP.nil S252.sl)) rfl (fun w' hw' => (E.move k207)) ?_
       obtain ⟨p253, cs254, pt255, l256, at257, rel258, hall261⟩ := S252.row_atA (i := 3) rfl els94 (by decide) hx260
       obtain ⟨v262, rfl, h263⟩ := eL_open rel258
       refine FB.t (i := 5) (bs 13 63) rfl (SP.on (S252.box_now (i := 2) rfl) (SP.nil S252.sl)) rfl (fun w' hw' => (E.indexAddr te22 rfl rfl pt255)) ?_
       refine FB.phase [12] (fun w' => WAt w' p253 [v262]) ?_
       refine FB.p (i := 6) (bs 13 127) 0 [10, 11, 12] rfl (SP.on (hall261 _ _ _ 3 S252 rfl) (SP.on (S252.box_now (i := 2) rfl) (SP.nil S252.sl))) rfl rfl (fun w' hw' => (E.load rfl (run_load0 Tryz.isAgg84 hw' rfl))) ?_
       refine FB.t (i := 7) (bs 13 255) rfl (SP.on (hall261 _ _ _ 3 S252 rfl) (SP.on (S252.box_now (i := 2) rfl) (SP.nil S252.sl))) rfl (fun w' hw' => (E.fieldAddr tf98_0 k208)) ?_
       refine FB.t (i := 8) (bs 13 511) rfl (SP.on (hall261 _ _ _ 3 S252 rfl) (SP.on (S252.box_now (i := 2) rfl) (SP.nil S252.sl))) rfl (fun w' hw' => (E.load rfl (run_load1 Tryz.isAgg3 ((at115.mono i200).now hw') rfl))) ?_
       refine FB.t (i := 9) (bs 13 1023) rfl (SP.on (hall261 _ _ _ 3 S252 rfl) (SP.on (S252.box_now (i := 2) rfl) (SP.nil S252.sl))) rfl (fun w' hw' => (E.neg rfl)) ?_
       refine FB.all1 (i := 10) (by kernel_rfl) ?_
       ·
        refine FC.call (l' := (bs 13 2047)) rfl (by kernel_rfl) rfl rfl rfl (E.call Tryz.call130 (A2 rfl rfl)) (w_impl_set S252.sl v262 x259 (h263.mono (upI.tr (i114.tr i200))) (wr (-y86.var)) hr265) ?_
        rintro e w267 ⟨H266, v270, n271, cs272, rfl, r269, els273⟩
        refine ⟨_, rfl, ?_⟩
        have els273 := els273.mono (up_le S252.size)
        have S268 := S252.join (l' := (.row 3 1 v270 n271 cs272 :: .box b57 247 [v87] :: .row 4 1 v87 n88 cs248 :: .box b40 22 [v91] :: .row 84 1 v91 n92 cs93 :: .box b25 4 [Value.bool false] :: .box b21 22 [Value.slice none 0 0] :: T86')) r269 rfl
        refine ⟨(SP.on (hall261 _ _ _ 4 S268 rfl) (SP.on (S268.box_now (i := 3) rfl) (SP.nil (Sl.of_inc r269.run.inc S268.sl)))), ?_⟩
        obtain ⟨p274, cs275, pt276, l277, at278, rel279, hall282⟩ := S268.row_atA (i := 4) rfl els94 (by decide) hx281
        obtain ⟨v283, rfl, h284⟩ := eL_open rel279
        refine FB.t (i := 11) (bs 13 4095) rfl (SP.on (hall261 _ _ _ 4 S268 rfl) (SP.on (S268.box_now (i := 3) rfl) (SP.nil (Sl.of_inc r269.run.inc S268.sl)))) rfl (fun w' hw' => (E.indexAddr te22 rfl rfl pt276)) ?_
        refine FB.all1 (i := 12) (by kernel_rfl) ?_
        ·
         obtain ⟨H285, S286, i287, h288, nv289⟩ := S268.sealRowU (i := 0) (l' := (.box b57 247 [v87] :: .row 4 1 v87 n88 cs248 :: .box b40 22 [v91] :: .row 84 1 v91 n92 cs93 :: .box b25 4 [Value.bool false] :: .box b21 22 [Value.slice none 0 0] :: T86')) rfl els273 (by decide) rfl
         obtain ⟨w290, cs296, run291, S292, els295, ce297⟩ := S286.putEls (P := Tryz.prog) (t := 84) (i := 3) rfl (els94.mono (up_mono (((i114.tr i200).tr r269.run.inc).tr i287))) hput294 pt276 Tryz.sizeOf84 (u := v270) (c := [v270]) h288.cells rfl (ones_cons h288.one ones_nil) ⟨_, rfl, h288⟩
         have S292 : St Ha wa H285 w290 (.box b57 247 [v87] :: .row 4 1 v87 n88 cs248 :: .box b40 22 [v91] :: .row 84 1 v91 n92 cs296 :: .box b25 4 [Value.bool false] :: .box b21 22 [Value.slice none 0 0] :: T86') := S292
         have nd298 : (bl cs296).Nodup := by rw [ce297]; exact nd_put (Nat.le_add_right _ _) nd95 (by exact nd_one v270) (Els.dom (els94.mono (upI.tr ((i114.tr i200).tr r269.run.inc)))) (by exact nv289)
         refine FC.act (l' := (bs 13 8191)) rfl (by kernel_rfl) rfl rfl (E.store rfl rfl run291) ?_
         refine ⟨(SP.o (SP.o (SP.nil (Sl.of_inc (r269.run.inc.tr i287) S292.sl)))), ?_⟩
         exact FB.done (by kernel_rfl) ⟨_, _, _, _, S292, (r269.run.inc.tr i287), els295, nd298, k203, k204, k205, k206, k207, k208⟩
      ·
       rintro f308 w307 ⟨H304, v299, n300, cs301, S305, i306, els302, nd303, k309, k310, k311, k312, k313, k314⟩
       obtain ⟨x324, hx325, hp⟩ := bnd hp
       obtain ⟨r329, hr330, hp⟩ := bnd hp
       obtain ⟨x345, hx346, hp⟩ := bnd hp
       obtain ⟨xs358, hput359, hp⟩ := bnd hp
       refine FW.drawRB (Sl H304) (fun f w => ∃ H : GH, ∃ v364 : Value, ∃ n365 : Nat, ∃ cs366 : List Value, St Ha wa H w (.box b57 247 [v87] :: .row 4 1 v87 n88 cs248 :: .box b40 22 [v364] :: .row 84 1 v364 n365 cs366 :: .box b25 4 [Value.bool false] :: .box b21 22 [Value.slice none 0 0] :: T86') ∧ Inc H304 H ∧ Els (up wa.heap.size H) (eL eI 1) 1 cs366 xs358 ∧ (bl cs366).Nodup ∧ f 2 = Value.pointer (some (⟨b21, 0, none⟩ : Addr)) ∧ f 3 = Value.pointer (some (⟨b25, 0, none⟩ : Addr)) ∧ f 4 = Value.pointer (some (⟨b40, 0, none⟩ : Addr)) ∧ f 5 = Value.pointer (some (⟨b57, 0, none⟩ : Addr))) (by kernel_rfl) (by kernel_rfl) S305.sl ?_ ?_
       ·
        intro w315 r316
        have S317 := S305.call r316
        refine FB.phase [11] (fun w => WAt w (⟨b40, 0, none⟩ : Addr) [v299]) ?_
        refine FB.p (i := 0) (bs 12 1) 0 [10, 11] rfl (SP.on (S317.box_now (i := 2) rfl) (SP.nil S317.sl)) rfl rfl (fun w' hw' => (E.load k311 (run_load0 Tryz.isAgg22 hw' rfl))) ?_
        refine FB.t (i := 1) (bs 12 3) rfl (SP.on (S317.box_now (i := 2) rfl) (SP.nil S317.sl)) rfl (fun w' hw' => (E.fieldAddr tf98_2 k314)) ?_
        refine FB.t (i := 2) (bs 12 7) rfl (SP.on (S317.box_now (i := 2) rfl) (SP.nil S317.sl)) rfl (fun w' hw' => (E.load rfl (run_load1 Tryz.isAgg3 ((at115.mono (i200.tr i306)).now hw') rfl))) ?_
        refine FB.p (i := 3) (bs 12 15) 0 [5, 6, 9, 10, 11] rfl (SP.on (S317.box_now (i := 2) rfl) (SP.nil S317.sl)) rfl rfl (fun w' hw' => (E.load k311 (run_load0 Tryz.isAgg22 hw' rfl))) ?_
        refine FB.t (i := 4) (bs 12 31) rfl (SP.on (S317.box_now (i := 2) rfl) (SP.nil S317.sl)) rfl (fun w' hw' => (E.move k313)) ?_
        obtain ⟨p318, cs319, pt320, l321, at322, rel323, hall326⟩ := S317.row_atA (i := 3) rfl els302 (by decide) hx325
        obtain ⟨v327, rfl, h328⟩ := eL_open rel323
        refine FB.t (i := 5) (bs 12 63) rfl (SP.on (S317.box_now (i := 2) rfl) (SP.nil S317.sl)) rfl (fun w' hw' => (E.indexAddr te22 rfl rfl pt320)) ?_
        refine FB.phase [11] (fun w' => WAt w' p318 [v327]) ?_
        refine FB.p (i := 6) (bs 12 127) 0 [9, 10, 11] rfl (SP.on (hall326 _ _ _ 3 S317 rfl) (SP.on (S317.box_now (i := 2) rfl) (SP.nil S317.sl))) rfl rfl (fun w' hw' => (E.load rfl (run_load0 Tryz.isAgg84 hw' rfl))) ?_
        refine FB.t (i := 7) (bs 12 255) rfl (SP.on (hall326 _ _ _ 3 S317 rfl) (SP.on (S317.box_now (i := 2) rfl) (SP.nil S317.sl))) rfl (fun w' hw' => (E.fieldAddr tf98_0 k314)) ?_
        refine FB.t (i := 8) (bs 12 511) rfl (SP.on (hall326 _ _ _ 3 S317 rfl) (SP.on (S317.box_now (i := 2) rfl) (SP.nil S317.sl))) rfl (fun w' hw' => (E.load rfl (run_load1 Tryz.isAgg3 ((at115.mono (i200.tr i306)).now hw') rfl))) ?_
        refine FB.all1 (i := 9) (by kernel_rfl) ?_
        ·
         refine FC.call (l' := (bs 12 1023)) rfl (by kernel_rfl) rfl rfl rfl (E.call Tryz.call130 (A2 rfl rfl)) (w_impl_set S317.sl v327 x324 (h328.mono upI) y86.var hr330) ?_
         rintro e w332 ⟨H331, v335, n336, cs337, rfl, r334, els338⟩
         refine ⟨_, rfl, ?_⟩
         have els338 := els338.mono (up_le S317.size)
         have S333 := S317.join (l' := (.row 3 1 v335 n336 cs337 :: .box b57 247 [v87] :: .row 4 1 v87 n88 cs248 :: .box b40 22 [v299] :: .row 84 1 v299 n300 cs301 :: .box b25 4 [Value.bool false] :: .box b21 22 [Value.slice none 0 0] :: T86')) r334 rfl
         refine ⟨(SP.on (hall326 _ _ _ 4 S333 rfl) (SP.on (S333.box_now (i := 3) rfl) (SP.nil (Sl.of_inc r334.run.inc S333.sl)))), ?_⟩
         obtain ⟨p339, cs340, pt341, l342, at343, rel344, hall347⟩ := S333.row_atA (i := 4) rfl els302 (by decide) hx346
         obtain ⟨v348, rfl, h349⟩ := eL_open rel344
         refine FB.t (i := 10) (bs 12 2047) rfl (SP.on (hall326 _ _ _ 4 S333 rfl) (SP.on (S333.box_now (i := 3) rfl) (SP.nil (Sl.of_inc r334.run.inc S333.sl)))) rfl (fun w' hw' => (E.indexAddr te22 rfl rfl pt341)) ?_
         refine FB.all1 (i := 11) (by kernel_rfl) ?_
         ·
          obtain ⟨H350, S351, i352, h353, nv354⟩ := S333.sealRowU (i := 0) (l' := (.box b57 247 [v87] :: .row 4 1 v87 n88 cs248 :: .box b40 22 [v299] :: .row 84 1 v299 n300 cs301 :: .box b25 4 [Value.bool false] :: .box b21 22 [Value.slice none 0 0] :: T86')) rfl els338 (by decide) rfl
          obtain ⟨w355, cs361, run356, S357, els360, ce362⟩ := S351.putEls (P := Tryz.prog) (t := 84) (i := 3) rfl (els302.mono (up_mono (r334.run.inc.tr i352))) hput359 pt341 Tryz.sizeOf84 (u := v335) (c := [v335]) h353.cells rfl (ones_cons h353.one ones_nil) ⟨_, rfl, h353⟩
          have S357 : St Ha wa H350 w355 (.box b57 247 [v87] :: .row 4 1 v87 n88 cs248 :: .box b40 22 [v299] :: .row 84 1 v299 n300 cs361 :: .box b25 4 [Value.bool false] :: .box b21 22 [Value.slice none 0 0] :: T86') := S357
          have nd363 : (bl cs361).Nodup := by rw [ce362]; exact nd_put (Nat.le_add_right _ _) nd303 (by exact nd_one v335) (Els.dom (els302.mono (upI.tr r334.run.inc))) (by exact nv354)
          refine FC.act (l' := (bs 12 4095)) rfl (by kernel_rfl) rfl rfl (E.store rfl rfl run356) ?_
          refine ⟨(SP.o (SP.o (SP.nil (Sl.of_inc (r334.run.inc.tr i352) S357.sl)))), ?_⟩
          exact FB.done (by kernel_rfl) ⟨_, _, _, _, S357, (r334.run.inc.tr i352), els360, nd363, k309, k310, k311, k312⟩
       ·
        rintro f373 w372 ⟨H369, v364, n365, cs366, S370, i371, els367, nd368, k374, k375, k376, k377⟩
        obtain rfl := Option.some.inj hp
        exact ⟨rfl, ⟨_, _, _, _, _, _, _, S370, ((((i99.tr i114).tr i200).tr i306).tr i371), (els246.mono (up_mono (i306.tr i371))), els367, nd368⟩⟩
 ·
  clear hq
  rintro D86 s86 rfl w381 ⟨H378, v87, n88, cs89, v91, n92, cs93, S379, i380, els90, els94, nd95⟩
  replace hp := el_go hp
  refine FT.then_ ?_
  refine FT.seq ?_
  refine FW.region ?_
  refine FL.v (E.load rfl (run_load0 Tryz.isAgg22 (S379.box_now (i := 2) rfl) rfl)) ?_
  obtain ⟨w382, run383, S384⟩ := S379.store0 (P := Tryz.prog) (t := 22) (i := 5) (cs' := [v91]) (l' := (.box b57 247 [v87] :: .row 4 1 v87 n88 cs89 :: .box b40 22 [v91] :: .row 84 1 v91 n92 cs93 :: .box b25 4 [Value.bool false] :: .box b21 22 [v91] :: [.raw D86 (.deferred (some []))])) (v := v91) (c := [v91]) rfl Tryz.sizeOf22 (Ln.cells (S379.row_ln (i := 3) rfl)) rfl (ones_cons (Ln.one (S379.row_ln (i := 3) rfl)) ones_nil) (Nat.le_of_ble_eq_true rfl) rfl rfl
  refine FL.act rfl rfl (E.store rfl rfl run383) ?_
  obtain ⟨w385, run386, S387⟩ := S384.store0 (P := Tryz.prog) (t := 4) (i := 4) (cs' := [Value.bool true]) (l' := (.box b57 247 [v87] :: .row 4 1 v87 n88 cs89 :: .box b40 22 [v91] :: .row 84 1 v91 n92 cs93 :: .box b25 4 [Value.bool true] :: .box b21 22 [v91] :: [.raw D86 (.deferred (some []))])) (v := Value.bool true) (c := [Value.bool true]) rfl Tryz.sizeOf4 rfl rfl (ones_cons rfl ones_nil) (Nat.le_of_ble_eq_true rfl) rfl rfl
  refine FL.act rfl rfl (E.store rfl rfl run386) ?_
  refine FL.nil ?_
  refine FT.last ?_
  refine FW.ret ?_
  have hD388 := St.shutAt (l := [.box b57 247 [v87], .row 4 1 v87 n88 cs89, .box b40 22 [v91], .row 84 1 v91 n92 cs93, .box b25 4 [Value.bool true], .box b21 22 [v91]]) S387
  have S389 := St.shut (l := [.box b57 247 [v87], .row 4 1 v87 n88 cs89, .box b40 22 [v91], .row 84 1 v91 n92 cs93, .box b25 4 [Value.bool true], .box b21 22 [v91]]) S387 (.deferred none)
  obtain rfl := Option.some.inj hp
  exact ends1 hD388 (resCC rfl rfl (loadVar_0 Tryz.isAgg22 (S389.box_now (i := 5) rfl) rfl) rfl (loadVar_0 Tryz.isAgg4 (S389.box_now (i := 4) rfl) rfl) ⟨_, _, _, _, rfl, (S389.sel [3] (by decide) rfl), els94, nd95⟩) (.inr rfl)
 ·
  clear hq
  rintro D86 x86 rfl w393 ⟨H390, S391, i392⟩
  replace hp := el_rt hp
  have hD394 := St.shutAt (l := [.box b25 4 [Value.bool x86], .box b21 22 [Value.slice none 0 0]]) S391
  have S395 := St.shut (l := [.box b25 4 [Value.bool x86], .box b21 22 [Value.slice none 0 0]]) S391 (.deferred none)
  obtain rfl := Option.some.inj hp
  exact ends1 hD394 (resCC rfl rfl (loadVar_0 Tryz.isAgg22 (S395.box_now (i := 1) rfl) rfl) rfl (loadVar_0 Tryz.isAgg4 (S395.box_now (i := 0) rfl) rfl) ⟨_, _, _, _, rfl, ((S395.nil 84 1).sel [0] (by decide) rfl), Els.nil, List.nodup_nil⟩) (.inr rfl)

theorem w_impl_IsTree {Ha : GH} {wa : World} (hs : Sl Ha wa) (a0 : Cnf) (v0_1 : Value) (p0_1 : RSl Ha (eL eI 1) 1 v0_1 a0.clauses) (v1 : Value) (a1 : List TreeNode) (p1 : RSl Ha eTreeNode 4 v1 a1) {r : Bool} (hp : (PF.impl_IsTree a0 a1) = some r) :
  Calls Tryz.prog 177 #[Value.agg #[Value.int .i64 a0.vars, v0_1], v1] wa (Sc Ha wa (Value.bool r)) := by
 unfold PF.impl_IsTree at hp
 have S0 := St.init hs
 refine calls_go (N := 37) (args := [Value.agg #[Value.int .i64 a0.vars, v0_1], v1]) Tryz.func177 rfl rfl rfl ?_
 refine FW.seq (FW.region ?_)
 obtain ⟨b21, w22, run23, S24⟩ := S0.box (P := Tryz.prog) 30 [Value.int .i64 a0.vars, v0_1] (v := Value.agg #[Value.int .i64 a0.vars, v0_1]) rfl (ones_cons rfl (ones_cons p0_1.one ones_nil))
 refine FL.v (E.box rfl run23) ?_
 obtain ⟨H25, S26, i27, at28⟩ := S24.sealBox (i := 0) (l' := []) rfl rfl
 refine FL.v (E.assign (v := Value.bool false) rfl) ?_
 refine FL.nil (FW.seq (FW.seq (FW.region ?_)))
 refine FL.v (E.load rfl (run_loadA Tryz.isAgg30 Tryz.sizeOf30 (at28.now S26.sl) rfl)) ?_
 obtain ⟨r29, hr30, hp⟩ := bnd hp
 refine FL.call rfl rfl rfl (E.call Tryz.call95 (A1 rfl)) (w_impl_IsCnf S26.sl a0 v0_1 (p0_1.mono i27) hr30) ?_
 rintro e w31 ⟨rfl, r32⟩
 refine ⟨_, rfl, ?_⟩
 have S33 := S26.call r32
 refine FL.v (E.not rfl) ?_
 refine FL.v (E.move (v := Value.bool (!r29)) rfl) ?_
 refine FL.cut 5 (fun f w => ∃ H : GH, St Ha wa H w [] ∧ Inc H25 H ∧ f 1 = v1 ∧ f 2 = Value.pointer (some ⟨b21, 0, none⟩) ∧ f 17 = Value.bool (bif (!r29) then true else (!(PF.impl_within (len a1) 1 199)))) ?_ ?_
 ·
  rcases bcase (!r29) with c43 | c43
  ·
   refine FL.skip (wF_no rfl rfl rfl c43) rfl ?_
   refine FL.skip (wF_no rfl rfl rfl c43) rfl ?_
   refine FL.skip (wF_no rfl rfl rfl c43) rfl ?_
   refine FL.skip (wF_no rfl rfl rfl c43) rfl ?_
   refine FL.v (E.pickT rfl c43 rfl) ?_
   exact FL.nil ⟨rfl, _, S33, (Inc.rfl _), rfl, rfl, (congrArg Value.bool (bifT c43).symm)⟩
  ·
   refine FL.val (wF_yes rfl rfl rfl c43) rfl rfl (E.move (v := v1) rfl) ?_
   refine FL.val (wF_yes rfl rfl rfl c43) rfl rfl (E.lenP te56 rfl p1) ?_
   refine FL.call (wF_yes rfl rfl rfl c43) rfl rfl (E.call Tryz.call108 (A3 rfl rfl rfl)) (w_impl_within S33.sl (len a1) 1 199) ?_
   rintro e w44 ⟨rfl, r45⟩
   refine ⟨_, rfl, ?_⟩
   have S46 := S33.call r45
   refine FL.val (wF_yes rfl rfl rfl c43) rfl rfl (E.not rfl) ?_
   refine FL.v (E.pickF rfl c43 rfl) ?_
   exact FL.nil ⟨rfl, _, S46, (Inc.rfl _), rfl, rfl, (congrArg Value.bool (bifF c43).symm)⟩
 rintro f42 w41 ⟨H38, S39, i40, k47, k48, k49⟩
 refine FL.nil ?_
 rcases ifB hp with ⟨c50, hp⟩ | ⟨c50, hp⟩
 ·
  refine FW.condT k49 c50 ?_
  refine FW.seq (FW.region ?_)
  refine FL.v (E.assign (v := Value.bool false) rfl) ?_
  refine FL.nil ?_
  refine FW.ret ?_
  obtain rfl := Option.some.inj hp
  exact ⟨.inr rfl, res1 rfl rfl ⟨rfl, S39.back⟩⟩
 ·
  refine FW.condF k49 c50 ?_
  refine FW.skip (FW.seq (FW.seq (FW.region ?_)))
  refine FL.v (E.move k47) ?_
  refine FL.v (E.lenP te56 rfl p1) ?_
  refine FL.v (E.move (v := Value.int .i64 0) rfl) ?_
  refine FL.nil ?_
  obtain ⟨q52, hq, hp⟩ := bndR hp
  refine FW.block ?_
  refine FW.mono (FW.forL (S := Unit) (X := Bool) (fun (i52 : Nat) (s52 : Unit) f w => ∃ H : GH, St Ha wa H w [] ∧ Inc H38 H ∧ f 20 = Value.int .i64 ((i52 : Nat) : Int) ∧ f 1 = v1 ∧ f 2 = Value.pointer (some ⟨b21, 0, none⟩) ∧ f 18 = v1 ∧ f 19 = Value.int .i64 (len a1)) (fun q e f w => match q with | .go s52 => e = Exit.exit 0 ∧ (∃ H : GH, St Ha wa H w [] ∧ Inc H38 H ∧ f 1 = v1) | .rt x => ((e = Exit.ret) ∧ (fun e f w => (e = Exit.normal ∨ e = Exit.ret) ∧ ∀ a, Fr (δ := []) 37 a f → ∃ v, (results Tryz.f177 a.tmps).run Tryz.prog w = .ok v w ∧ (Sc Ha wa (Value.bool x)) (.returned v) w) e f w)) hq ⟨_, S39, (Inc.rfl _), rfl, k47, k48, rfl, rfl⟩ ?_ ?_) ?_
  ·
   clear hp hq
   rintro i52 y51 s52 f88 w87 ⟨H84, S85, i86, k89, k90, k91, k92, k93⟩ hx52 o115 hp
   refine FW.seq (FW.region ?_)
   refine FL.v (E.lssT k89 k93 (lss_len hx52)) ?_
   refine FL.nil (FW.seq ?_)
   refine FW.condT rfl rfl ?_
   refine FW.skip (FW.seq (FW.block (FW.seq (FW.region ?_))))
   refine FL.v (E.move k89) ?_
   obtain ⟨p94, cs95, pt96, l97, at98, rel99⟩ := p1.at (ix_nat hx52)
   obtain rfl := eTreeNode_open rel99
   refine FL.v (E.indexAddr te56 k92 k89 pt96) ?_
   refine FL.v (E.load rfl (run_loadA Tryz.isAgg98 Tryz.sizeOf98 ((at98.mono ((i27.tr i40).tr i86)).now S85.sl) rfl)) ?_
   obtain ⟨b100, w101, run102, S103⟩ := S85.alloc (P := Tryz.prog) 98 [Value.int .i64 0, Value.int .i64 0, Value.int .i64 0, Value.int .i64 0] Tryz.zeroValue98 rfl (ones_cons rfl (ones_cons rfl (ones_cons rfl (ones_cons rfl ones_nil))))
   refine FL.v (E.alloc run102) ?_
   refine FL.v (E.assign (v := Value.int .i64 ((i52 : Nat) : Int)) rfl) ?_
   obtain ⟨w104, run105, S106⟩ := S103.store0 (P := Tryz.prog) (t := 98) (i := 0) (cs' := [Value.int .i64 y51.var, Value.int .i64 y51.low, Value.int .i64 y51.high, Value.int .i64 y51.clause]) (l' := [.box b100 98 [Value.int .i64 y51.var, Value.int .i64 y51.low, Value.int .i64 y51.high, Value.int .i64 y51.clause]]) (v := Value.agg #[Value.int .i64 y51.var, Value.int .i64 y51.low, Value.int .i64 y51.high, Value.int .i64 y51.clause]) (c := [Value.int .i64 y51.var, Value.int .i64 y51.low, Value.int .i64 y51.high, Value.int .i64 y51.clause]) rfl Tryz.sizeOf98 rfl rfl (ones_cons rfl (ones_cons rfl (ones_cons rfl (ones_cons rfl ones_nil)))) (Nat.le_of_ble_eq_true rfl) rfl rfl
   refine FL.act rfl rfl (E.store rfl rfl run105) ?_
   obtain ⟨H107, S108, i109, at110⟩ := S106.sealBox (i := 0) (l' := []) rfl rfl
   refine FL.nil (FW.seq (FW.region ?_))
   refine FL.v (E.load k91 (run_loadA Tryz.isAgg30 Tryz.sizeOf30 ((at28.mono ((i40.tr i86).tr i109)).now S108.sl) rfl)) ?_
   refine FL.v (E.move (v := Value.int .i64 ((i52 : Nat) : Int)) rfl) ?_
   refine FL.v (E.load rfl (run_loadA Tryz.isAgg98 Tryz.sizeOf98 (at110.now S108.sl) rfl)) ?_
   refine FL.call rfl rfl rfl (E.call Tryz.call214 (A3 rfl rfl rfl)) (w_impl_nodeOk S108.sl a0 v0_1 (p0_1.mono (((i27.tr i40).tr i86).tr i109)) ((i52 : Nat) : Int) y51) ?_
   rintro e w111 ⟨rfl, r112⟩
   refine ⟨_, rfl, ?_⟩
   have S113 := S108.call r112
   refine FL.v (E.not rfl) ?_
   refine FL.nil ?_
   rcases ifB hp with ⟨c114, hp⟩ | ⟨c114, hp⟩
   ·
    refine FW.condT rfl c114 ?_
    refine FW.seq (FW.region ?_)
    refine FL.v (E.assign (v := Value.bool false) rfl) ?_
    refine FL.nil ?_
    refine FW.ret ?_
    obtain rfl := Option.some.inj hp
    exact ⟨nofun, rfl, ⟨.inr rfl, res1 rfl rfl ⟨rfl, S113.back⟩⟩⟩
   ·
    refine FW.condF rfl c114 ?_
    refine FW.skip (FW.region ?_)
    refine FL.v (E.add k89 rfl) ?_
    refine FL.v (E.move (v := Value.int .i64 (wr (((i52 : Nat) : Int) + 1))) rfl) ?_
    refine FL.nil ?_
    obtain rfl := Option.some.inj hp
    exact ⟨rfl, ⟨_, S113, (i86.tr i109), (nat_succ rfl (lt_of_get hx52) (p1.mono (((i27.tr i40).tr i86).tr i109)).le), k90, k91, k92, k93⟩⟩
  ·
   clear hp hq
   rintro s52 f138 w137 ⟨H134, S135, i136, k139, k140, k141, k142, k143⟩
   refine FW.seq (FW.region ?_)
   refine FL.v (E.lss k139 k143) ?_
   refine FL.nil (FW.seq ?_)
   refine FW.condF rfl dlt_len ?_
   refine FW.exit ?_
   exact ⟨nofun, rfl, ⟨_, S135, i136, k140⟩⟩
  ·
   clear hq
   intro e f120 w119 hD
   rcases q52 with s52 | x52
   ·
    obtain ⟨rfl, hD⟩ := hD
    obtain ⟨H116, S117, i118, k121⟩ := hD
    replace hp := el_go hp
    refine FW.seq (FW.region ?_)
    refine FL.v (E.move k121) ?_
    obtain ⟨r122, hr123, hp⟩ := bnd hp
    refine FL.call rfl rfl rfl (E.call Tryz.call215 (A1 rfl)) (w_impl_paths S117.sl v1 a1 (p1.mono ((i27.tr i40).tr i118)) hr123) ?_
    rintro e w125 ⟨H124, v128, n129, cs130, rfl, r127, els131, nd132⟩
    refine ⟨_, rfl, ?_⟩
    have nv133 : New H116 cs130 := New.of_up S117.sl els131.dom
    have els131 := els131.mono (up_le S117.size)
    have S126 := S117.join (l' := [.row 84 1 v128 n129 cs130]) r127 rfl
    refine FL.v (E.move (v := Value.tuple #[v128, Value.bool r122.2]) rfl) ?_
    refine FL.v (E.extract (i := 0) rfl rfl) ?_
    refine FL.v (E.extract (i := 1) rfl rfl) ?_
    refine FL.v (E.assign (v := v128) rfl) ?_
    refine FL.v (E.assign (v := Value.bool r122.2) rfl) ?_
    refine FL.nil (FW.seq (FW.region ?_))
    refine FL.v (E.move (v := Value.bool r122.2) rfl) ?_
    refine FL.v (E.assign (v := Value.bool r122.2) rfl) ?_
    refine FL.nil ?_
    refine FW.ret ?_
    obtain rfl := Option.some.inj hp
    exact ⟨.inr rfl, res1 rfl rfl ⟨rfl, S126.back⟩⟩
   ·
    obtain ⟨he, hL⟩ := hD
    replace hp := el_rt hp
    obtain rfl := Option.some.inj hp
    subst he
    exact hL

@[reducible] def p_impl_upTo (Ha : GH) (wa : World) (r : (List Int)) : Ending → World → Prop :=
  fun e w' => ∃ H' : GH, ∃ v0 : Value, ∃ n0 : Nat, ∃ c0 : List Value, e = .returned (v0) ∧ St Ha wa H' w' [.row 3 1 v0 n0 c0] ∧ Els (up wa.heap.size H') eI 1 c0 r
theorem w_impl_upTo {Ha : GH} {wa : World} (hs : Sl Ha wa) (a0 : Int) {r : (List Int)} (hp : (PF.impl_upTo a0) = some r) :
    Calls Tryz.prog 217 #[Value.int .i64 a0] wa (p_impl_upTo Ha wa r) := by
  unfold PF.impl_upTo at hp
  have S0 := St.init hs
  refine calls_go (N := 15) (args := [Value.int .i64 a0]) Tryz.func217 rfl rfl rfl ?_
  refine FW.seq (FW.region ?_)
  refine FL.v (E.assign (v := Value.slice none 0 0) rfl) ?_
  refine FL.nil (FW.seq (FW.region ?_))
  refine FL.v (E.assign (v := Value.slice none 0 0) rfl) ?_
  refine FL.nil (FW.seq (FW.seq (FW.region ?_)))
  refine FL.v (E.assign (v := Value.int .i64 1) rfl) ?_
  refine FL.nil ?_
  obtain ⟨q22, hq, hp⟩ := bndR hp
  refine FW.block ?_
  refine FW.mono (FW.iter (S := ((List Int) × Int)) (X := Empty) (fun (s22 : ((List Int) × Int)) f w => ∃ H : GH, ∃ v23 : Value, ∃ n24 : Nat, ∃ cs25 : List Value, St Ha wa H w [.row 3 1 v23 n24 cs25] ∧ Inc Ha H ∧ Els (up wa.heap.size H) eI 1 cs25 s22.1 ∧ f 0 = Value.int .i64 a0 ∧ f 3 = v23 ∧ f 4 = Value.int .i64 s22.2) (fun (q : Rs ((List Int) × Int) Empty) e f w => match q with | .go s22 => e = Exit.exit 0 ∧ (∃ H : GH, ∃ v23 : Value, ∃ n24 : Nat, ∃ cs25 : List Value, St Ha wa H w [.row 3 1 v23 n24 cs25] ∧ Inc Ha H ∧ Els (up wa.heap.size H) eI 1 cs25 s22.1 ∧ f 3 = v23) | .rt x => x.elim) hq ⟨_, _, _, _, (S0.nil 3 1), (Inc.rfl _), Els.nil, rfl, rfl, rfl⟩ ?_) ?_
  ·
    clear hp hq
    rintro s22 f56 w55 ⟨H52, v23, n24, cs25, S53, i54, els26, k57, k58, k59⟩ o77 hp
    refine FW.seq (FW.seq (FW.region ?_))
    refine FL.v (E.move k59) ?_
    refine FL.v (E.move k57) ?_
    refine FL.v (E.leq rfl rfl) ?_
    refine FL.nil ?_
    rcases ifB hp with ⟨c60, hp⟩ | ⟨c60, hp⟩
    ·
      refine FW.condT rfl c60 ?_
      refine FW.skip (FW.seq (FW.block (FW.region ?_)))
      refine FL.v (E.move k58) ?_
      refine FL.v (E.move k59) ?_
      obtain ⟨v61, w62, run63, S64⟩ := S53.buildSlice (P := Tryz.prog) te84 [Value.int .i64 s22.2] (parts := #[(0, Value.int .i64 s22.2)]) (cells := [Value.int .i64 s22.2]) rfl (szs_cons rfl szs_nil) (fc_cons rfl fc_nil) (ones_cons rfl ones_nil) (Nat.le_of_ble_eq_true rfl)
      have els65 : Els (up wa.heap.size H52) eI 1 [Value.int .i64 s22.2] [s22.2] := (Els.snoc (H := (up wa.heap.size H52)) (E := eI) (k := 1) (c := [Value.int .i64 s22.2]) (x := s22.2) Els.nil rfl rfl)
      refine FL.v (E.buildSlice (B1 rfl) run63) ?_
      obtain ⟨xs66, hz67, hp⟩ := bnd hp
      obtain ⟨v68, w71, n69, cs70, run72, S73, els74, ce75⟩ := S64.appendO (P := Tryz.prog) te84 (i := 1) (j := 0) rfl els26 rfl els65 hz67
      have S73 : St Ha wa H52 w71 [.row 3 1 v61 1 [Value.int .i64 s22.2], .row 3 1 v68 n69 cs70] := S73
      have S76 : St Ha wa H52 w71 [.row 3 1 v68 n69 cs70] := S73.drop 0
      refine FL.v (E.append rfl rfl run72) ?_
      refine FL.v (E.assign (v := v68) rfl) ?_
      refine FL.nil (FW.region ?_)
      refine FL.v (E.move k59) ?_
      refine FL.v (E.add rfl rfl) ?_
      refine FL.v (E.assign (v := Value.int .i64 (wr (s22.2 + 1))) rfl) ?_
      refine FL.nil ?_
      obtain rfl := Option.some.inj hp
      exact ⟨rfl, ⟨_, _, _, _, S76, i54, els74, k57, rfl, rfl⟩⟩
    ·
      refine FW.condF rfl c60 ?_
      refine FW.exit ?_
      obtain rfl := Option.some.inj hp
      exact ⟨nofun, rfl, ⟨_, _, _, _, S53, i54, els26, k58⟩⟩
  ·
    clear hq
    intro e f82 w81 hD
    rcases q22 with s22 | x22
    ·
      obtain ⟨rfl, hD⟩ := hD
      obtain ⟨H78, v23, n24, cs25, S79, i80, els26, k83⟩ := hD
      replace hp := el_go hp
      refine FW.seq (FW.region ?_)
      refine FL.v (E.move k83) ?_
      refine FL.v (E.assign (v := v23) rfl) ?_
      refine FL.nil ?_
      refine FW.ret ?_
      obtain rfl := Option.some.inj hp
      exact ⟨.inr rfl, res1 rfl rfl ⟨_, _, _, _, rfl, S79, els26⟩⟩
    · exact x22.elim

theorem w_impl_clauseValue {Ha : GH} {wa : World} (hs : Sl Ha wa) (v0 : Value) (a0 : List Int) (p0 : RSl Ha eI 1 v0 a0) (v1 : Value) (a1 : List Int) (p1 : RSl Ha eI 1 v1 a1) {r : Int} (hp : (PF.impl_clauseValue a0 a1) = some r) :
  Calls Tryz.prog 219 #[v0, v1] wa (Sc Ha wa (Value.int .i64 r)) := by
 unfold PF.impl_clauseValue at hp
 have S0 := St.init hs
 refine calls_go (N := 26) (args := [v0, v1]) Tryz.func219 rfl rfl rfl ?_
 refine FW.seq (FW.region ?_)
 refine FL.v (E.assign (v := Value.int .i64 0) rfl) ?_
 refine FL.nil (FW.seq (FW.region ?_))
 refine FL.v (E.assign (v := Value.int .i64 (-1)) rfl) ?_
 refine FL.nil (FW.seq (FW.seq (FW.region ?_)))
 refine FL.v (E.move (v := v0) rfl) ?_
 refine FL.v (E.lenP te84 rfl p0) ?_
 refine FL.v (E.move (v := Value.int .i64 0) rfl) ?_
 refine FL.nil ?_
 obtain ⟨q22, hq, hp⟩ := bndR hp
 refine FW.block ?_
 refine FW.mono (FW.forL (S := Int) (X := Int) (fun (i22 : Nat) (s22 : Int) f w => ∃ H : GH, St Ha wa H w [] ∧ Inc Ha H ∧ f 10 = Value.int .i64 ((i22 : Nat) : Int) ∧ f 1 = v1 ∧ f 5 = Value.int .i64 s22 ∧ f 8 = v0 ∧ f 9 = Value.int .i64 (len a0)) (fun q e f w => match q with | .go s22 => e = Exit.exit 0 ∧ (∃ H : GH, St Ha wa H w [] ∧ Inc Ha H ∧ f 5 = Value.int .i64 s22) | .rt x => ((e = Exit.ret) ∧ (fun e f w => (e = Exit.normal ∨ e = Exit.ret) ∧ ∀ a, Fr (δ := []) 26 a f → ∃ v, (results Tryz.f219 a.tmps).run Tryz.prog w = .ok v w ∧ (Sc Ha wa (Value.int .i64 x)) (.returned v) w) e f w)) hq ⟨_, S0, (Inc.rfl _), rfl, rfl, rfl, rfl, rfl⟩ ?_ ?_) ?_
 ·
  clear hp hq
  rintro i22 y21 s22 f55 w54 ⟨H51, S52, i53, k56, k57, k58, k59, k60⟩ hx22 o79 hp
  refine FW.seq (FW.region ?_)
  refine FL.v (E.lssT k56 k60 (lss_len hx22)) ?_
  refine FL.nil (FW.seq ?_)
  refine FW.condT rfl rfl ?_
  refine FW.skip (FW.seq (FW.block (FW.seq (FW.region ?_))))
  obtain ⟨p61, cs62, pt63, l64, at65, rel66⟩ := p0.at (ix_nat hx22)
  obtain rfl := eI_open rel66
  refine FL.v (E.indexAddr te84 k59 k56 pt63) ?_
  refine FL.v (E.load rfl (run_load0 Tryz.isAgg3 ((at65.mono i53).now S52.sl) rfl)) ?_
  refine FL.v (E.assign (v := Value.int .i64 y21) rfl) ?_
  refine FL.nil (FW.block (FW.seq (FW.region ?_)))
  refine FL.v (E.move k57) ?_
  refine FL.v (E.move (v := Value.int .i64 y21) rfl) ?_
  obtain ⟨r67, hr68, hp⟩ := bnd hp
  refine FL.call rfl rfl rfl (E.call Tryz.call129 (A2 rfl rfl)) (w_slices_Contains_int_int S52.sl v1 a1 (p1.mono i53) y21 hr68) ?_
  rintro e w69 ⟨rfl, r70⟩
  refine ⟨_, rfl, ?_⟩
  have S71 := S52.call r70
  refine FL.v (E.assign (v := Value.bool r67) rfl) ?_
  refine FL.nil ?_
  rcases ifB hp with ⟨c72, hp⟩ | ⟨c72, hp⟩
  ·
   refine FW.condT rfl c72 ?_
   refine FW.seq (FW.region ?_)
   refine FL.v (E.assign (v := Value.int .i64 1) rfl) ?_
   refine FL.nil ?_
   refine FW.ret ?_
   obtain rfl := Option.some.inj hp
   exact ⟨nofun, rfl, ⟨.inr rfl, res1 rfl rfl ⟨rfl, S71.back⟩⟩⟩
  ·
   refine FW.condF rfl c72 ?_
   refine FW.seq (FW.region ?_)
   refine FL.v (E.move k57) ?_
   refine FL.v (E.move (v := Value.int .i64 y21) rfl) ?_
   refine FL.v (E.neg rfl) ?_
   obtain ⟨r73, hr74, hp⟩ := bnd hp
   refine FL.call rfl rfl rfl (E.call Tryz.call129 (A2 rfl rfl)) (w_slices_Contains_int_int S71.sl v1 a1 (p1.mono i53) (wr (-y21)) hr74) ?_
   rintro e w75 ⟨rfl, r76⟩
   refine ⟨_, rfl, ?_⟩
   have S77 := S71.call r76
   refine FL.v (E.not rfl) ?_
   refine FL.v (E.assign (v := Value.bool (!r73)) rfl) ?_
   refine FL.nil ?_
   rcases ifB hp with ⟨c78, hp⟩ | ⟨c78, hp⟩
   ·
    refine FW.condT rfl c78 ?_
    refine FW.region ?_
    refine FL.v (E.assign (v := Value.int .i64 0) rfl) ?_
    refine FL.nil (FW.region ?_)
    refine FL.v (E.add k56 rfl) ?_
    refine FL.v (E.move (v := Value.int .i64 (wr (((i22 : Nat) : Int) + 1))) rfl) ?_
    refine FL.nil ?_
    obtain rfl := Option.some.inj hp
    exact ⟨rfl, ⟨_, S77, i53, (nat_succ rfl (lt_of_get hx22) (p0.mono i53).le), k57, rfl, k59, k60⟩⟩
   ·
    refine FW.condF rfl c78 ?_
    refine FW.skip (FW.region ?_)
    refine FL.v (E.add k56 rfl) ?_
    refine FL.v (E.move (v := Value.int .i64 (wr (((i22 : Nat) : Int) + 1))) rfl) ?_
    refine FL.nil ?_
    obtain rfl := Option.some.inj hp
    exact ⟨rfl, ⟨_, S77, i53, (nat_succ rfl (lt_of_get hx22) (p0.mono i53).le), k57, k58, k59, k60⟩⟩
 ·
  clear hp hq
  rintro s22 f90 w89 ⟨H86, S87, i88, k91, k92, k93, k94, k95⟩
  refine FW.seq (FW.region ?_)
  refine FL.v (E.lss k91 k95) ?_
  refine FL.nil (FW.seq ?_)
  refine FW.condF rfl dlt_len ?_
  refine FW.exit ?_
  exact ⟨nofun, rfl, ⟨_, S87, i88, k93⟩⟩
 ·
  clear hq
  intro e f84 w83 hD
  rcases q22 with s22 | x22
  ·
   obtain ⟨rfl, hD⟩ := hD
   obtain ⟨H80, S81, i82, k85⟩ := hD
   replace hp := el_go hp
   refine FW.seq (FW.region ?_)
   refine FL.v (E.move k85) ?_
   refine FL.v (E.assign (v := Value.int .i64 s22) rfl) ?_
   refine FL.nil ?_
   refine FW.ret ?_
   obtain rfl := Option.some.inj hp
   exact ⟨.inr rfl, res1 rfl rfl ⟨rfl, S81.back⟩⟩
  ·
   obtain ⟨he, hL⟩ := hD
   replace hp := el_rt hp
   obtain rfl := Option.some.inj hp
   subst he
   exact hL

theorem w_impl_badLeaf_1 {Ha : GH} {wa : World} (hs : Sl Ha wa) (a0 : Int) (q0 : Addr) (b0 : List TreeNode) (u0_0 : Value) (g0_0 : RSl Ha eTreeNode 4 u0_0 b0) (c0 : CAt Ha q0 [u0_0]) (q1 : Addr) (b1 : Cnf) (u1_1 : Value) (g1_1 : RSl Ha (eL eI 1) 1 u1_1 b1.clauses) (c1 : CAt Ha q1 [Value.int .i64 b1.vars, u1_1]) (q2 : Addr) (b2 : List (List Int)) (u2_0 : Value) (g2_0 : RSl Ha (eL eI 1) 1 u2_0 b2) (c2 : CAt Ha q2 [u2_0]) {r : Bool} (hp : (PF.impl_badLeaf_1 a0 b0 b1 b2) = some r) :
  Calls Tryz.prog 218 #[Value.int .i64 a0, Value.pointer (some q0), Value.pointer (some q1), Value.pointer (some q2)] wa (Sc Ha wa (Value.bool r)) := by
 unfold PF.impl_badLeaf_1 at hp
 have S0 := St.init hs
 refine calls_go (N := 30) (args := [Value.int .i64 a0, Value.pointer (some q0), Value.pointer (some q1), Value.pointer (some q2)]) Tryz.func218 rfl rfl rfl ?_
 refine FW.seq (FW.region ?_)
 refine FL.v (E.assign (v := Value.bool false) rfl) ?_
 refine FL.nil (FW.seq (FW.region ?_))
 refine FL.v (E.load rfl (run_load0 Tryz.isAgg56 (c0.now S0.sl) rfl)) ?_
 refine FL.v (E.move (v := Value.int .i64 a0) rfl) ?_
 refine FL.v (E.sub rfl rfl) ?_
 obtain ⟨x27, hx28, hp⟩ := bnd hp
 obtain ⟨p21, cs22, pt23, l24, at25, rel26⟩ := g0_0.at hx28
 obtain rfl := eTreeNode_open rel26
 refine FL.v (E.indexAddr te56 rfl rfl pt23) ?_
 refine FL.v (E.load rfl (run_loadA Tryz.isAgg98 Tryz.sizeOf98 (at25.now S0.sl) rfl)) ?_
 obtain ⟨b29, w30, run31, S32⟩ := S0.alloc (P := Tryz.prog) 98 [Value.int .i64 0, Value.int .i64 0, Value.int .i64 0, Value.int .i64 0] Tryz.zeroValue98 rfl (ones_cons rfl (ones_cons rfl (ones_cons rfl (ones_cons rfl ones_nil))))
 refine FL.v (E.alloc run31) ?_
 obtain ⟨w33, run34, S35⟩ := S32.store0 (P := Tryz.prog) (t := 98) (i := 0) (cs' := [Value.int .i64 x27.var, Value.int .i64 x27.low, Value.int .i64 x27.high, Value.int .i64 x27.clause]) (l' := [.box b29 98 [Value.int .i64 x27.var, Value.int .i64 x27.low, Value.int .i64 x27.high, Value.int .i64 x27.clause]]) (v := Value.agg #[Value.int .i64 x27.var, Value.int .i64 x27.low, Value.int .i64 x27.high, Value.int .i64 x27.clause]) (c := [Value.int .i64 x27.var, Value.int .i64 x27.low, Value.int .i64 x27.high, Value.int .i64 x27.clause]) rfl Tryz.sizeOf98 rfl rfl (ones_cons rfl (ones_cons rfl (ones_cons rfl (ones_cons rfl ones_nil)))) (Nat.le_of_ble_eq_true rfl) rfl rfl
 refine FL.act rfl rfl (E.store rfl rfl run34) ?_
 obtain ⟨H36, S37, i38, at39⟩ := S35.sealBox (i := 0) (l' := []) rfl rfl
 refine FL.nil (FW.seq ?_)
 refine FW.draw (fun w' => Run w33.heap.size H36 w33 H36 w') (by kernel_rfl) (by kernel_rfl) (run_drew S37.sl) ?_
 refine FD.val rfl rfl rfl (fun w' hw' => (E.fieldAddr tf98_0 rfl)) ?_
 refine FD.val rfl rfl rfl (fun w' hw' => (E.load rfl (run_load1 Tryz.isAgg3 (at39.now (S37.call hw').sl) rfl))) ?_
 refine FD.val rfl rfl rfl (fun w' hw' => (E.eql rfl rfl)) ?_
 refine FD.val rfl rfl rfl (fun w' hw' => (E.move (v := Value.bool (x27.var == 0)) rfl)) ?_
 obtain ⟨t63, hqt63, hp⟩ := bnd hp
 refine FD.cut 14 (fun f => f 29 = Value.bool t63) ?_ ?_
 ·
  clear hp; have hp := hqt63; clear hqt63
  rcases ifB hp with ⟨c69, hp⟩ | ⟨c69, hp⟩
  ·
   refine FD.val (wF_yes rfl rfl rfl c69) rfl rfl (fun w' hw' => (E.fieldAddr tf30_1 rfl)) ?_
   refine FD.val (wF_yes rfl rfl rfl c69) rfl rfl (fun w' hw' => (E.load rfl (run_load1 Tryz.isAgg22 ((c1.mono i38).now (S37.call hw').sl) rfl))) ?_
   refine FD.val (wF_yes rfl rfl rfl c69) rfl rfl (fun w' hw' => (E.fieldAddr tf98_3 rfl)) ?_
   refine FD.val (wF_yes rfl rfl rfl c69) rfl rfl (fun w' hw' => (E.load rfl (run_load1 Tryz.isAgg3 (at39.now (S37.call hw').sl) rfl))) ?_
   obtain ⟨x76, hx77, hp⟩ := bnd hp
   obtain ⟨p70, cs71, pt72, l73, at74, rel75⟩ := g1_1.at hx77
   obtain ⟨v78, rfl, h79⟩ := eL_open rel75
   refine FD.val (wF_yes rfl rfl rfl c69) rfl rfl (fun w' hw' => (E.indexAddr te22 rfl rfl pt72)) ?_
   refine FD.val (wF_yes rfl rfl rfl c69) rfl rfl (fun w' hw' => (E.load rfl (run_load0 Tryz.isAgg84 ((at74.mono i38).now (S37.call hw').sl) rfl))) ?_
   refine FD.val (wF_yes rfl rfl rfl c69) rfl rfl (fun w' hw' => (E.load rfl (run_load0 Tryz.isAgg22 ((c2.mono i38).now (S37.call hw').sl) rfl))) ?_
   refine FD.val (wF_yes rfl rfl rfl c69) rfl rfl (fun w' hw' => (E.move (v := Value.int .i64 a0) rfl)) ?_
   refine FD.val (wF_yes rfl rfl rfl c69) rfl rfl (fun w' hw' => (E.sub rfl rfl)) ?_
   obtain ⟨x86, hx87, hp⟩ := bnd hp
   obtain ⟨p80, cs81, pt82, l83, at84, rel85⟩ := g2_0.at hx87
   obtain ⟨v88, rfl, h89⟩ := eL_open rel85
   refine FD.val (wF_yes rfl rfl rfl c69) rfl rfl (fun w' hw' => (E.indexAddr te22 rfl rfl pt82)) ?_
   refine FD.val (wF_yes rfl rfl rfl c69) rfl rfl (fun w' hw' => (E.load rfl (run_load0 Tryz.isAgg84 ((at84.mono i38).now (S37.call hw').sl) rfl))) ?_
   obtain ⟨r90, hr91, hp⟩ := bnd hp
   refine FD.call (wF_yes rfl rfl rfl c69) rfl rfl (fun w' hw' => (E.call Tryz.call219 (A2 rfl rfl))) (fun w' hw' => Calls.cls hw' (w_impl_clauseValue (S37.call hw').sl v78 x76 (h79.mono i38) v88 x86 (h89.mono i38) hr91)) ?_
   refine FD.val (wF_yes rfl rfl rfl c69) rfl rfl (fun w' hw' => (E.geq rfl rfl)) ?_
   obtain rfl := Option.some.inj hp
   refine FD.val rfl rfl rfl (fun w' hw' => (E.pickT rfl c69 rfl)) ?_
   exact FD.nil rfl
  ·
   refine FD.skip (wF_no rfl rfl rfl c69) rfl ?_
   refine FD.skip (wF_no rfl rfl rfl c69) rfl ?_
   refine FD.skip (wF_no rfl rfl rfl c69) rfl ?_
   refine FD.skip (wF_no rfl rfl rfl c69) rfl ?_
   refine FD.skip (wF_no rfl rfl rfl c69) rfl ?_
   refine FD.skip (wF_no rfl rfl rfl c69) rfl ?_
   refine FD.skip (wF_no rfl rfl rfl c69) rfl ?_
   refine FD.skip (wF_no rfl rfl rfl c69) rfl ?_
   refine FD.skip (wF_no rfl rfl rfl c69) rfl ?_
   refine FD.skip (wF_no rfl rfl rfl c69) rfl ?_
   refine FD.skip (wF_no rfl rfl rfl c69) rfl ?_
   refine FD.skip (wF_no rfl rfl rfl c69) rfl ?_
   refine FD.skip (wF_no rfl rfl rfl c69) rfl ?_
   obtain rfl := Option.some.inj hp
   refine FD.val rfl rfl rfl (fun w' hw' => (E.pickF rfl c69 rfl)) ?_
   exact FD.nil rfl
 intro f68 k92
 refine FD.val rfl rfl rfl (fun w' hw' => (E.assign k92)) ?_
 refine FD.nil ?_
 intro w93 r95
 have S94 := S37.call r95
 refine FW.ret ?_
 obtain rfl := Option.some.inj hp
 exact ⟨.inr rfl, res1 rfl rfl ⟨rfl, S94.back⟩⟩

theorem w_impl_badLeaf {Ha : GH} {wa : World} (hs : Sl Ha wa) (a0 : Cnf) (v0_1 : Value) (p0_1 : RSl Ha (eL eI 1) 1 v0_1 a0.clauses) (v1 : Value) (a1 : List TreeNode) (p1 : RSl Ha eTreeNode 4 v1 a1) {r : Int} (hp : (PF.impl_badLeaf a0 a1) = some r) :
  Calls Tryz.prog 178 #[Value.agg #[Value.int .i64 a0.vars, v0_1], v1] wa (Sc Ha wa (Value.int .i64 r)) := by
 unfold PF.impl_badLeaf at hp
 have S0 := St.init hs
 refine calls_go (N := 17) (args := [Value.agg #[Value.int .i64 a0.vars, v0_1], v1]) Tryz.func178 rfl rfl rfl ?_
 refine FW.seq (FW.region ?_)
 obtain ⟨b21, w22, run23, S24⟩ := S0.box (P := Tryz.prog) 30 [Value.int .i64 a0.vars, v0_1] (v := Value.agg #[Value.int .i64 a0.vars, v0_1]) rfl (ones_cons rfl (ones_cons p0_1.one ones_nil))
 refine FL.v (E.box rfl run23) ?_
 obtain ⟨H25, S26, i27, at28⟩ := S24.sealBox (i := 0) (l' := []) rfl rfl
 obtain ⟨b29, w30, run31, S32⟩ := S26.box (P := Tryz.prog) 56 [v1] (v := v1) p1.cells (ones_cons p1.one ones_nil)
 refine FL.v (E.box rfl run31) ?_
 obtain ⟨H33, S34, i35, at36⟩ := S32.sealBox (i := 0) (l' := []) rfl rfl
 refine FL.v (E.assign (v := Value.int .i64 0) rfl) ?_
 refine FL.nil (FW.seq (FW.region ?_))
 refine FL.v (E.load rfl (run_load0 Tryz.isAgg56 (at36.now S34.sl) rfl)) ?_
 obtain ⟨r37, hr38, hp⟩ := bnd hp
 refine FL.call rfl rfl rfl (E.call Tryz.call215 (A1 rfl)) (w_impl_paths S34.sl v1 a1 (p1.mono (i27.tr i35)) hr38) ?_
 rintro e w40 ⟨H39, v43, n44, cs45, rfl, r42, els46, nd47⟩
 refine ⟨_, rfl, ?_⟩
 have nv48 : New H33 cs45 := New.of_up S34.sl els46.dom
 have els46 := els46.mono (up_le S34.size)
 have S41 := S34.join (l' := [.row 84 1 v43 n44 cs45]) r42 rfl
 refine FL.v (E.move (v := Value.tuple #[v43, Value.bool r37.2]) rfl) ?_
 refine FL.v (E.extract (i := 0) rfl rfl) ?_
 refine FL.v (E.extract (i := 1) rfl rfl) ?_
 obtain ⟨b49, w50, run51, S52⟩ := S41.alloc (P := Tryz.prog) 22 [Value.slice none 0 0] Tryz.zeroValue22 rfl (ones_cons rfl ones_nil)
 refine FL.v (E.alloc run51) ?_
 obtain ⟨w53, run54, S55⟩ := S52.store0 (P := Tryz.prog) (t := 22) (i := 0) (cs' := [v43]) (l' := [.box b49 22 [v43], .row 84 1 v43 n44 cs45]) (v := v43) (c := [v43]) rfl Tryz.sizeOf22 (Ln.cells (S52.row_ln (i := 1) rfl)) rfl (ones_cons (Ln.one (S52.row_ln (i := 1) rfl)) ones_nil) (Nat.le_of_ble_eq_true rfl) rfl rfl
 refine FL.act rfl rfl (E.store rfl rfl run54) ?_
 obtain ⟨H56, S57, i58, ns61, nv60⟩ := S55.sealRowN (i := 1) (l' := [.box b49 22 [v43]]) rfl els46 nd47 (by decide) rfl
 have h59 := ns61.rsl
 obtain ⟨H62, S63, i64, at65⟩ := S57.sealBox (i := 0) (l' := []) rfl rfl
 refine FL.v (E.assign (v := Value.bool r37.2) rfl) ?_
 refine FL.nil (FW.seq (FW.region ?_))
 refine FL.v (E.load rfl (run_load0 Tryz.isAgg56 ((at36.mono ((r42.run.inc.tr i58).tr i64)).now S63.sl) rfl)) ?_
 refine FL.v (E.lenP te56 rfl p1) ?_
 obtain ⟨r66, hr67, hp⟩ := bnd hp
 refine FL.call rfl rfl rfl (E.call Tryz.call217 (A1 rfl)) (w_impl_upTo S63.sl (len a1) hr67) ?_
 rintro e w69 ⟨H68, v72, n73, cs74, rfl, r71, els75⟩
 refine ⟨_, rfl, ?_⟩
 have els75 := els75.mono (up_le S63.size)
 have S70 := S63.join (l' := [.row 3 1 v72 n73 cs74]) r71 rfl
 refine FL.v (E.makeFunc A0 (A3 rfl rfl rfl)) ?_
 obtain ⟨H76, S77, i78, h79, nv80⟩ := S70.sealRowU (i := 0) (l' := []) rfl els75 (by decide) rfl
 obtain ⟨r81, hr82, hp⟩ := bnd hp
 refine FL.call rfl rfl rfl (E.call Tryz.call216 (A2 rfl rfl)) (w_slices_IndexFunc_int_int S77.sl v72 r66 (h79.mono upI) (Value.func (.func 218) #[] #[Value.pointer (some ⟨b29, 0, none⟩), Value.pointer (some ⟨b21, 0, none⟩), Value.pointer (some ⟨b49, 0, none⟩)]) (fun x0 => PF.impl_badLeaf_1 x0 a1 a0 r37.1) (fun H2 w2 hi2 hs2 x0 r hr => ⟨218, #[Value.pointer (some ⟨b29, 0, none⟩), Value.pointer (some ⟨b21, 0, none⟩), Value.pointer (some ⟨b49, 0, none⟩)], rfl, Tryz.call218, w_impl_badLeaf_1 hs2 x0 ⟨b29, 0, none⟩ a1 v1 ((p1.mono ((((((i27.tr i35).tr r42.run.inc).tr i58).tr i64).tr r71.run.inc).tr i78)).mono hi2) ((at36.mono ((((r42.run.inc.tr i58).tr i64).tr r71.run.inc).tr i78)).mono hi2) ⟨b21, 0, none⟩ a0 v0_1 ((p0_1.mono ((((((i27.tr i35).tr r42.run.inc).tr i58).tr i64).tr r71.run.inc).tr i78)).mono hi2) ((at28.mono (((((i35.tr r42.run.inc).tr i58).tr i64).tr r71.run.inc).tr i78)).mono hi2) ⟨b49, 0, none⟩ r37.1 v43 ((h59.mono (upI.tr ((i64.tr r71.run.inc).tr i78))).mono hi2) ((at65.mono (r71.run.inc.tr i78)).mono hi2) hr⟩) hr82) ?_
 rintro e w83 ⟨rfl, r84⟩
 refine ⟨_, rfl, ?_⟩
 have r84 := Run.lend i78 S70.sl r84
 have S85 := S70.call r84
 refine FL.v (E.assign (v := Value.int .i64 r81) rfl) ?_
 refine FL.nil ?_
 refine FW.ret ?_
 obtain rfl := Option.some.inj hp
 exact ⟨.inr rfl, res1 rfl rfl ⟨rfl, S85.back⟩⟩

theorem w_impl_IsSearchTree {Ha : GH} {wa : World} (hs : Sl Ha wa) (a0 : Cnf) (v0_1 : Value) (p0_1 : RSl Ha (eL eI 1) 1 v0_1 a0.clauses) (v1 : Value) (a1 : List TreeNode) (p1 : RSl Ha eTreeNode 4 v1 a1) {r : (Bool × Bool)} (hp : (PF.impl_IsSearchTree a0 a1) = some r) :
  Calls Tryz.prog 118 #[Value.agg #[Value.int .i64 a0.vars, v0_1], v1] wa (Sc Ha wa (Value.tuple #[Value.bool r.1, Value.bool r.2])) := by
 unfold PF.impl_IsSearchTree at hp
 have S0 := St.init hs
 refine calls_go (N := 14) (args := [Value.agg #[Value.int .i64 a0.vars, v0_1], v1]) Tryz.func118 rfl rfl rfl ?_
 refine FW.seq (FW.region ?_)
 obtain ⟨b21, w22, run23, S24⟩ := S0.box (P := Tryz.prog) 30 [Value.int .i64 a0.vars, v0_1] (v := Value.agg #[Value.int .i64 a0.vars, v0_1]) rfl (ones_cons rfl (ones_cons p0_1.one ones_nil))
 refine FL.v (E.box rfl run23) ?_
 obtain ⟨H25, S26, i27, at28⟩ := S24.sealBox (i := 0) (l' := []) rfl rfl
 refine FL.v (E.assign (v := Value.bool false) rfl) ?_
 refine FL.v (E.assign (v := Value.bool false) rfl) ?_
 refine FL.nil (FW.seq (FW.seq (FW.region ?_)))
 refine FL.v (E.load rfl (run_loadA Tryz.isAgg30 Tryz.sizeOf30 (at28.now S26.sl) rfl)) ?_
 refine FL.v (E.move (v := v1) rfl) ?_
 obtain ⟨r29, hr30, hp⟩ := bnd hp
 refine FL.call rfl rfl rfl (E.call Tryz.call177 (A2 rfl rfl)) (w_impl_IsTree S26.sl a0 v0_1 (p0_1.mono i27) v1 a1 (p1.mono i27) hr30) ?_
 rintro e w31 ⟨rfl, r32⟩
 refine ⟨_, rfl, ?_⟩
 have S33 := S26.call r32
 refine FL.v (E.not rfl) ?_
 refine FL.nil ?_
 rcases ifB hp with ⟨c34, hp⟩ | ⟨c34, hp⟩
 ·
  refine FW.condT rfl c34 ?_
  refine FW.seq (FW.region ?_)
  refine FL.v (E.assign (v := Value.bool false) rfl) ?_
  refine FL.v (E.assign (v := Value.bool false) rfl) ?_
  refine FL.nil ?_
  refine FW.ret ?_
  obtain rfl := Option.some.inj hp
  exact ⟨.inr rfl, res2 rfl rfl rfl ⟨rfl, S33.back⟩⟩
 ·
  refine FW.condF rfl c34 ?_
  refine FW.skip (FW.seq (FW.region ?_))
  refine FL.v (E.load rfl (run_loadA Tryz.isAgg30 Tryz.sizeOf30 (at28.now S33.sl) rfl)) ?_
  refine FL.v (E.move (v := v1) rfl) ?_
  obtain ⟨r35, hr36, hp⟩ := bnd hp
  refine FL.call rfl rfl rfl (E.call Tryz.call178 (A2 rfl rfl)) (w_impl_badLeaf S33.sl a0 v0_1 (p0_1.mono i27) v1 a1 (p1.mono i27) hr36) ?_
  rintro e w37 ⟨rfl, r38⟩
  refine ⟨_, rfl, ?_⟩
  have S39 := S33.call r38
  refine FL.v (E.lss rfl rfl) ?_
  refine FL.v (E.assign (v := Value.bool (decide (r35 < 0))) rfl) ?_
  refine FL.v (E.assign (v := Value.bool true) rfl) ?_
  refine FL.nil ?_
  refine FW.ret ?_
  obtain rfl := Option.some.inj hp
  exact ⟨.inr rfl, res2 rfl rfl rfl ⟨rfl, S39.back⟩⟩

theorem w_impl_searchTree {Ha : GH} {wa : World} (hs : Sl Ha wa) (a0 : Cnf) (v0_1 : Value) (p0_1 : RSl Ha (eL eI 1) 1 v0_1 a0.clauses) (v1 : Value) (a1 : List TreeNode) (p1 : RSl Ha eTreeNode 4 v1 a1) {r : Bool} (hp : (PF.impl_searchTree a0 a1) = some r) :
  Calls Tryz.prog 66 #[Value.agg #[Value.int .i64 a0.vars, v0_1], v1] wa (Sc Ha wa (Value.bool r)) := by
 unfold PF.impl_searchTree at hp
 have S0 := St.init hs
 refine calls_go (N := 14) (args := [Value.agg #[Value.int .i64 a0.vars, v0_1], v1]) Tryz.func66 rfl rfl rfl ?_
 refine FW.seq (FW.region ?_)
 obtain ⟨b21, w22, run23, S24⟩ := S0.box (P := Tryz.prog) 30 [Value.int .i64 a0.vars, v0_1] (v := Value.agg #[Value.int .i64 a0.vars, v0_1]) rfl (ones_cons rfl (ones_cons p0_1.one ones_nil))
 refine FL.v (E.box rfl run23) ?_
 obtain ⟨H25, S26, i27, at28⟩ := S24.sealBox (i := 0) (l' := []) rfl rfl
 refine FL.v (E.assign (v := Value.bool false) rfl) ?_
 refine FL.nil (FW.seq (FW.region ?_))
 refine FL.v (E.load rfl (run_loadA Tryz.isAgg30 Tryz.sizeOf30 (at28.now S26.sl) rfl)) ?_
 refine FL.v (E.move (v := v1) rfl) ?_
 obtain ⟨r29, hr30, hp⟩ := bnd hp
 refine FL.call rfl rfl rfl (E.call Tryz.call118 (A2 rfl rfl)) (w_impl_IsSearchTree S26.sl a0 v0_1 (p0_1.mono i27) v1 a1 (p1.mono i27) hr30) ?_
 rintro e w31 ⟨rfl, r32⟩
 refine ⟨_, rfl, ?_⟩
 have S33 := S26.call r32
 refine FL.v (E.move (v := Value.tuple #[Value.bool r29.1, Value.bool r29.2]) rfl) ?_
 refine FL.v (E.extract (i := 0) rfl rfl) ?_
 refine FL.v (E.extract (i := 1) rfl rfl) ?_
 refine FL.v (E.assign (v := Value.bool r29.1) rfl) ?_
 refine FL.v (E.assign (v := Value.bool r29.2) rfl) ?_
 refine FL.nil (FW.seq (FW.region ?_))
 refine FL.v (E.move (v := Value.bool r29.1) rfl) ?_
 refine FL.v (E.assign (v := Value.bool r29.1) rfl) ?_
 refine FL.nil ?_
 refine FW.ret ?_
 obtain rfl := Option.some.inj hp
 exact ⟨.inr rfl, res1 rfl rfl ⟨rfl, S33.back⟩⟩

@[reducible] def p_slices_Grow_int_int (Ha : GH) (wa : World) (r : List Int) : Ending → World → Prop :=
  fun e w' => ∃ H' : GH, ∃ v0 : Value, ∃ n0 : Nat, ∃ c0 : List Value, e = .returned (v0) ∧ St Ha wa H' w' [.row 3 1 v0 n0 c0] ∧ Els (up wa.heap.size H') eI 1 c0 r
theorem w_slices_Grow_int_int {Ha : GH} {wa : World} (hs : Sl Ha wa) (a1 : Int) {r : List Int} (hp : PF.slices_Grow_int_int a1 = some r) :
    Calls Tryz.prog 237 #[.slice none 0 0, .int .i64 a1] wa (p_slices_Grow_int_int Ha wa r) := by
  unfold PF.slices_Grow_int_int at hp
  split at hp
  · rename_i h
    cases hp
    refine (growNil (En := eI) te84 hs h.1 h.2 (fun w => Any8.slices_Grow_room (P := Tryz.prog) Tryz.grow237 none 0 0 0 w (Nat.le_refl _) (by decide) (by decide) (by decide))
      (fun n w h0 hl => ?_)).mono ?_
    · have h := Any8.slices_Grow_grow (P := Tryz.prog) Tryz.grow237 _ _ Tryz.type3 rfl (by decide) none 0 0 n [] w (Nat.le_refl _) (by omega) ?_ (by unfold lim at hl; omega) (by simp) (fun _ => rfl) (by simp)
      · refine h.mono ?_
        rintro _ _ ⟨rfl, rfl⟩
        refine ⟨by simp; rfl, ?_⟩
        simp
        rfl
      · rw [Nat.zero_add]; refine Nat.le_trans (Nat.mul_le_mul hl (show _ ≤ 4096 by decide)) (by decide)
    · rintro e w' ⟨v, n, c, rfl, h1, h2⟩
      exact ⟨_, _, _, _, rfl, h1, h2 _⟩
  · cases hp

@[reducible] def p_slices_Concat_int_int (Ha : GH) (wa : World) (r : (List Int)) : Ending → World → Prop :=
  fun e w' => ∃ H' : GH, ∃ v0 : Value, ∃ n0 : Nat, ∃ c0 : List Value, e = .returned (v0) ∧ St Ha wa H' w' [.row 3 1 v0 n0 c0] ∧ Els (up wa.heap.size H') eI 1 c0 r
theorem w_slices_Concat_int_int {Ha : GH} {wa : World} (hs : Sl Ha wa) (v0 : Value) (a0 : List (List Int)) (p0 : RSl Ha (eL eI 1) 1 v0 a0) {r : (List Int)} (hp : (PF.slices_Concat_int_int a0) = some r) :
    Calls Tryz.prog 221 #[v0] wa (p_slices_Concat_int_int Ha wa r) := by
  unfold PF.slices_Concat_int_int at hp
  have S0 := St.init hs
  refine calls_go (N := 36) (args := [v0]) Tryz.func221 rfl rfl rfl ?_
  refine FW.seq (FW.region ?_)
  refine FL.v (E.assign (v := Value.slice none 0 0) rfl) ?_
  refine FL.nil (FW.seq (FW.region ?_))
  refine FL.v (E.assign (v := Value.int .i64 0) rfl) ?_
  refine FL.nil (FW.seq (FW.seq (FW.region ?_)))
  refine FL.v (E.move (v := v0) rfl) ?_
  refine FL.v (E.lenP te22 rfl p0) ?_
  refine FL.v (E.move (v := Value.int .i64 0) rfl) ?_
  refine FL.nil ?_
  obtain ⟨q22, hq, hp⟩ := bndR hp
  refine FW.block ?_
  refine FW.mono (FW.forL (S := Int) (X := Empty) (fun (i22 : Nat) (s22 : Int) f w => ∃ H : GH, St Ha wa H w [] ∧ Inc Ha H ∧ f 11 = Value.int .i64 ((i22 : Nat) : Int) ∧ f 0 = v0 ∧ f 3 = Value.int .i64 s22 ∧ f 9 = v0 ∧ f 10 = Value.int .i64 (len a0)) (fun (q : Rs Int Empty) e f w => match q with | .go s22 => e = Exit.exit 0 ∧ (∃ H : GH, St Ha wa H w [] ∧ Inc Ha H ∧ f 0 = v0 ∧ f 3 = Value.int .i64 s22) | .rt x => x.elim) hq ⟨_, S0, (Inc.rfl _), rfl, rfl, rfl, rfl, rfl⟩ ?_ ?_) ?_
  ·
    clear hp hq
    rintro i22 y21 s22 f46 w45 ⟨H42, S43, i44, k47, k48, k49, k50, k51⟩ hx22 o61 hp
    refine FW.seq (FW.region ?_)
    refine FL.v (E.lssT k47 k51 (lss_len hx22)) ?_
    refine FL.nil (FW.seq ?_)
    refine FW.condT rfl rfl ?_
    refine FW.skip (FW.seq (FW.block (FW.seq (FW.region ?_))))
    obtain ⟨p52, cs53, pt54, l55, at56, rel57⟩ := p0.at (ix_nat hx22)
    obtain ⟨v58, rfl, h59⟩ := eL_open rel57
    refine FL.v (E.indexAddr te22 k50 k47 pt54) ?_
    refine FL.v (E.load rfl (run_load0 Tryz.isAgg84 ((at56.mono i44).now S43.sl) rfl)) ?_
    refine FL.v (E.assign (v := v58) rfl) ?_
    refine FL.nil (FW.seq (FW.region ?_))
    refine FL.v (E.move k49) ?_
    refine FL.v (E.move (v := v58) rfl) ?_
    refine FL.v (E.lenP te84 rfl h59) ?_
    refine FL.v (E.add rfl rfl) ?_
    refine FL.v (E.assign (v := Value.int .i64 (wr (s22 + (len y21)))) rfl) ?_
    refine FL.nil (FW.seq (FW.region ?_))
    refine FL.v (E.move (v := Value.int .i64 (wr (s22 + (len y21)))) rfl) ?_
    refine FL.v (E.lss rfl rfl) ?_
    refine FL.nil ?_
    rcases ifB hp with ⟨c60, hp⟩ | ⟨c60, hp⟩
    ·
      refine FW.condT rfl c60 ?_
      cases hp
    ·
      refine FW.condF rfl c60 ?_
      refine FW.skip (FW.region ?_)
      refine FL.v (E.add k47 rfl) ?_
      refine FL.v (E.move (v := Value.int .i64 (wr (((i22 : Nat) : Int) + 1))) rfl) ?_
      refine FL.nil ?_
      obtain rfl := Option.some.inj hp
      exact ⟨rfl, ⟨_, S43, i44, (nat_succ rfl (lt_of_get hx22) (p0.mono i44).le), k48, rfl, k50, k51⟩⟩
  ·
    clear hp hq
    rintro s22 f159 w158 ⟨H155, S156, i157, k160, k161, k162, k163, k164⟩
    refine FW.seq (FW.region ?_)
    refine FL.v (E.lss k160 k164) ?_
    refine FL.nil (FW.seq ?_)
    refine FW.condF rfl dlt_len ?_
    refine FW.exit ?_
    exact ⟨nofun, rfl, ⟨_, S156, i157, k161, k162⟩⟩
  ·
    clear hq
    intro e f66 w65 hD
    rcases q22 with s22 | x22
    ·
      obtain ⟨rfl, hD⟩ := hD
      obtain ⟨H62, S63, i64, k67, k68⟩ := hD
      replace hp := el_go hp
      refine FW.seq (FW.region ?_)
      refine FL.v (E.move k68) ?_
      obtain ⟨r69, hr70, hp⟩ := bnd hp
      refine FL.call rfl rfl rfl (E.call Tryz.call237 (A2 rfl rfl)) (w_slices_Grow_int_int S63.sl s22 hr70) ?_
      rintro e w72 ⟨H71, v75, n76, cs77, rfl, r74, els78⟩
      refine ⟨_, rfl, ?_⟩
      have els78 := els78.mono (up_le S63.size)
      have S73 := S63.join (l' := [.row 3 1 v75 n76 cs77]) r74 rfl
      refine FL.v (E.assign (v := v75) rfl) ?_
      refine FL.nil (FW.seq (FW.seq (FW.region ?_)))
      refine FL.v (E.move k67) ?_
      refine FL.v (E.lenP te22 rfl p0) ?_
      refine FL.v (E.move (v := Value.int .i64 0) rfl) ?_
      refine FL.nil ?_
      obtain ⟨q80, hq, hp⟩ := bndR hp
      refine FW.block ?_
      refine FW.mono (FW.forL (S := (List Int)) (X := Empty) (fun (i80 : Nat) (s80 : (List Int)) f w => ∃ H : GH, ∃ v81 : Value, ∃ n82 : Nat, ∃ cs83 : List Value, St Ha wa H w [.row 3 1 v81 n82 cs83] ∧ Inc H71 H ∧ Els (up wa.heap.size H) eI 1 cs83 s80 ∧ f 27 = Value.int .i64 ((i80 : Nat) : Int) ∧ f 6 = v81 ∧ f 25 = v0 ∧ f 26 = Value.int .i64 (len a0)) (fun (q : Rs (List Int) Empty) e f w => match q with | .go s80 => e = Exit.exit 2 ∧ (∃ H : GH, ∃ v81 : Value, ∃ n82 : Nat, ∃ cs83 : List Value, St Ha wa H w [.row 3 1 v81 n82 cs83] ∧ Inc H71 H ∧ Els (up wa.heap.size H) eI 1 cs83 s80 ∧ f 6 = v81) | .rt x => x.elim) hq ⟨_, _, _, _, S73, (Inc.rfl _), els78, rfl, rfl, rfl, rfl⟩ ?_ ?_) ?_
      ·
        clear hp hq
        rintro i80 y79 s80 f116 w115 ⟨H112, v81, n82, cs83, S113, i114, els84, k117, k118, k119, k120⟩ hx80 o139 hp
        refine FW.seq (FW.region ?_)
        refine FL.v (E.lssT k117 k120 (lss_len hx80)) ?_
        refine FL.nil (FW.seq ?_)
        refine FW.condT rfl rfl ?_
        refine FW.skip (FW.seq (FW.block (FW.seq (FW.region ?_))))
        obtain ⟨p121, cs122, pt123, l124, at125, rel126⟩ := p0.at (ix_nat hx80)
        obtain ⟨v127, rfl, h128⟩ := eL_open rel126
        refine FL.v (E.indexAddr te22 k119 k117 pt123) ?_
        refine FL.v (E.load rfl (run_load0 Tryz.isAgg84 ((at125.mono ((i64.tr r74.run.inc).tr i114)).now S113.sl) rfl)) ?_
        refine FL.v (E.assign (v := v127) rfl) ?_
        refine FL.nil (FW.region ?_)
        refine FL.v (E.move k118) ?_
        refine FL.v (E.move (v := v127) rfl) ?_
        obtain ⟨xs129, hz130, hp⟩ := bnd hp
        obtain ⟨v131, w134, n132, cs133, run135, S136, els137⟩ := S113.appendP (P := Tryz.prog) (Inc.rfl _) te84 (i := 0) rfl (els84.mono upI) (h128.mono ((i64.tr r74.run.inc).tr i114)) hz130
        have S136 : St Ha wa H112 w134 [.row 3 1 v131 n132 cs133] := S136
        have els137 : Els (up wa.heap.size H112) eI 1 cs133 xs129 := els137.any (fun _ _ _ _ h => h)
        refine FL.v (E.append rfl rfl run135) ?_
        refine FL.v (E.assign (v := v131) rfl) ?_
        refine FL.nil (FW.region ?_)
        refine FL.v (E.add k117 rfl) ?_
        refine FL.v (E.move (v := Value.int .i64 (wr (((i80 : Nat) : Int) + 1))) rfl) ?_
        refine FL.nil ?_
        obtain rfl := Option.some.inj hp
        exact ⟨rfl, ⟨_, _, _, _, S136, i114, els137, (nat_succ rfl (lt_of_get hx80) (p0.mono ((i64.tr r74.run.inc).tr i114)).le), rfl, k119, k120⟩⟩
      ·
        clear hp hq
        rintro s80 f150 w149 ⟨H146, v81, n82, cs83, S147, i148, els84, k151, k152, k153, k154⟩
        refine FW.seq (FW.region ?_)
        refine FL.v (E.lss k151 k154) ?_
        refine FL.nil (FW.seq ?_)
        refine FW.condF rfl dlt_len ?_
        refine FW.exit ?_
        exact ⟨nofun, rfl, ⟨_, _, _, _, S147, i148, els84, k152⟩⟩
      ·
        clear hq
        intro e f144 w143 hD
        rcases q80 with s80 | x80
        ·
          obtain ⟨rfl, hD⟩ := hD
          obtain ⟨H140, v81, n82, cs83, S141, i142, els84, k145⟩ := hD
          replace hp := el_go hp
          refine FW.seq (FW.region ?_)
          refine FL.v (E.move k145) ?_
          refine FL.v (E.assign (v := v81) rfl) ?_
          refine FL.nil ?_
          refine FW.ret ?_
          obtain rfl := Option.some.inj hp
          exact ⟨.inr rfl, res1 rfl rfl ⟨_, _, _, _, rfl, S141, els84⟩⟩
        · exact x80.elim
    · exact x22.elim

@[reducible] def p_impl_resolve (Ha : GH) (wa : World) (r : ((List Int) × Bool)) : Ending → World → Prop :=
 fun e w' => ∃ H' : GH, ∃ v0 : Value, ∃ n0 : Nat, ∃ c0 : List Value, e = .returned (Value.tuple #[v0, Value.bool r.2]) ∧ St Ha wa H' w' [.row 3 1 v0 n0 c0] ∧ Els (up wa.heap.size H') eI 1 c0 r.1
theorem w_impl_resolve {Ha : GH} {wa : World} (hs : Sl Ha wa) (v0 : Value) (a0 : List Int) (p0 : RSl Ha eI 1 v0 a0) (v1 : Value) (a1 : List Int) (p1 : RSl Ha eI 1 v1 a1) (a2 : Int) {r : ((List Int) × Bool)} (hp : (PF.impl_resolve a0 a1 a2) = some r) :
  Calls Tryz.prog 179 #[v0, v1, Value.int .i64 a2] wa (p_impl_resolve Ha wa r) := by
 unfold PF.impl_resolve at hp
 have S0 := St.init hs
 refine calls_go (N := 30) (args := [v0, v1, Value.int .i64 a2]) Tryz.func179 rfl rfl rfl ?_
 refine FW.seq (FW.region ?_)
 refine FL.v (E.assign (v := Value.slice none 0 0) rfl) ?_
 refine FL.v (E.assign (v := Value.bool false) rfl) ?_
 refine FL.nil (FW.seq (FW.seq (FW.region ?_)))
 refine FL.v (E.move (v := v0) rfl) ?_
 refine FL.v (E.move (v := Value.int .i64 a2) rfl) ?_
 obtain ⟨r21, hr22, hp⟩ := bnd hp
 refine FL.call rfl rfl rfl (E.call Tryz.call129 (A2 rfl rfl)) (w_slices_Contains_int_int S0.sl v0 a0 p0 a2 hr22) ?_
 rintro e w23 ⟨rfl, r24⟩
 refine ⟨_, rfl, ?_⟩
 have S25 := S0.call r24
 refine FL.v (E.not rfl) ?_
 refine FL.v (E.move (v := Value.bool (!r21)) rfl) ?_
 obtain ⟨t31, hqt31, hp⟩ := bnd hp
 refine FL.cut 6 (fun f w => ∃ H : GH, St Ha wa H w [] ∧ Inc Ha H ∧ f 0 = v0 ∧ f 1 = v1 ∧ f 2 = Value.int .i64 a2 ∧ f 18 = Value.bool t31) ?_ ?_
 ·
  clear hp; have hp := hqt31; clear hqt31
  rcases ifB hp with ⟨c37, hp⟩ | ⟨c37, hp⟩
  ·
   refine FL.skip (wF_no rfl rfl rfl c37) rfl ?_
   refine FL.skip (wF_no rfl rfl rfl c37) rfl ?_
   refine FL.skip (wF_no rfl rfl rfl c37) rfl ?_
   refine FL.skip (wF_no rfl rfl rfl c37) rfl ?_
   refine FL.skip (wF_no rfl rfl rfl c37) rfl ?_
   obtain rfl := Option.some.inj hp
   refine FL.v (E.pickT rfl c37 rfl) ?_
   exact FL.nil ⟨rfl, _, S25, (Inc.rfl _), rfl, rfl, rfl, rfl⟩
  ·
   refine FL.val (wF_yes rfl rfl rfl c37) rfl rfl (E.move (v := v1) rfl) ?_
   refine FL.val (wF_yes rfl rfl rfl c37) rfl rfl (E.move (v := Value.int .i64 a2) rfl) ?_
   refine FL.val (wF_yes rfl rfl rfl c37) rfl rfl (E.neg rfl) ?_
   obtain ⟨r38, hr39, hp⟩ := bnd hp
   refine FL.call (wF_yes rfl rfl rfl c37) rfl rfl (E.call Tryz.call129 (A2 rfl rfl)) (w_slices_Contains_int_int S25.sl v1 a1 p1 (wr (-a2)) hr39) ?_
   rintro e w40 ⟨rfl, r41⟩
   refine ⟨_, rfl, ?_⟩
   have S42 := S25.call r41
   refine FL.val (wF_yes rfl rfl rfl c37) rfl rfl (E.not rfl) ?_
   obtain rfl := Option.some.inj hp
   refine FL.v (E.pickF rfl c37 rfl) ?_
   exact FL.nil ⟨rfl, _, S42, (Inc.rfl _), rfl, rfl, rfl, rfl⟩
 rintro f36 w35 ⟨H32, S33, i34, k43, k44, k45, k46⟩
 refine FL.nil ?_
 rcases ifB hp with ⟨c47, hp⟩ | ⟨c47, hp⟩
 ·
  refine FW.condT k46 c47 ?_
  refine FW.seq (FW.region ?_)
  refine FL.v (E.assign (v := Value.slice none 0 0) rfl) ?_
  refine FL.v (E.assign (v := Value.bool false) rfl) ?_
  refine FL.nil ?_
  refine FW.ret ?_
  obtain rfl := Option.some.inj hp
  exact ⟨.inr rfl, res2 rfl rfl rfl ⟨_, _, _, _, rfl, (S33.nil 3 1), Els.nil⟩⟩
 ·
  refine FW.condF k46 c47 ?_
  refine FW.skip (FW.seq (FW.region ?_))
  refine FL.v (E.move k43) ?_
  refine FL.v (E.move k45) ?_
  obtain ⟨r48, hr49, hp⟩ := bnd hp
  refine FL.call rfl rfl rfl (E.call Tryz.call182 (A2 rfl rfl)) (w_impl_withoutVar S33.sl v0 a0 (p0.mono i34) a2 hr49) ?_
  rintro e w51 ⟨H50, v54, n55, cs56, rfl, r53, els57⟩
  refine ⟨_, rfl, ?_⟩
  have els57 := els57.mono (up_le S33.size)
  have S52 := S33.join (l' := [.row 3 1 v54 n55 cs56]) r53 rfl
  refine FL.v (E.move k44) ?_
  refine FL.v (E.move k45) ?_
  obtain ⟨r58, hr59, hp⟩ := bnd hp
  refine FL.call rfl rfl rfl (E.call Tryz.call182 (A2 rfl rfl)) (w_impl_withoutVar S52.sl v1 a1 (p1.mono (i34.tr r53.run.inc)) a2 hr59) ?_
  rintro e w61 ⟨H60, v64, n65, cs66, rfl, r63, els67⟩
  refine ⟨_, rfl, ?_⟩
  have els67 := els67.mono (up_le S52.size)
  have S62 := S52.join (l' := [.row 3 1 v64 n65 cs66, .row 3 1 v54 n55 cs56]) r63 rfl
  obtain ⟨H68, S69, i70, h71, nv72⟩ := S62.sealRowU (i := 1) (l' := [.row 3 1 v64 n65 cs66]) rfl (els57.mono (up_mono r63.run.inc)) (by decide) rfl
  obtain ⟨H73, S74, i75, h76, nv77⟩ := S69.sealRowU (i := 0) (l' := []) rfl (els67.mono (up_mono i70)) (by decide) rfl
  obtain ⟨v78, w79, run80, S81⟩ := S74.buildSlice (P := Tryz.prog) te22 [v54, v64] (parts := #[(0, v54), (1, v64)]) (cells := [v54, v64]) rfl (szs_cons (cells_size h71.cells) (szs_cons (cells_size h76.cells) szs_nil)) (fc_cons h71.cells (fc_cons h76.cells fc_nil)) (ones_cons h71.one (ones_cons h76.one ones_nil)) (Nat.le_of_ble_eq_true rfl)
  have els82 : Els (up wa.heap.size H73) (eL eI 1) 1 [v54, v64] [r48, r58] := (Els.snoc (H := (up wa.heap.size H73)) (E := (eL eI 1)) (k := 1) (c := [v64]) (x := r58) (Els.snoc (H := (up wa.heap.size H73)) (E := (eL eI 1)) (k := 1) (c := [v54]) (x := r48) Els.nil rfl ⟨_, rfl, (h71.mono (up_mono i75))⟩) rfl ⟨_, rfl, h76⟩)
  refine FL.v (E.buildSlice (B2 rfl rfl) run80) ?_
  obtain ⟨H83, S84, i85, h86, nv87⟩ := S81.sealRowU (i := 0) (l' := []) rfl els82 (by decide) rfl
  obtain ⟨r88, hr89, hp⟩ := bnd hp
  refine FL.call rfl rfl rfl (E.call Tryz.call221 (A1 rfl)) (w_slices_Concat_int_int S84.sl v78 [r48, r58] (h86.mono upI) hr89) ?_
  rintro e w91 ⟨H90, v96, n97, cs98, rfl, r93, els99⟩
  refine ⟨_, rfl, ?_⟩
  obtain ⟨H94, r93, hU95⟩ := St.lendX i85 S81.sl r93
  have els99 := els99.mono (hU95.tr (up_le S81.size))
  have S92 := S81.join (l' := [.row 3 1 v96 n97 cs98, .row 84 1 v78 2 [v54, v64]]) r93 rfl
  obtain ⟨H100, S101, i102, h103, nv104⟩ := S92.sealRowU (i := 0) (l' := [.row 84 1 v78 2 [v54, v64]]) rfl els99 (by decide) rfl
  obtain ⟨r105, hr106, hp⟩ := bnd hp
  refine FL.call rfl rfl rfl (E.call Tryz.call220 (A1 rfl)) (w_impl_clause S101.sl v96 r88 (h103.mono upI) hr106) ?_
  rintro e w108 ⟨H107, v113, n114, cs115, rfl, r110, els116⟩
  refine ⟨_, rfl, ?_⟩
  obtain ⟨H111, r110, hU112⟩ := St.lendX i102 S92.sl r110
  have els116 := els116.mono (hU112.tr (up_le S92.size))
  have S109 := S92.join (l' := [.row 3 1 v113 n114 cs115, .row 3 1 v96 n97 cs98, .row 84 1 v78 2 [v54, v64]]) r110 rfl
  refine FL.v (E.extract (i := 0) rfl rfl) ?_
  refine FL.v (E.extract (i := 1) rfl rfl) ?_
  refine FL.v (E.assign (v := v113) rfl) ?_
  refine FL.v (E.assign (v := Value.bool r105.2) rfl) ?_
  refine FL.nil ?_
  refine FW.ret ?_
  obtain rfl := Option.some.inj hp
  exact ⟨.inr rfl, res2 rfl rfl rfl ⟨_, _, _, _, rfl, (S109.sel [0] (by decide) rfl), els116⟩⟩

@[reducible] def p_impl_weaver_resolvent (H0 : GH) (w0 : World) (Ha : GH) (L : List MO) (b0 : Nat) (v0_1 : Value) (n0_1 : Nat) (k0_1 : List Value) (r : (Int × weaver)) : Ending → World → Prop :=
 fun e w' => ∃ H' : GH, ∃ v0_0r : Value, ∃ n0_0r : Nat, ∃ c0_0r : List Value, e = .returned (Value.int .i64 r.1) ∧ (St H0 w0 H' w' (.box b0 105 [v0_0r, v0_1] :: .row 94 4 v0_0r n0_0r c0_0r :: .row 3 1 v0_1 n0_1 k0_1 :: L) ∧ Inc Ha H') ∧ Els (up w0.heap.size H') eResStep 4 c0_0r r.2.steps ∧ (bl c0_0r).Nodup
theorem w_impl_weaver_resolvent {H0 Ha : GH} {w0 wa : World} {L : List MO} {a0 : weaver} {b0 : Nat} {v0_0 : Value} {n0_0 : Nat} {k0_0 : List Value} {v0_1 : Value} {n0_1 : Nat} {k0_1 : List Value} (S0 : St H0 w0 Ha wa (.box b0 105 [v0_0, v0_1] :: .row 94 4 v0_0 n0_0 k0_0 :: .row 3 1 v0_1 n0_1 k0_1 :: L)) (p0_0 : Els (up w0.heap.size Ha) eResStep 4 k0_0 a0.steps) (d0_0 : (bl k0_0).Nodup) (p0_1 : Els (up w0.heap.size Ha) eI 1 k0_1 a0.became) (a1 : Int) (a2 : Int) (a3 : Int) {r : (Int × weaver)} (hp : (PF.impl_weaver_resolvent a0 a1 a2 a3) = some r) :
  Calls Tryz.prog 120 #[Value.pointer (some (⟨b0, 0, none⟩ : Addr)), Value.int .i64 a1, Value.int .i64 a2, Value.int .i64 a3] wa (p_impl_weaver_resolvent H0 w0 Ha L b0 v0_1 n0_1 k0_1 r) := by
 unfold PF.impl_weaver_resolvent at hp
 refine calls_go (N := 66) (args := [Value.pointer (some (⟨b0, 0, none⟩ : Addr)), Value.int .i64 a1, Value.int .i64 a2, Value.int .i64 a3]) Tryz.func120 rfl rfl rfl ?_
 refine FW.seq (FW.region ?_)
 refine FL.v (E.assign (v := Value.int .i64 0) rfl) ?_
 refine FL.nil (FW.seq (FW.block (FW.seq (FW.region ?_))))
 refine FL.v (E.move (v := Value.pointer (some (⟨b0, 0, none⟩ : Addr))) rfl) ?_
 refine FL.v (E.nilCheck rfl) ?_
 refine FL.v (E.fieldAddr tf105_0 rfl) ?_
 refine FL.v (E.load rfl (run_load1 Tryz.isAgg46 (S0.box_now (i := 0) rfl) rfl)) ?_
 refine FL.v (E.move (v := Value.int .i64 a1) rfl) ?_
 obtain ⟨x27, hx28, hp⟩ := bnd hp
 obtain ⟨p21, cs22, pt23, l24, at25, rel26⟩ := S0.row_at (i := 1) rfl p0_0 (by decide) hx28
 obtain ⟨v29, rfl, h30⟩ := eResStep_open rel26
 refine FL.v (E.indexAddr te46 rfl rfl pt23) ?_
 refine FL.v (E.fieldAddr tf94_0 rfl) ?_
 refine FL.v (E.load rfl (run_load1 Tryz.isAgg84 at25 rfl)) ?_
 refine FL.v (E.move (v := Value.int .i64 a3) rfl) ?_
 obtain ⟨r31, hr32, hp⟩ := bnd hp
 refine FL.call rfl rfl rfl (E.call Tryz.call129 (A2 rfl rfl)) (w_slices_Contains_int_int S0.sl v29 x27.clause (h30.mono upI) a3 hr32) ?_
 rintro e w33 ⟨rfl, r34⟩
 refine ⟨_, rfl, ?_⟩
 have S35 := S0.call r34
 refine FL.v (E.not rfl) ?_
 refine FL.v (E.assign (v := Value.bool (!r31)) rfl) ?_
 refine FL.nil ?_
 rcases ifB hp with ⟨c36, hp⟩ | ⟨c36, hp⟩
 ·
  refine FW.condT rfl c36 ?_
  refine FW.seq (FW.region ?_)
  refine FL.v (E.move (v := Value.int .i64 a1) rfl) ?_
  refine FL.v (E.assign (v := Value.int .i64 a1) rfl) ?_
  refine FL.nil ?_
  refine FW.ret ?_
  obtain rfl := Option.some.inj hp
  exact ⟨.inr rfl, res1 rfl rfl ⟨_, _, _, _, rfl, ⟨S35, (Inc.rfl _)⟩, p0_0, d0_0⟩⟩
 ·
  refine FW.condF rfl c36 ?_
  refine FW.seq (FW.region ?_)
  refine FL.v (E.move (v := Value.pointer (some (⟨b0, 0, none⟩ : Addr))) rfl) ?_
  refine FL.v (E.nilCheck rfl) ?_
  refine FL.v (E.fieldAddr tf105_0 rfl) ?_
  refine FL.v (E.load rfl (run_load1 Tryz.isAgg46 (S35.box_now (i := 0) rfl) rfl)) ?_
  refine FL.v (E.move (v := Value.int .i64 a2) rfl) ?_
  obtain ⟨x43, hx44, hp⟩ := bnd hp
  obtain ⟨p37, cs38, pt39, l40, at41, rel42⟩ := S35.row_at (i := 1) rfl p0_0 (by decide) hx44
  obtain ⟨v45, rfl, h46⟩ := eResStep_open rel42
  refine FL.v (E.indexAddr te46 rfl rfl pt39) ?_
  refine FL.v (E.fieldAddr tf94_0 rfl) ?_
  refine FL.v (E.load rfl (run_load1 Tryz.isAgg84 at41 rfl)) ?_
  refine FL.v (E.move (v := Value.int .i64 a3) rfl) ?_
  refine FL.v (E.neg rfl) ?_
  obtain ⟨r47, hr48, hp⟩ := bnd hp
  refine FL.call rfl rfl rfl (E.call Tryz.call129 (A2 rfl rfl)) (w_slices_Contains_int_int S35.sl v45 x43.clause (h46.mono upI) (wr (-a3)) hr48) ?_
  rintro e w49 ⟨rfl, r50⟩
  refine ⟨_, rfl, ?_⟩
  have S51 := S35.call r50
  refine FL.v (E.not rfl) ?_
  refine FL.v (E.assign (v := Value.bool (!r47)) rfl) ?_
  refine FL.nil ?_
  rcases ifB hp with ⟨c52, hp⟩ | ⟨c52, hp⟩
  ·
   refine FW.condT rfl c52 ?_
   refine FW.seq (FW.region ?_)
   refine FL.v (E.move (v := Value.int .i64 a2) rfl) ?_
   refine FL.v (E.assign (v := Value.int .i64 a2) rfl) ?_
   refine FL.nil ?_
   refine FW.ret ?_
   obtain rfl := Option.some.inj hp
   exact ⟨.inr rfl, res1 rfl rfl ⟨_, _, _, _, rfl, ⟨S51, (Inc.rfl _)⟩, p0_0, d0_0⟩⟩
  ·
   refine FW.condF rfl c52 ?_
   refine FW.skip (FW.seq ?_)
   obtain ⟨x62, hx63, hp⟩ := bnd hp
   obtain ⟨x73, hx74, hp⟩ := bnd hp
   obtain ⟨r78, hr79, hp⟩ := bnd hp
   refine FW.drawB (SX H0 w0 Ha (.box b0 105 [v0_0, v0_1] :: .row 94 4 v0_0 n0_0 k0_0 :: L)) (fun f w => ∃ H : GH, ∃ v88 : Value, ∃ n89 : Nat, ∃ cs90 : List Value, St H0 w0 H w (.box b0 105 [v0_0, v0_1] :: .row 94 4 v0_0 n0_0 k0_0 :: .row 3 1 v0_1 n0_1 k0_1 :: .row 3 1 v88 n89 cs90 :: L) ∧ Inc Ha H ∧ Els (up w0.heap.size H) eI 1 cs90 r78.1 ∧ f 0 = Value.pointer (some (⟨b0, 0, none⟩ : Addr)) ∧ f 1 = Value.int .i64 a1 ∧ f 2 = Value.int .i64 a2 ∧ f 3 = Value.int .i64 a3 ∧ f 9 = v88) (by kernel_rfl) S51.sl ?_ ?_
   ·
    intro w53 r54
    have S55 := S51.call r54
    refine FB.t (i := 0) (bs 23 1) rfl (SP.nil ⟨_, (S55.selT (a := [.box b0 105 [v0_0, v0_1], .row 94 4 v0_0 n0_0 k0_0, .row 3 1 v0_1 n0_1 k0_1]) (l' := [.box b0 105 [v0_0, v0_1], .row 94 4 v0_0 n0_0 k0_0]) [0, 1] (by decide) rfl), (Inc.rfl _)⟩) rfl (fun w' hw' => (E.move (v := Value.pointer (some (⟨b0, 0, none⟩ : Addr))) rfl)) ?_
    refine FB.t (i := 1) (bs 23 3) rfl (SP.nil ⟨_, (S55.selT (a := [.box b0 105 [v0_0, v0_1], .row 94 4 v0_0 n0_0 k0_0, .row 3 1 v0_1 n0_1 k0_1]) (l' := [.box b0 105 [v0_0, v0_1], .row 94 4 v0_0 n0_0 k0_0]) [0, 1] (by decide) rfl), (Inc.rfl _)⟩) rfl (fun w' hw' => (E.nilCheck rfl)) ?_
    refine FB.t (i := 2) (bs 23 7) rfl (SP.nil ⟨_, (S55.selT (a := [.box b0 105 [v0_0, v0_1], .row 94 4 v0_0 n0_0 k0_0, .row 3 1 v0_1 n0_1 k0_1]) (l' := [.box b0 105 [v0_0, v0_1], .row 94 4 v0_0 n0_0 k0_0]) [0, 1] (by decide) rfl), (Inc.rfl _)⟩) rfl (fun w' hw' => (E.fieldAddr tf105_0 rfl)) ?_
    refine FB.t (i := 3) (bs 23 15) rfl (SP.nil ⟨_, (S55.selT (a := [.box b0 105 [v0_0, v0_1], .row 94 4 v0_0 n0_0 k0_0, .row 3 1 v0_1 n0_1 k0_1]) (l' := [.box b0 105 [v0_0, v0_1], .row 94 4 v0_0 n0_0 k0_0]) [0, 1] (by decide) rfl), (Inc.rfl _)⟩) rfl (fun w' hw' => (E.load rfl (run_load1 Tryz.isAgg46 (SX.box_now hw' (i := 0) rfl) rfl))) ?_
    refine FB.t (i := 4) (bs 23 31) rfl (SP.nil ⟨_, (S55.selT (a := [.box b0 105 [v0_0, v0_1], .row 94 4 v0_0 n0_0 k0_0, .row 3 1 v0_1 n0_1 k0_1]) (l' := [.box b0 105 [v0_0, v0_1], .row 94 4 v0_0 n0_0 k0_0]) [0, 1] (by decide) rfl), (Inc.rfl _)⟩) rfl (fun w' hw' => (E.move (v := Value.int .i64 a1) rfl)) ?_
    obtain ⟨p56, cs57, pt58, l59, at60, rel61, hall64⟩ := S55.row_atA (i := 1) rfl p0_0 (by decide) hx63
    obtain ⟨v65, rfl, h66⟩ := eResStep_open rel61
    refine FB.t (i := 5) (bs 23 63) rfl (SP.nil ⟨_, (S55.selT (a := [.box b0 105 [v0_0, v0_1], .row 94 4 v0_0 n0_0 k0_0, .row 3 1 v0_1 n0_1 k0_1]) (l' := [.box b0 105 [v0_0, v0_1], .row 94 4 v0_0 n0_0 k0_0]) [0, 1] (by decide) rfl), (Inc.rfl _)⟩) rfl (fun w' hw' => (E.indexAddr te46 rfl rfl pt58)) ?_
    refine FB.t (i := 6) (bs 23 127) rfl (SP.nil ⟨_, (S55.selT (a := [.box b0 105 [v0_0, v0_1], .row 94 4 v0_0 n0_0 k0_0, .row 3 1 v0_1 n0_1 k0_1]) (l' := [.box b0 105 [v0_0, v0_1], .row 94 4 v0_0 n0_0 k0_0]) [0, 1] (by decide) rfl), (Inc.rfl _)⟩) rfl (fun w' hw' => (E.fieldAddr tf94_0 rfl)) ?_
    refine FB.t (i := 7) (bs 23 255) rfl (SP.nil ⟨_, (S55.selT (a := [.box b0 105 [v0_0, v0_1], .row 94 4 v0_0 n0_0 k0_0, .row 3 1 v0_1 n0_1 k0_1]) (l' := [.box b0 105 [v0_0, v0_1], .row 94 4 v0_0 n0_0 k0_0]) [0, 1] (by decide) rfl), (Inc.rfl _)⟩) rfl (fun w' hw' => (E.load rfl (run_load1 Tryz.isAgg84 (hw'.use fun _ st => hall64 _ _ _ 1 st rfl) rfl))) ?_
    refine FB.t (i := 8) (bs 23 511) rfl (SP.nil ⟨_, (S55.selT (a := [.box b0 105 [v0_0, v0_1], .row 94 4 v0_0 n0_0 k0_0, .row 3 1 v0_1 n0_1 k0_1]) (l' := [.box b0 105 [v0_0, v0_1], .row 94 4 v0_0 n0_0 k0_0]) [0, 1] (by decide) rfl), (Inc.rfl _)⟩) rfl (fun w' hw' => (E.move (v := Value.pointer (some (⟨b0, 0, none⟩ : Addr))) rfl)) ?_
    refine FB.t (i := 9) (bs 23 1023) rfl (SP.nil ⟨_, (S55.selT (a := [.box b0 105 [v0_0, v0_1], .row 94 4 v0_0 n0_0 k0_0, .row 3 1 v0_1 n0_1 k0_1]) (l' := [.box b0 105 [v0_0, v0_1], .row 94 4 v0_0 n0_0 k0_0]) [0, 1] (by decide) rfl), (Inc.rfl _)⟩) rfl (fun w' hw' => (E.nilCheck rfl)) ?_
    refine FB.t (i := 10) (bs 23 2047) rfl (SP.nil ⟨_, (S55.selT (a := [.box b0 105 [v0_0, v0_1], .row 94 4 v0_0 n0_0 k0_0, .row 3 1 v0_1 n0_1 k0_1]) (l' := [.box b0 105 [v0_0, v0_1], .row 94 4 v0_0 n0_0 k0_0]) [0, 1] (by decide) rfl), (Inc.rfl _)⟩) rfl (fun w' hw' => (E.fieldAddr tf105_0 rfl)) ?_
    refine FB.t (i := 11) (bs 23 4095) rfl (SP.nil ⟨_, (S55.selT (a := [.box b0 105 [v0_0, v0_1], .row 94 4 v0_0 n0_0 k0_0, .row 3 1 v0_1 n0_1 k0_1]) (l' := [.box b0 105 [v0_0, v0_1], .row 94 4 v0_0 n0_0 k0_0]) [0, 1] (by decide) rfl), (Inc.rfl _)⟩) rfl (fun w' hw' => (E.load rfl (run_load1 Tryz.isAgg46 (SX.box_now hw' (i := 0) rfl) rfl))) ?_
    refine FB.t (i := 12) (bs 23 8191) rfl (SP.nil ⟨_, (S55.selT (a := [.box b0 105 [v0_0, v0_1], .row 94 4 v0_0 n0_0 k0_0, .row 3 1 v0_1 n0_1 k0_1]) (l' := [.box b0 105 [v0_0, v0_1], .row 94 4 v0_0 n0_0 k0_0]) [0, 1] (by decide) rfl), (Inc.rfl _)⟩) rfl (fun w' hw' => (E.move (v := Value.int .i64 a2) rfl)) ?_
    obtain ⟨p67, cs68, pt69, l70, at71, rel72, hall75⟩ := S55.row_atA (i := 1) rfl p0_0 (by decide) hx74
    obtain ⟨v76, rfl, h77⟩ := eResStep_open rel72
    refine FB.t (i := 13) (bs 23 16383) rfl (SP.nil ⟨_, (S55.selT (a := [.box b0 105 [v0_0, v0_1], .row 94 4 v0_0 n0_0 k0_0, .row 3 1 v0_1 n0_1 k0_1]) (l' := [.box b0 105 [v0_0, v0_1], .row 94 4 v0_0 n0_0 k0_0]) [0, 1] (by decide) rfl), (Inc.rfl _)⟩) rfl (fun w' hw' => (E.indexAddr te46 rfl rfl pt69)) ?_
    refine FB.t (i := 14) (bs 23 32767) rfl (SP.nil ⟨_, (S55.selT (a := [.box b0 105 [v0_0, v0_1], .row 94 4 v0_0 n0_0 k0_0, .row 3 1 v0_1 n0_1 k0_1]) (l' := [.box b0 105 [v0_0, v0_1], .row 94 4 v0_0 n0_0 k0_0]) [0, 1] (by decide) rfl), (Inc.rfl _)⟩) rfl (fun w' hw' => (E.fieldAddr tf94_0 rfl)) ?_
    refine FB.t (i := 15) (bs 23 65535) rfl (SP.nil ⟨_, (S55.selT (a := [.box b0 105 [v0_0, v0_1], .row 94 4 v0_0 n0_0 k0_0, .row 3 1 v0_1 n0_1 k0_1]) (l' := [.box b0 105 [v0_0, v0_1], .row 94 4 v0_0 n0_0 k0_0]) [0, 1] (by decide) rfl), (Inc.rfl _)⟩) rfl (fun w' hw' => (E.load rfl (run_load1 Tryz.isAgg84 (hw'.use fun _ st => hall75 _ _ _ 1 st rfl) rfl))) ?_
    refine FB.t (i := 16) (bs 23 131071) rfl (SP.nil ⟨_, (S55.selT (a := [.box b0 105 [v0_0, v0_1], .row 94 4 v0_0 n0_0 k0_0, .row 3 1 v0_1 n0_1 k0_1]) (l' := [.box b0 105 [v0_0, v0_1], .row 94 4 v0_0 n0_0 k0_0]) [0, 1] (by decide) rfl), (Inc.rfl _)⟩) rfl (fun w' hw' => (E.move (v := Value.int .i64 a3) rfl)) ?_
    refine FB.all1 (i := 17) (by kernel_rfl) ?_
    ·
     refine FC.call (l' := (bs 23 262143)) rfl (by kernel_rfl) rfl rfl rfl (E.call Tryz.call179 (A3 rfl rfl rfl)) (w_impl_resolve S55.sl v65 x62.clause (h66.mono upI) v76 x73.clause (h77.mono upI) a3 hr79) ?_
     rintro e w81 ⟨H80, v84, n85, cs86, rfl, r83, els87⟩
     refine ⟨_, rfl, ?_⟩
     have els87 := els87.mono (up_le S55.size)
     have S82 := S55.join (l' := (.row 3 1 v84 n85 cs86 :: .box b0 105 [v0_0, v0_1] :: .row 94 4 v0_0 n0_0 k0_0 :: .row 3 1 v0_1 n0_1 k0_1 :: L)) r83 rfl
     refine ⟨(SP.nil ⟨_, (S82.selT (a := [.row 3 1 v84 n85 cs86, .box b0 105 [v0_0, v0_1], .row 94 4 v0_0 n0_0 k0_0, .row 3 1 v0_1 n0_1 k0_1]) (l' := [.box b0 105 [v0_0, v0_1], .row 94 4 v0_0 n0_0 k0_0]) [1, 2] (by decide) rfl), r83.run.inc⟩), ?_⟩
     refine FB.t (i := 18) (bs 23 524287) rfl (SP.nil ⟨_, (S82.selT (a := [.row 3 1 v84 n85 cs86, .box b0 105 [v0_0, v0_1], .row 94 4 v0_0 n0_0 k0_0, .row 3 1 v0_1 n0_1 k0_1]) (l' := [.box b0 105 [v0_0, v0_1], .row 94 4 v0_0 n0_0 k0_0]) [1, 2] (by decide) rfl), r83.run.inc⟩) rfl (fun w' hw' => (E.move (v := Value.tuple #[v84, Value.bool r78.2]) rfl)) ?_
     refine FB.t (i := 19) (bs 23 1048575) rfl (SP.nil ⟨_, (S82.selT (a := [.row 3 1 v84 n85 cs86, .box b0 105 [v0_0, v0_1], .row 94 4 v0_0 n0_0 k0_0, .row 3 1 v0_1 n0_1 k0_1]) (l' := [.box b0 105 [v0_0, v0_1], .row 94 4 v0_0 n0_0 k0_0]) [1, 2] (by decide) rfl), r83.run.inc⟩) rfl (fun w' hw' => (E.extract (i := 0) rfl rfl)) ?_
     refine FB.t (i := 20) (bs 23 2097151) rfl (SP.nil ⟨_, (S82.selT (a := [.row 3 1 v84 n85 cs86, .box b0 105 [v0_0, v0_1], .row 94 4 v0_0 n0_0 k0_0, .row 3 1 v0_1 n0_1 k0_1]) (l' := [.box b0 105 [v0_0, v0_1], .row 94 4 v0_0 n0_0 k0_0]) [1, 2] (by decide) rfl), r83.run.inc⟩) rfl (fun w' hw' => (E.extract (i := 1) rfl rfl)) ?_
     refine FB.t (i := 21) (bs 23 4194303) rfl (SP.nil ⟨_, (S82.selT (a := [.row 3 1 v84 n85 cs86, .box b0 105 [v0_0, v0_1], .row 94 4 v0_0 n0_0 k0_0, .row 3 1 v0_1 n0_1 k0_1]) (l' := [.box b0 105 [v0_0, v0_1], .row 94 4 v0_0 n0_0 k0_0]) [1, 2] (by decide) rfl), r83.run.inc⟩) rfl (fun w' hw' => (E.assign (v := v84) rfl)) ?_
     refine FB.t (i := 22) (bs 23 8388607) rfl (SP.nil ⟨_, (S82.selT (a := [.row 3 1 v84 n85 cs86, .box b0 105 [v0_0, v0_1], .row 94 4 v0_0 n0_0 k0_0, .row 3 1 v0_1 n0_1 k0_1]) (l' := [.box b0 105 [v0_0, v0_1], .row 94 4 v0_0 n0_0 k0_0]) [1, 2] (by decide) rfl), r83.run.inc⟩) rfl (fun w' hw' => (E.assign (v := Value.bool r78.2) rfl)) ?_
     exact FB.done (by kernel_rfl) ⟨_, _, _, _, (S82.selT (a := [.row 3 1 v84 n85 cs86, .box b0 105 [v0_0, v0_1], .row 94 4 v0_0 n0_0 k0_0, .row 3 1 v0_1 n0_1 k0_1]) (l' := [.box b0 105 [v0_0, v0_1], .row 94 4 v0_0 n0_0 k0_0, .row 3 1 v0_1 n0_1 k0_1, .row 3 1 v84 n85 cs86]) [1, 2, 3, 0] (by decide) rfl), r83.run.inc, els87, rfl, rfl, rfl, rfl, rfl⟩
   ·
    rintro f97 w96 ⟨H92, v88, n89, cs90, S93, i95, els91, k98, k99, k100, k101, k102⟩
    refine FW.seq (FW.region ?_)
    refine FL.v (E.move k98) ?_
    refine FL.v (E.move k102) ?_
    refine FL.v (E.move k99) ?_
    refine FL.v (E.move k100) ?_
    refine FL.v (E.move k101) ?_
    refine FL.v (E.build (B4 rfl rfl rfl rfl) (run_build _ 94 #[(0, v88), (1, Value.int .i64 a1), (2, Value.int .i64 a2), (3, Value.int .i64 a3)] #[v88, Value.int .i64 a1, Value.int .i64 a2, Value.int .i64 a3] (by obtain ⟨_, _, rfl⟩ := S93.row_ln (i := 3) rfl; rfl))) ?_
    obtain ⟨H103, S104, i106, h107, nv108⟩ := S93.sealRowU (i := 3) (l' := (.box b0 105 [v0_0, v0_1] :: .row 94 4 v0_0 n0_0 k0_0 :: .row 3 1 v0_1 n0_1 k0_1 :: L)) rfl els91 (by decide) rfl
    obtain ⟨s109, hq109, hp⟩ := bnd hp
    obtain ⟨R109, hR109⟩ : ∃ R109 : ((List ResStep) × Int) → Ending → World → Prop, R109 = (fun s109 e w => ∃ H : GH, ∃ v110 : Value, ∃ n111 : Nat, ∃ cs112 : List Value, e = Ending.returned (Value.int .i64 s109.2) ∧ St H0 w0 H w (.box b0 105 [v110, v0_1] :: .row 94 4 v110 n111 cs112 :: .row 3 1 v0_1 n0_1 k0_1 :: L) ∧ Inc H103 H ∧ Els (up w0.heap.size H) eResStep 4 cs112 s109.1 ∧ (bl cs112).Nodup) := ⟨_, rfl⟩
    have hc109 : Calls Tryz.prog 119 #[Value.pointer (some (⟨b0, 0, none⟩ : Addr)), Value.agg #[v88, Value.int .i64 a1, Value.int .i64 a2, Value.int .i64 a3]] w96 (R109 s109) := by
     clear hp; have hp := hq109; clear hq109
     refine calls_go (N := 21) (args := [Value.pointer (some (⟨b0, 0, none⟩ : Addr)), Value.agg #[v88, Value.int .i64 a1, Value.int .i64 a2, Value.int .i64 a3]]) Tryz.func119 rfl rfl rfl ?_
     refine FW.seq (FW.region ?_)
     obtain ⟨b115, w116, run117, S118⟩ := S104.box (P := Tryz.prog) 94 [v88, Value.int .i64 a1, Value.int .i64 a2, Value.int .i64 a3] (v := Value.agg #[v88, Value.int .i64 a1, Value.int .i64 a2, Value.int .i64 a3]) rfl (ones_cons h107.one (ones_cons rfl (ones_cons rfl (ones_cons rfl ones_nil))))
     refine FL.v (E.box rfl run117) ?_
     obtain ⟨H119, S120, i121, at122⟩ := S118.sealBox (i := 0) (l' := (.box b0 105 [v0_0, v0_1] :: .row 94 4 v0_0 n0_0 k0_0 :: .row 3 1 v0_1 n0_1 k0_1 :: L)) rfl rfl
     refine FL.v (E.assign (v := Value.int .i64 0) rfl) ?_
     refine FL.nil (FW.seq ?_)
     obtain ⟨xs132, hz133, hp⟩ := bnd hp
     refine FW.drawB (Sl H119) (fun f w => ∃ H : GH, ∃ v147 : Value, ∃ n148 : Nat, ∃ cs149 : List Value, St H0 w0 H w (.box b0 105 [v147, v0_1] :: .row 94 4 v147 n148 cs149 :: .row 3 1 v0_1 n0_1 k0_1 :: L) ∧ Inc H119 H ∧ Els (up w0.heap.size H) eResStep 4 cs149 xs132 ∧ (bl cs149).Nodup ∧ f 0 = Value.pointer (some (⟨b0, 0, none⟩ : Addr))) (by kernel_rfl) S120.sl ?_ ?_
     ·
      intro w123 r124
      have S125 := S120.call r124
      refine FB.phase [10] (fun w => WAt w (Addr.add ⟨b0, 0, none⟩ 0) [v0_0]) ?_
      refine FB.t (i := 0) (bs 11 1) rfl (SP.on ((S125.box_now (i := 0) rfl).sub (j := 0) (n := 1) (c := [v0_0]) rfl) (SP.nil S125.sl)) rfl (fun w' hw' => (E.move (v := Value.pointer (some (⟨b0, 0, none⟩ : Addr))) rfl)) ?_
      refine FB.t (i := 1) (bs 11 3) rfl (SP.on ((S125.box_now (i := 0) rfl).sub (j := 0) (n := 1) (c := [v0_0]) rfl) (SP.nil S125.sl)) rfl (fun w' hw' => (E.move (v := Value.pointer (some (⟨b0, 0, none⟩ : Addr))) rfl)) ?_
      refine FB.t (i := 2) (bs 11 7) rfl (SP.on ((S125.box_now (i := 0) rfl).sub (j := 0) (n := 1) (c := [v0_0]) rfl) (SP.nil S125.sl)) rfl (fun w' hw' => (E.nilCheck rfl)) ?_
      refine FB.t (i := 3) (bs 11 15) rfl (SP.on ((S125.box_now (i := 0) rfl).sub (j := 0) (n := 1) (c := [v0_0]) rfl) (SP.nil S125.sl)) rfl (fun w' hw' => (E.fieldAddr tf105_0 rfl)) ?_
      refine FB.p (i := 4) (bs 11 31) 0 [7, 8, 9, 10] rfl (SP.on ((S125.box_now (i := 0) rfl).sub (j := 0) (n := 1) (c := [v0_0]) rfl) (SP.nil S125.sl)) rfl rfl (fun w' hw' => (E.load rfl (run_load0 Tryz.isAgg46 hw' rfl))) ?_
      refine FB.t (i := 5) (bs 11 63) rfl (SP.on ((S125.box_now (i := 0) rfl).sub (j := 0) (n := 1) (c := [v0_0]) rfl) (SP.nil S125.sl)) rfl (fun w' hw' => (E.load rfl (run_loadA Tryz.isAgg94 Tryz.sizeOf94 (at122.now hw') rfl))) ?_
      refine FB.all1 (i := 6) (by kernel_rfl) ?_
      ·
       obtain ⟨v126, w127, run128, S129⟩ := S125.buildSlice (P := Tryz.prog) te46 [Value.agg #[v88, Value.int .i64 a1, Value.int .i64 a2, Value.int .i64 a3]] (parts := #[(0, Value.agg #[v88, Value.int .i64 a1, Value.int .i64 a2, Value.int .i64 a3])]) (cells := [v88, Value.int .i64 a1, Value.int .i64 a2, Value.int .i64 a3]) rfl (szs_cons rfl szs_nil) (fc_cons rfl fc_nil) (ones_cons h107.one (ones_cons rfl (ones_cons rfl (ones_cons rfl ones_nil)))) (Nat.le_of_ble_eq_true rfl)
       have els130 : Els (up w0.heap.size H119) eResStep 4 [v88, Value.int .i64 a1, Value.int .i64 a2, Value.int .i64 a3] [(ResStep.mk r78.1 a1 a2 a3)] := (Els.snoc (H := (up w0.heap.size H119)) (E := eResStep) (k := 4) (c := [v88, Value.int .i64 a1, Value.int .i64 a2, Value.int .i64 a3]) (x := (ResStep.mk r78.1 a1 a2 a3)) Els.nil rfl ⟨_, rfl, (h107.mono (up_mono i121))⟩)
       have nd131 : (bl [v88, Value.int .i64 a1, Value.int .i64 a2, Value.int .i64 a3]).Nodup := by exact nd_one v88
       refine FC.val (l' := (bs 11 127)) rfl (by kernel_rfl) rfl rfl rfl (E.buildSlice (B1 rfl) run128) ?_
       refine ⟨(SP.on ((S129.box_now (i := 1) rfl).sub (j := 0) (n := 1) (c := [v0_0]) rfl) (SP.nil S129.sl)), ?_⟩
       refine FB.all1 (i := 7) (by kernel_rfl) ?_
       ·
        obtain ⟨v134, w137, n135, cs136, run138, S139, els140, ce141⟩ := S129.appendO (P := Tryz.prog) te46 (i := 2) (j := 0) rfl (p0_0.mono (up_mono ((i95.tr i106).tr i121))) rfl els130 hz133
        have S139 : St H0 w0 H119 w137 (.row 94 4 v126 1 [v88, Value.int .i64 a1, Value.int .i64 a2, Value.int .i64 a3] :: .box b0 105 [v0_0, v0_1] :: .row 94 4 v134 n135 cs136 :: .row 3 1 v0_1 n0_1 k0_1 :: L) := S139
        have nd142 : (bl cs136).Nodup := by rw [ce141]; exact nd_app d0_0 nd131 (Els.dom (p0_0.mono (upI.tr i95))) (by exact nv108)
        have S143 : St H0 w0 H119 w137 (.box b0 105 [v0_0, v0_1] :: .row 94 4 v134 n135 cs136 :: .row 3 1 v0_1 n0_1 k0_1 :: L) := S139.drop 0
        refine FC.val (l' := (bs 11 255)) rfl (by kernel_rfl) rfl rfl rfl (E.append rfl rfl run138) ?_
        refine ⟨(SP.on ((S143.box_now (i := 0) rfl).sub (j := 0) (n := 1) (c := [v0_0]) rfl) (SP.nil S143.sl)), ?_⟩
        refine FB.t (i := 8) (bs 11 511) rfl (SP.on ((S143.box_now (i := 0) rfl).sub (j := 0) (n := 1) (c := [v0_0]) rfl) (SP.nil S143.sl)) rfl (fun w' hw' => (E.nilCheck rfl)) ?_
        refine FB.t (i := 9) (bs 11 1023) rfl (SP.on ((S143.box_now (i := 0) rfl).sub (j := 0) (n := 1) (c := [v0_0]) rfl) (SP.nil S143.sl)) rfl (fun w' hw' => (E.fieldAddr tf105_0 rfl)) ?_
        refine FB.all1 (i := 10) (by kernel_rfl) ?_
        ·
         obtain ⟨w144, run145, S146⟩ := S143.store (P := Tryz.prog) (t := 46) (i := 0) (j := 0) (cs' := [v134, v0_1]) (l' := (.box b0 105 [v134, v0_1] :: .row 94 4 v134 n135 cs136 :: .row 3 1 v0_1 n0_1 k0_1 :: L)) (v := v134) (c := [v134]) rfl Tryz.sizeOf46 (Ln.cells (S143.row_ln (i := 1) rfl)) rfl (ones_cons (Ln.one (S143.row_ln (i := 1) rfl)) ones_nil) (Nat.le_of_ble_eq_true rfl) rfl rfl
         refine FC.act (l' := (bs 11 2047)) rfl (by kernel_rfl) rfl rfl (E.store rfl rfl run145) ?_
         refine ⟨(SP.o (SP.nil S146.sl)), ?_⟩
         exact FB.done (by kernel_rfl) ⟨_, _, _, _, S146, (Inc.rfl _), els140, nd142, rfl⟩
     ·
      rintro f156 w155 ⟨H152, v147, n148, cs149, S153, i154, els150, nd151, k157⟩
      refine FW.seq (FW.region ?_)
      refine FL.v (E.move k157) ?_
      refine FL.v (E.nilCheck rfl) ?_
      refine FL.v (E.fieldAddr tf105_0 rfl) ?_
      refine FL.v (E.load rfl (run_load1 Tryz.isAgg46 (S153.box_now (i := 0) rfl) rfl)) ?_
      refine FL.v (E.lenO te46 rfl S153 (i := 1) rfl els150 (by decide)) ?_
      refine FL.v (E.sub rfl rfl) ?_
      refine FL.v (E.assign (v := Value.int .i64 (wr ((len xs132) - 1))) rfl) ?_
      refine FL.nil ?_
      refine FW.ret ?_
      obtain rfl := Option.some.inj hp
      exact ⟨.inr rfl, res1 rfl rfl (by rw [hR109]; exact ⟨_, _, _, _, rfl, S153, (i121.tr i154), els150, nd151⟩)⟩
    clear hq109
    refine FL.call rfl rfl rfl (E.call Tryz.call119 (A2 rfl rfl)) hc109 ?_
    intro e w161 hQ109
    rw [hR109] at hQ109
    obtain ⟨H158, v110, n111, cs112, rfl, S159, i160, els113, nd114⟩ := hQ109
    refine ⟨_, rfl, ?_⟩
    refine FL.v (E.assign (v := Value.int .i64 s109.2) rfl) ?_
    refine FL.nil ?_
    refine FW.ret ?_
    obtain rfl := Option.some.inj hp
    exact ⟨.inr rfl, res1 rfl rfl ⟨_, _, _, _, rfl, ⟨S159, ((i95.tr i106).tr i160)⟩, els113, nd114⟩⟩

@[reducible] def p_impl_treeSteps (Ha : GH) (wa : World) (r : (Option weaver)) : Ending → World → Prop :=
  fun e w' => ∃ H' : GH, ∃ v0 : Value, e = .returned (v0) ∧ Run wa.heap.size Ha wa H' w' ∧ OP (fun (q : Addr) (x : weaver) => ∃ v0R_0 : Value, ∃ v0R_1 : Value, (∃ c, Nest (up wa.heap.size H') eResStep 4 v0R_0 x.steps c) ∧ RSl (up wa.heap.size H') eI 1 v0R_1 x.became ∧ CAt H' q [v0R_0, v0R_1]) v0 r
set_option maxHeartbeats 4000000 in
theorem w_impl_treeSteps {Ha : GH} {wa : World} (hs : Sl Ha wa) (a0 : Cnf) (v0_1 : Value) (p0_1 : RSl Ha (eL eI 1) 1 v0_1 a0.clauses) (v1 : Value) (a1 : List TreeNode) (p1 : RSl Ha eTreeNode 4 v1 a1) {r : (Option weaver)} (hp : (PF.impl_treeSteps a0 a1) = some r) :
    Calls Tryz.prog 67 #[Value.agg #[Value.int .i64 a0.vars, v0_1], v1] wa (p_impl_treeSteps Ha wa r) := by
  unfold PF.impl_treeSteps at hp
  have S0 := St.init hs
  refine calls_go (N := 65) (args := [Value.agg #[Value.int .i64 a0.vars, v0_1], v1]) Tryz.func67 rfl rfl rfl ?_
  refine FW.seq (FW.region ?_)
  obtain ⟨b21, w22, run23, S24⟩ := S0.box (P := Tryz.prog) 30 [Value.int .i64 a0.vars, v0_1] (v := Value.agg #[Value.int .i64 a0.vars, v0_1]) rfl (ones_cons rfl (ones_cons p0_1.one ones_nil))
  refine FL.v (E.box rfl run23) ?_
  obtain ⟨H25, S26, i27, at28⟩ := S24.sealBox (i := 0) (l' := []) rfl rfl
  refine FL.v (E.assign (v := Value.pointer none) rfl) ?_
  refine FL.nil (FW.seq (FW.region ?_))
  refine FL.v (E.build (B0) (run_build _ 105 #[] #[Value.slice none 0 0, Value.slice none 0 0] (by rfl))) ?_
  have S33 := S26.nil 94 4
  have els34 : Els (up wa.heap.size H25) eResStep 4 [] [] := Els.nil
  have S35 := S33.nil 3 1
  have els36 : Els (up wa.heap.size H25) eI 1 [] [] := Els.nil
  obtain ⟨b29, w30, run31, S32⟩ := S35.box (P := Tryz.prog) 105 [(Value.slice none 0 0), (Value.slice none 0 0)] (v := Value.agg #[Value.slice none 0 0, Value.slice none 0 0]) rfl (ones_cons (Ln.one (S35.row_ln (i := 1) rfl)) (ones_cons (Ln.one (S35.row_ln (i := 0) rfl)) ones_nil))
  refine FL.v (E.box rfl run31) ?_
  refine FL.v (E.assign (v := Value.pointer (some (⟨b29, 0, none⟩ : Addr))) rfl) ?_
  refine FL.nil (FW.seq (FW.seq (FW.region ?_)))
  refine FL.v (E.move (v := v1) rfl) ?_
  refine FL.v (E.lenP te56 rfl p1) ?_
  refine FL.v (E.move (v := Value.int .i64 0) rfl) ?_
  refine FL.nil ?_
  obtain ⟨q38, hq, hp⟩ := bndR hp
  refine FW.block ?_
  refine FW.mono (FW.forL (S := ((List Int) × (List ResStep))) (X := Empty) (fun (i38 : Nat) (s38 : ((List Int) × (List ResStep))) f w => ∃ H : GH, ∃ v39 : Value, ∃ n40 : Nat, ∃ cs41 : List Value, ∃ v43 : Value, ∃ n44 : Nat, ∃ cs45 : List Value, St Ha wa H w [.box b29 105 [v43, v39], .row 3 1 v39 n40 cs41, .row 94 4 v43 n44 cs45] ∧ Inc H25 H ∧ Els (up wa.heap.size H) eI 1 cs41 s38.1 ∧ Els (up wa.heap.size H) eResStep 4 cs45 s38.2 ∧ (bl cs45).Nodup ∧ f 13 = Value.int .i64 ((i38 : Nat) : Int) ∧ f 2 = Value.pointer (some ⟨b21, 0, none⟩) ∧ f 5 = Value.pointer (some (⟨b29, 0, none⟩ : Addr)) ∧ f 11 = v1 ∧ f 12 = Value.int .i64 (len a1)) (fun (q : Rs ((List Int) × (List ResStep)) Empty) e f w => match q with | .go s38 => e = Exit.exit 0 ∧ (∃ H : GH, ∃ v39 : Value, ∃ n40 : Nat, ∃ cs41 : List Value, ∃ v43 : Value, ∃ n44 : Nat, ∃ cs45 : List Value, St Ha wa H w [.box b29 105 [v43, v39], .row 3 1 v39 n40 cs41, .row 94 4 v43 n44 cs45] ∧ Inc H25 H ∧ Els (up wa.heap.size H) eI 1 cs41 s38.1 ∧ Els (up wa.heap.size H) eResStep 4 cs45 s38.2 ∧ (bl cs45).Nodup ∧ f 5 = Value.pointer (some (⟨b29, 0, none⟩ : Addr))) | .rt x => x.elim) hq ⟨_, _, _, _, _, _, _, S32, (Inc.rfl _), els36, els34, (show (bl []).Nodup from List.nodup_nil), rfl, rfl, rfl, rfl, rfl⟩ ?_ ?_) ?_
  ·
    clear hp hq
    rintro i38 y37 s38 f53 w52 ⟨H49, v39, n40, cs41, v43, n44, cs45, S50, i51, els42, els47, nd48, k54, k55, k57, k58, k59⟩ hx38 o252 hp
    refine FW.seq (FW.region ?_)
    refine FL.v (E.lssT k54 k59 (lss_len hx38)) ?_
    refine FL.nil (FW.seq ?_)
    refine FW.condT rfl rfl ?_
    refine FW.skip (FW.seq (FW.block (FW.seq (FW.region ?_))))
    obtain ⟨p60, cs61, pt62, l63, at64, rel65⟩ := p1.at (ix_nat hx38)
    obtain rfl := eTreeNode_open rel65
    refine FL.v (E.indexAddr te56 k58 k54 pt62) ?_
    refine FL.v (E.load rfl (run_loadA Tryz.isAgg98 Tryz.sizeOf98 ((at64.mono (i27.tr i51)).now S50.sl) rfl)) ?_
    obtain ⟨b66, w67, run68, S69⟩ := S50.alloc (P := Tryz.prog) 98 [Value.int .i64 0, Value.int .i64 0, Value.int .i64 0, Value.int .i64 0] Tryz.zeroValue98 rfl (ones_cons rfl (ones_cons rfl (ones_cons rfl (ones_cons rfl ones_nil))))
    refine FL.v (E.alloc run68) ?_
    obtain ⟨w70, run71, S72⟩ := S69.store0 (P := Tryz.prog) (t := 98) (i := 0) (cs' := [Value.int .i64 y37.var, Value.int .i64 y37.low, Value.int .i64 y37.high, Value.int .i64 y37.clause]) (l' := [.box b66 98 [Value.int .i64 y37.var, Value.int .i64 y37.low, Value.int .i64 y37.high, Value.int .i64 y37.clause], .box b29 105 [v43, v39], .row 3 1 v39 n40 cs41, .row 94 4 v43 n44 cs45]) (v := Value.agg #[Value.int .i64 y37.var, Value.int .i64 y37.low, Value.int .i64 y37.high, Value.int .i64 y37.clause]) (c := [Value.int .i64 y37.var, Value.int .i64 y37.low, Value.int .i64 y37.high, Value.int .i64 y37.clause]) rfl Tryz.sizeOf98 rfl rfl (ones_cons rfl (ones_cons rfl (ones_cons rfl (ones_cons rfl ones_nil)))) (Nat.le_of_ble_eq_true rfl) rfl rfl
    refine FL.act rfl rfl (E.store rfl rfl run71) ?_
    obtain ⟨H73, S74, i75, at76⟩ := S72.sealBox (i := 0) (l' := [.box b29 105 [v43, v39], .row 3 1 v39 n40 cs41, .row 94 4 v43 n44 cs45]) rfl rfl
    refine FL.nil (FW.seq (FW.region ?_))
    refine FL.v (E.assign (v := Value.int .i64 0) rfl) ?_
    refine FL.nil (FW.seq ?_)
    obtain ⟨q78, hq, hp⟩ := bndR hp
    refine FW.joinE (S := ((List ResStep) × Int)) (X := Empty) (q := q78) (fun s77 f w => ∃ H : GH, ∃ v80 : Value, ∃ n81 : Nat, ∃ cs82 : List Value, St Ha wa H w [.box b29 105 [v80, v39], .row 3 1 v39 n40 cs41, .row 94 4 v80 n81 cs82] ∧ Inc H73 H ∧ Els (up wa.heap.size H) eResStep 4 cs82 s77.1 ∧ (bl cs82).Nodup ∧ f 2 = Value.pointer (some ⟨b21, 0, none⟩) ∧ f 5 = Value.pointer (some (⟨b29, 0, none⟩ : Addr)) ∧ f 8 = Value.int .i64 s77.2 ∧ f 11 = v1 ∧ f 12 = Value.int .i64 (len a1) ∧ f 13 = Value.int .i64 ((i38 : Nat) : Int)) (fun (_ : Empty) _ _ _ => False) ?_ ?_ ?_
    ·
      clear hp; have hp := hq; clear hq
      refine FW.block (FW.seq (FW.region ?_))
      refine FL.v (E.fieldAddr tf98_0 rfl) ?_
      refine FL.v (E.load rfl (run_load1 Tryz.isAgg3 (at76.now S74.sl) rfl)) ?_
      refine FL.v (E.eql rfl rfl) ?_
      refine FL.v (E.assign (v := Value.bool (y37.var == 0)) rfl) ?_
      refine FL.nil ?_
      rcases ifB hp with ⟨c86, hp⟩ | ⟨c86, hp⟩
      ·
        refine FW.condT rfl c86 ?_
        obtain ⟨x96, hx97, hp⟩ := bnd hp
        obtain ⟨r101, hr102, hp⟩ := bnd hp
        obtain ⟨s145, hq145, hp⟩ := bnd hp
        refine FW.drawB (Sl H73) (fun f w => ∃ H : GH, ∃ v117 : Value, ∃ n118 : Nat, ∃ cs119 : List Value, St Ha wa H w [.box b29 105 [v117, v39], .row 3 1 v39 n40 cs41, .row 94 4 v117 n118 cs119] ∧ Inc H73 H ∧ Els (up wa.heap.size H) eResStep 4 cs119 s145.1 ∧ (bl cs119).Nodup ∧ f 2 = Value.pointer (some ⟨b21, 0, none⟩) ∧ f 5 = Value.pointer (some (⟨b29, 0, none⟩ : Addr)) ∧ f 8 = Value.int .i64 s145.2 ∧ f 11 = v1 ∧ f 12 = Value.int .i64 (len a1) ∧ f 13 = Value.int .i64 ((i38 : Nat) : Int)) (by kernel_rfl) S74.sl ?_ ?_
        ·
          intro w87 r88
          have S89 := S74.call r88
          refine FB.t (i := 0) (bs 13 1) rfl (SP.nil S89.sl) rfl (fun w' hw' => (E.move k57)) ?_
          refine FB.t (i := 1) (bs 13 3) rfl (SP.nil S89.sl) rfl (fun w' hw' => (E.fieldAddr tf30_1 k55)) ?_
          refine FB.t (i := 2) (bs 13 7) rfl (SP.nil S89.sl) rfl (fun w' hw' => (E.load rfl (run_load1 Tryz.isAgg22 ((at28.mono (i51.tr i75)).now hw') rfl))) ?_
          refine FB.t (i := 3) (bs 13 15) rfl (SP.nil S89.sl) rfl (fun w' hw' => (E.fieldAddr tf98_3 rfl)) ?_
          refine FB.t (i := 4) (bs 13 31) rfl (SP.nil S89.sl) rfl (fun w' hw' => (E.load rfl (run_load1 Tryz.isAgg3 (at76.now hw') rfl))) ?_
          obtain ⟨p90, cs91, pt92, l93, at94, rel95⟩ := p0_1.at hx97
          obtain ⟨v99, rfl, h100⟩ := eL_open rel95
          refine FB.t (i := 5) (bs 13 63) rfl (SP.nil S89.sl) rfl (fun w' hw' => (E.indexAddr te22 rfl rfl pt92)) ?_
          refine FB.t (i := 6) (bs 13 127) rfl (SP.nil S89.sl) rfl (fun w' hw' => (E.load rfl (run_load0 Tryz.isAgg84 ((at94.mono ((i27.tr i51).tr i75)).now hw') rfl))) ?_
          refine FB.t (i := 8) (bs 13 383) rfl (SP.nil S89.sl) rfl (fun w' hw' => (E.fieldAddr tf98_3 rfl)) ?_
          refine FB.t (i := 9) (bs 13 895) rfl (SP.nil S89.sl) rfl (fun w' hw' => (E.load rfl (run_load1 Tryz.isAgg3 (at76.now hw') rfl))) ?_
          refine FB.all1 (i := 7) (by kernel_rfl) ?_
          ·
            refine FC.call (l' := (bs 13 1023)) rfl (by kernel_rfl) rfl rfl rfl (E.call Tryz.call62 (A1 rfl)) (w_slices_Clone_int_int S89.sl v99 x96 (h100.mono ((i27.tr i51).tr i75)) hr102) ?_
            rintro e w104 ⟨H103, v108, n109, cs110, rfl, r107, els111⟩
            refine ⟨_, rfl, ?_⟩
            have els111 := els111.mono (up_le S89.size)
            have S106 := S89.join (l' := [.row 3 1 v108 n109 cs110, .box b29 105 [v43, v39], .row 3 1 v39 n40 cs41, .row 94 4 v43 n44 cs45]) r107 rfl
            refine ⟨(SP.nil (Sl.of_inc r107.run.inc S106.sl)), ?_⟩
            obtain ⟨H112, S113, i114, h115, nv116⟩ := S106.sealRowU (i := 0) (l' := [.box b29 105 [v43, v39], .row 3 1 v39 n40 cs41, .row 94 4 v43 n44 cs45]) rfl els111 (by decide) rfl
            refine FB.t (i := 10) (bs 13 2047) rfl (SP.nil (Sl.of_inc r107.run.inc S106.sl)) rfl (fun w' hw' => (E.build (B3 rfl rfl rfl) (run_build _ 94 #[(0, v108), (1, Value.int .i64 (-1)), (2, Value.int .i64 y37.clause)] #[v108, Value.int .i64 (-1), Value.int .i64 y37.clause, Value.int .i64 0] (by obtain ⟨_, _, rfl⟩ := RSl.ln (h115.mono upI); rfl)))) ?_
            refine FB.all1 (i := 11) (by kernel_rfl) ?_
            ·
              obtain ⟨R145, hR145⟩ : ∃ R145 : ((List ResStep) × Int) → Ending → World → Prop, R145 = (fun s145 e w => ∃ H : GH, ∃ v146 : Value, ∃ n147 : Nat, ∃ cs148 : List Value, e = Ending.returned (Value.int .i64 s145.2) ∧ St Ha wa H w [.box b29 105 [v146, v39], .row 3 1 v39 n40 cs41, .row 94 4 v146 n147 cs148] ∧ Inc H112 H ∧ Els (up wa.heap.size H) eResStep 4 cs148 s145.1 ∧ (bl cs148).Nodup) := ⟨_, rfl⟩
              have hc145 : Calls Tryz.prog 119 #[Value.pointer (some (⟨b29, 0, none⟩ : Addr)), Value.agg #[v108, Value.int .i64 (-1), Value.int .i64 y37.clause, Value.int .i64 0]] w104 (R145 s145) := by
                clear hp; have hp := hq145; clear hq145
                refine calls_go (N := 21) (args := [Value.pointer (some (⟨b29, 0, none⟩ : Addr)), Value.agg #[v108, Value.int .i64 (-1), Value.int .i64 y37.clause, Value.int .i64 0]]) Tryz.func119 rfl rfl rfl ?_
                refine FW.seq (FW.region ?_)
                obtain ⟨b151, w152, run153, S154⟩ := S113.box (P := Tryz.prog) 94 [v108, Value.int .i64 (-1), Value.int .i64 y37.clause, Value.int .i64 0] (v := Value.agg #[v108, Value.int .i64 (-1), Value.int .i64 y37.clause, Value.int .i64 0]) rfl (ones_cons h115.one (ones_cons rfl (ones_cons rfl (ones_cons rfl ones_nil))))
                refine FL.v (E.box rfl run153) ?_
                obtain ⟨H155, S156, i157, at158⟩ := S154.sealBox (i := 0) (l' := [.box b29 105 [v43, v39], .row 3 1 v39 n40 cs41, .row 94 4 v43 n44 cs45]) rfl rfl
                refine FL.v (E.assign (v := Value.int .i64 0) rfl) ?_
                refine FL.nil (FW.seq ?_)
                obtain ⟨xs177, hz178, hp⟩ := bnd hp
                refine FW.drawB (Sl H155) (fun f w => ∃ H : GH, ∃ v221 : Value, ∃ n222 : Nat, ∃ cs223 : List Value, St Ha wa H w [.box b29 105 [v221, v39], .row 3 1 v39 n40 cs41, .row 94 4 v221 n222 cs223] ∧ Inc H155 H ∧ Els (up wa.heap.size H) eResStep 4 cs223 xs177 ∧ (bl cs223).Nodup ∧ f 0 = Value.pointer (some (⟨b29, 0, none⟩ : Addr))) (by kernel_rfl) S156.sl ?_ ?_
                ·
                  intro w159 r160
                  have S161 := S156.call r160
                  refine FB.phase [10] (fun w => WAt w (Addr.add ⟨b29, 0, none⟩ 0) [v43]) ?_
                  refine FB.t (i := 0) (bs 11 1) rfl (SP.on ((S161.box_now (i := 0) rfl).sub (j := 0) (n := 1) (c := [v43]) rfl) (SP.nil S161.sl)) rfl (fun w' hw' => (E.move (v := Value.pointer (some (⟨b29, 0, none⟩ : Addr))) rfl)) ?_
                  refine FB.t (i := 1) (bs 11 3) rfl (SP.on ((S161.box_now (i := 0) rfl).sub (j := 0) (n := 1) (c := [v43]) rfl) (SP.nil S161.sl)) rfl (fun w' hw' => (E.move (v := Value.pointer (some (⟨b29, 0, none⟩ : Addr))) rfl)) ?_
                  refine FB.t (i := 2) (bs 11 7) rfl (SP.on ((S161.box_now (i := 0) rfl).sub (j := 0) (n := 1) (c := [v43]) rfl) (SP.nil S161.sl)) rfl (fun w' hw' => (E.nilCheck rfl)) ?_
                  refine FB.t (i := 3) (bs 11 15) rfl (SP.on ((S161.box_now (i := 0) rfl).sub (j := 0) (n := 1) (c := [v43]) rfl) (SP.nil S161.sl)) rfl (fun w' hw' => (E.fieldAddr tf105_0 rfl)) ?_
                  refine FB.p (i := 4) (bs 11 31) 0 [7, 8, 9, 10] rfl (SP.on ((S161.box_now (i := 0) rfl).sub (j := 0) (n := 1) (c := [v43]) rfl) (SP.nil S161.sl)) rfl rfl (fun w' hw' => (E.load rfl (run_load0 Tryz.isAgg46 hw' rfl))) ?_
                  refine FB.t (i := 5) (bs 11 63) rfl (SP.on ((S161.box_now (i := 0) rfl).sub (j := 0) (n := 1) (c := [v43]) rfl) (SP.nil S161.sl)) rfl (fun w' hw' => (E.load rfl (run_loadA Tryz.isAgg94 Tryz.sizeOf94 (at158.now hw') rfl))) ?_
                  refine FB.all1 (i := 6) (by kernel_rfl) ?_
                  ·
                    obtain ⟨v171, w172, run173, S174⟩ := S161.buildSlice (P := Tryz.prog) te46 [Value.agg #[v108, Value.int .i64 (-1), Value.int .i64 y37.clause, Value.int .i64 0]] (parts := #[(0, Value.agg #[v108, Value.int .i64 (-1), Value.int .i64 y37.clause, Value.int .i64 0])]) (cells := [v108, Value.int .i64 (-1), Value.int .i64 y37.clause, Value.int .i64 0]) rfl (szs_cons rfl szs_nil) (fc_cons rfl fc_nil) (ones_cons h115.one (ones_cons rfl (ones_cons rfl (ones_cons rfl ones_nil)))) (Nat.le_of_ble_eq_true rfl)
                    have els175 : Els (up wa.heap.size H155) eResStep 4 [v108, Value.int .i64 (-1), Value.int .i64 y37.clause, Value.int .i64 0] [(ResStep.mk r101 (-1) y37.clause 0)] := (Els.snoc (H := (up wa.heap.size H155)) (E := eResStep) (k := 4) (c := [v108, Value.int .i64 (-1), Value.int .i64 y37.clause, Value.int .i64 0]) (x := (ResStep.mk r101 (-1) y37.clause 0)) Els.nil rfl ⟨_, rfl, (h115.mono (up_mono i157))⟩)
                    have nd176 : (bl [v108, Value.int .i64 (-1), Value.int .i64 y37.clause, Value.int .i64 0]).Nodup := by exact nd_one v108
                    refine FC.val (l' := (bs 11 127)) rfl (by kernel_rfl) rfl rfl rfl (E.buildSlice (B1 rfl) run173) ?_
                    refine ⟨(SP.on ((S174.box_now (i := 1) rfl).sub (j := 0) (n := 1) (c := [v43]) rfl) (SP.nil S174.sl)), ?_⟩
                    refine FB.all1 (i := 7) (by kernel_rfl) ?_
                    ·
                      obtain ⟨v179, w182, n180, cs181, run183, S184, els185, ce186⟩ := S174.appendO (P := Tryz.prog) te46 (i := 3) (j := 0) rfl (els47.mono (up_mono (((i75.tr r107.run.inc).tr i114).tr i157))) rfl els175 hz178
                      have S184 : St Ha wa H155 w182 [.row 94 4 v171 1 [v108, Value.int .i64 (-1), Value.int .i64 y37.clause, Value.int .i64 0], .box b29 105 [v43, v39], .row 3 1 v39 n40 cs41, .row 94 4 v179 n180 cs181] := S184
                      have nd187 : (bl cs181).Nodup := by rw [ce186]; exact nd_app nd48 nd176 (Els.dom (els47.mono (upI.tr (i75.tr r107.run.inc)))) (by exact nv116)
                      have S188 : St Ha wa H155 w182 [.box b29 105 [v43, v39], .row 3 1 v39 n40 cs41, .row 94 4 v179 n180 cs181] := S184.drop 0
                      refine FC.val (l' := (bs 11 255)) rfl (by kernel_rfl) rfl rfl rfl (E.append rfl rfl run183) ?_
                      refine ⟨(SP.on ((S188.box_now (i := 0) rfl).sub (j := 0) (n := 1) (c := [v43]) rfl) (SP.nil S188.sl)), ?_⟩
                      refine FB.t (i := 8) (bs 11 511) rfl (SP.on ((S188.box_now (i := 0) rfl).sub (j := 0) (n := 1) (c := [v43]) rfl) (SP.nil S188.sl)) rfl (fun w' hw' => (E.nilCheck rfl)) ?_
                      refine FB.t (i := 9) (bs 11 1023) rfl (SP.on ((S188.box_now (i := 0) rfl).sub (j := 0) (n := 1) (c := [v43]) rfl) (SP.nil S188.sl)) rfl (fun w' hw' => (E.fieldAddr tf105_0 rfl)) ?_
                      refine FB.all1 (i := 10) (by kernel_rfl) ?_
                      ·
                        obtain ⟨w203, run204, S205⟩ := S188.store (P := Tryz.prog) (t := 46) (i := 0) (j := 0) (cs' := [v179, v39]) (l' := [.box b29 105 [v179, v39], .row 3 1 v39 n40 cs41, .row 94 4 v179 n180 cs181]) (v := v179) (c := [v179]) rfl Tryz.sizeOf46 (Ln.cells (S188.row_ln (i := 2) rfl)) rfl (ones_cons (Ln.one (S188.row_ln (i := 2) rfl)) ones_nil) (Nat.le_of_ble_eq_true rfl) rfl rfl
                        refine FC.act (l' := (bs 11 2047)) rfl (by kernel_rfl) rfl rfl (E.store rfl rfl run204) ?_
                        refine ⟨(SP.o (SP.nil S205.sl)), ?_⟩
                        exact FB.done (by kernel_rfl) ⟨_, _, _, _, S205, (Inc.rfl _), els185, nd187, rfl⟩
                ·
                  rintro f231 w230 ⟨H227, v221, n222, cs223, S228, i229, els224, nd225, k232⟩
                  refine FW.seq (FW.region ?_)
                  refine FL.v (E.move k232) ?_
                  refine FL.v (E.nilCheck rfl) ?_
                  refine FL.v (E.fieldAddr tf105_0 rfl) ?_
                  refine FL.v (E.load rfl (run_load1 Tryz.isAgg46 (S228.box_now (i := 0) rfl) rfl)) ?_
                  refine FL.v (E.lenO te46 rfl S228 (i := 2) rfl els224 (by decide)) ?_
                  refine FL.v (E.sub rfl rfl) ?_
                  refine FL.v (E.assign (v := Value.int .i64 (wr ((len xs177) - 1))) rfl) ?_
                  refine FL.nil ?_
                  refine FW.ret ?_
                  obtain rfl := Option.some.inj hp
                  exact ⟨.inr rfl, res1 rfl rfl (by rw [hR145]; exact ⟨_, _, _, _, rfl, S228, (i157.tr i229), els224, nd225⟩)⟩
              clear hq145
              refine FC.call (l' := (bs 13 4095)) rfl (by kernel_rfl) rfl rfl rfl (E.call Tryz.call119 (A2 rfl rfl)) hc145 ?_
              intro e w236 hQ145
              rw [hR145] at hQ145
              obtain ⟨H233, v146, n147, cs148, rfl, S234, i235, els149, nd150⟩ := hQ145
              refine ⟨_, rfl, ?_⟩
              refine ⟨(SP.nil (Sl.of_inc ((r107.run.inc.tr i114).tr i235) S234.sl)), ?_⟩
              refine FB.t (i := 12) (bs 13 8191) rfl (SP.nil (Sl.of_inc ((r107.run.inc.tr i114).tr i235) S234.sl)) rfl (fun w' hw' => (E.assign (v := Value.int .i64 s145.2) rfl)) ?_
              exact FB.done (by kernel_rfl) ⟨_, _, _, _, S234, ((r107.run.inc.tr i114).tr i235), els149, nd150, k55, k57, rfl, k58, k59, k54⟩
        ·
          rintro f126 w125 ⟨H122, v117, n118, cs119, S123, i124, els120, nd121, k127, k128, k129, k130, k131, k132⟩
          obtain rfl := Option.some.inj hp
          exact ⟨rfl, ⟨_, _, _, _, S123, i124, els120, nd121, k127, k128, k129, k130, k131, k132⟩⟩
      ·
        refine FW.condF rfl c86 ?_
        obtain ⟨x142, hx143, hp⟩ := bnd hp
        obtain ⟨x168, hx169, hp⟩ := bnd hp
        obtain ⟨r189, hr190, hp⟩ := bnd hp
        refine FW.drawB (SX Ha wa H73 [.row 3 1 v39 n40 cs41]) (fun f w => ∃ H : GH, ∃ v206 : Value, ∃ n207 : Nat, ∃ cs208 : List Value, St Ha wa H w [.box b29 105 [v206, v39], .row 3 1 v39 n40 cs41, .row 94 4 v206 n207 cs208] ∧ Inc H73 H ∧ Els (up wa.heap.size H) eResStep 4 cs208 r189.2.steps ∧ (bl cs208).Nodup ∧ f 2 = Value.pointer (some ⟨b21, 0, none⟩) ∧ f 5 = Value.pointer (some (⟨b29, 0, none⟩ : Addr)) ∧ f 8 = Value.int .i64 r189.1 ∧ f 11 = v1 ∧ f 12 = Value.int .i64 (len a1) ∧ f 13 = Value.int .i64 ((i38 : Nat) : Int)) (by kernel_rfl) S74.sl ?_ ?_
        ·
          intro w133 r134
          have S135 := S74.call r134
          refine FB.phase [] (fun w => WAt w (Addr.add ⟨b29, 0, none⟩ 1) [v39]) ?_
          refine FB.t (i := 0) (bs 21 1) rfl (SP.on ((S135.box_now (i := 0) rfl).sub (j := 1) (n := 1) (c := [v39]) rfl) (SP.nil ⟨_, (S135.sel [1] (by decide) rfl), (Inc.rfl _)⟩)) rfl (fun w' hw' => (E.move k57)) ?_
          refine FB.t (i := 1) (bs 21 3) rfl (SP.on ((S135.box_now (i := 0) rfl).sub (j := 1) (n := 1) (c := [v39]) rfl) (SP.nil ⟨_, (S135.sel [1] (by decide) rfl), (Inc.rfl _)⟩)) rfl (fun w' hw' => (E.move k57)) ?_
          refine FB.t (i := 2) (bs 21 7) rfl (SP.on ((S135.box_now (i := 0) rfl).sub (j := 1) (n := 1) (c := [v39]) rfl) (SP.nil ⟨_, (S135.sel [1] (by decide) rfl), (Inc.rfl _)⟩)) rfl (fun w' hw' => (E.nilCheck rfl)) ?_
          refine FB.t (i := 3) (bs 21 15) rfl (SP.on ((S135.box_now (i := 0) rfl).sub (j := 1) (n := 1) (c := [v39]) rfl) (SP.nil ⟨_, (S135.sel [1] (by decide) rfl), (Inc.rfl _)⟩)) rfl (fun w' hw' => (E.fieldAddr tf105_1 rfl)) ?_
          refine FB.p (i := 4) (bs 21 31) 0 [7, 8, 19, 20] rfl (SP.on ((S135.box_now (i := 0) rfl).sub (j := 1) (n := 1) (c := [v39]) rfl) (SP.nil ⟨_, (S135.sel [1] (by decide) rfl), (Inc.rfl _)⟩)) rfl rfl (fun w' hw' => (E.load rfl (run_load0 Tryz.isAgg84 hw' rfl))) ?_
          refine FB.t (i := 5) (bs 21 63) rfl (SP.on ((S135.box_now (i := 0) rfl).sub (j := 1) (n := 1) (c := [v39]) rfl) (SP.nil ⟨_, (S135.sel [1] (by decide) rfl), (Inc.rfl _)⟩)) rfl (fun w' hw' => (E.fieldAddr tf98_1 rfl)) ?_
          refine FB.t (i := 6) (bs 21 127) rfl (SP.on ((S135.box_now (i := 0) rfl).sub (j := 1) (n := 1) (c := [v39]) rfl) (SP.nil ⟨_, (S135.sel [1] (by decide) rfl), (Inc.rfl _)⟩)) rfl (fun w' hw' => (E.load rfl (run_load1 Tryz.isAgg3 (at76.now hw'.sl) rfl))) ?_
          obtain ⟨p136, cs137, pt138, l139, at140, rel141, hall144⟩ := S135.row_atA (i := 1) rfl els42 (by decide) hx143
          obtain rfl := eI_open rel141
          refine FB.t (i := 7) (bs 21 255) rfl (SP.on ((S135.box_now (i := 0) rfl).sub (j := 1) (n := 1) (c := [v39]) rfl) (SP.nil ⟨_, (S135.sel [1] (by decide) rfl), (Inc.rfl _)⟩)) rfl (fun w' hw' => (E.indexAddr te84 rfl rfl pt138)) ?_
          refine FB.t (i := 8) (bs 21 511) rfl (SP.on ((S135.box_now (i := 0) rfl).sub (j := 1) (n := 1) (c := [v39]) rfl) (SP.nil ⟨_, (S135.sel [1] (by decide) rfl), (Inc.rfl _)⟩)) rfl (fun w' hw' => (E.load rfl (run_load0 Tryz.isAgg3 (hw'.use fun _ st => hall144 _ _ _ 0 st rfl) rfl))) ?_
          refine FB.t (i := 9) (bs 21 1023) rfl (SP.on ((S135.box_now (i := 0) rfl).sub (j := 1) (n := 1) (c := [v39]) rfl) (SP.nil ⟨_, (S135.sel [1] (by decide) rfl), (Inc.rfl _)⟩)) rfl (fun w' hw' => (E.move k57)) ?_
          refine FB.t (i := 10) (bs 21 2047) rfl (SP.on ((S135.box_now (i := 0) rfl).sub (j := 1) (n := 1) (c := [v39]) rfl) (SP.nil ⟨_, (S135.sel [1] (by decide) rfl), (Inc.rfl _)⟩)) rfl (fun w' hw' => (E.nilCheck rfl)) ?_
          refine FB.t (i := 11) (bs 21 4095) rfl (SP.on ((S135.box_now (i := 0) rfl).sub (j := 1) (n := 1) (c := [v39]) rfl) (SP.nil ⟨_, (S135.sel [1] (by decide) rfl), (Inc.rfl _)⟩)) rfl (fun w' hw' => (E.fieldAddr tf105_1 rfl)) ?_
          refine FB.p (i := 12) (bs 21 8191) 0 [15, 16, 19, 20] rfl (SP.on ((S135.box_now (i := 0) rfl).sub (j := 1) (n := 1) (c := [v39]) rfl) (SP.nil ⟨_, (S135.sel [1] (by decide) rfl), (Inc.rfl _)⟩)) rfl rfl (fun w' hw' => (E.load rfl (run_load0 Tryz.isAgg84 hw' rfl))) ?_
          refine FB.t (i := 13) (bs 21 16383) rfl (SP.on ((S135.box_now (i := 0) rfl).sub (j := 1) (n := 1) (c := [v39]) rfl) (SP.nil ⟨_, (S135.sel [1] (by decide) rfl), (Inc.rfl _)⟩)) rfl (fun w' hw' => (E.fieldAddr tf98_2 rfl)) ?_
          refine FB.t (i := 14) (bs 21 32767) rfl (SP.on ((S135.box_now (i := 0) rfl).sub (j := 1) (n := 1) (c := [v39]) rfl) (SP.nil ⟨_, (S135.sel [1] (by decide) rfl), (Inc.rfl _)⟩)) rfl (fun w' hw' => (E.load rfl (run_load1 Tryz.isAgg3 (at76.now hw'.sl) rfl))) ?_
          obtain ⟨p162, cs163, pt164, l165, at166, rel167, hall170⟩ := S135.row_atA (i := 1) rfl els42 (by decide) hx169
          obtain rfl := eI_open rel167
          refine FB.t (i := 15) (bs 21 65535) rfl (SP.on ((S135.box_now (i := 0) rfl).sub (j := 1) (n := 1) (c := [v39]) rfl) (SP.nil ⟨_, (S135.sel [1] (by decide) rfl), (Inc.rfl _)⟩)) rfl (fun w' hw' => (E.indexAddr te84 rfl rfl pt164)) ?_
          refine FB.t (i := 16) (bs 21 131071) rfl (SP.on ((S135.box_now (i := 0) rfl).sub (j := 1) (n := 1) (c := [v39]) rfl) (SP.nil ⟨_, (S135.sel [1] (by decide) rfl), (Inc.rfl _)⟩)) rfl (fun w' hw' => (E.load rfl (run_load0 Tryz.isAgg3 (hw'.use fun _ st => hall170 _ _ _ 0 st rfl) rfl))) ?_
          refine FB.t (i := 17) (bs 21 262143) rfl (SP.on ((S135.box_now (i := 0) rfl).sub (j := 1) (n := 1) (c := [v39]) rfl) (SP.nil ⟨_, (S135.sel [1] (by decide) rfl), (Inc.rfl _)⟩)) rfl (fun w' hw' => (E.fieldAddr tf98_0 rfl)) ?_
          refine FB.t (i := 18) (bs 21 524287) rfl (SP.on ((S135.box_now (i := 0) rfl).sub (j := 1) (n := 1) (c := [v39]) rfl) (SP.nil ⟨_, (S135.sel [1] (by decide) rfl), (Inc.rfl _)⟩)) rfl (fun w' hw' => (E.load rfl (run_load1 Tryz.isAgg3 (at76.now hw'.sl) rfl))) ?_
          refine FB.all1 (i := 19) (by kernel_rfl) ?_
          ·
            have S191 : St Ha wa H73 w133 [.row 3 1 v39 n40 cs41, .box b29 105 [v43, v39], .row 94 4 v43 n44 cs45] := S135.front 1 rfl rfl
            have S192 : St Ha wa H73 w133 [.row 94 4 v43 n44 cs45, .row 3 1 v39 n40 cs41, .box b29 105 [v43, v39]] := S191.front 2 rfl rfl
            have S193 : St Ha wa H73 w133 [.box b29 105 [v43, v39], .row 94 4 v43 n44 cs45, .row 3 1 v39 n40 cs41] := S192.front 2 rfl rfl
            refine FC.call (l' := (bs 21 1048575)) rfl (by kernel_rfl) rfl rfl rfl (E.call Tryz.call120 (A4 rfl rfl rfl rfl)) (w_impl_weaver_resolvent (L := []) S193 (a0 := (weaver.mk s38.2 s38.1)) (els47.mono (up_mono i75)) nd48 (els42.mono (up_mono i75)) x142 x168 y37.var hr190) ?_
            rintro e w195 ⟨H194, v198, n199, cs200, rfl, ⟨S196, i197⟩, els201, nd202⟩
            refine ⟨_, rfl, ?_⟩
            have S196 : St Ha wa H194 w195 [.box b29 105 [v198, v39], .row 94 4 v198 n199 cs200, .row 3 1 v39 n40 cs41] := S196
            refine ⟨(SP.on ((S196.box_now (i := 0) rfl).sub (j := 1) (n := 1) (c := [v39]) rfl) (SP.nil ⟨_, (S196.sel [2] (by decide) rfl), i197⟩)), ?_⟩
            refine FB.t (i := 20) (bs 21 2097151) rfl (SP.on ((S196.box_now (i := 0) rfl).sub (j := 1) (n := 1) (c := [v39]) rfl) (SP.nil ⟨_, (S196.sel [2] (by decide) rfl), i197⟩)) rfl (fun w' hw' => (E.assign (v := Value.int .i64 r189.1) rfl)) ?_
            exact FB.done (by kernel_rfl) ⟨_, _, _, _, (S196.sel [0, 2, 1] (by decide) rfl), i197, els201, nd202, k55, k57, rfl, k58, k59, k54⟩
        ·
          rintro f215 w214 ⟨H211, v206, n207, cs208, S212, i213, els209, nd210, k216, k217, k218, k219, k220, k221⟩
          obtain rfl := Option.some.inj hp
          exact ⟨rfl, ⟨_, _, _, _, S212, i213, els209, nd210, k216, k217, k218, k219, k220, k221⟩⟩
    ·
      rintro s77 rfl f226 w225 ⟨H222, v80, n81, cs82, S223, i224, els83, nd85, k227, k228, k229, k230, k231, k232⟩
      replace hp := el_go hp
      refine FW.region ?_
      refine FL.v (E.move k228) ?_
      refine FL.v (E.move k228) ?_
      refine FL.v (E.nilCheck rfl) ?_
      refine FL.v (E.fieldAddr tf105_1 rfl) ?_
      refine FL.v (E.load rfl (run_load1 Tryz.isAgg84 (S223.box_now (i := 0) rfl) rfl)) ?_
      refine FL.v (E.move k229) ?_
      obtain ⟨v233, w234, run235, S236⟩ := S223.buildSlice (P := Tryz.prog) te84 [Value.int .i64 s77.2] (parts := #[(0, Value.int .i64 s77.2)]) (cells := [Value.int .i64 s77.2]) rfl (szs_cons rfl szs_nil) (fc_cons rfl fc_nil) (ones_cons rfl ones_nil) (Nat.le_of_ble_eq_true rfl)
      have els237 : Els (up wa.heap.size H222) eI 1 [Value.int .i64 s77.2] [s77.2] := (Els.snoc (H := (up wa.heap.size H222)) (E := eI) (k := 1) (c := [Value.int .i64 s77.2]) (x := s77.2) Els.nil rfl rfl)
      refine FL.v (E.buildSlice (B1 rfl) run235) ?_
      obtain ⟨xs238, hz239, hp⟩ := bnd hp
      obtain ⟨v240, w243, n241, cs242, run244, S245, els246, ce247⟩ := S236.appendO (P := Tryz.prog) te84 (i := 2) (j := 0) rfl (els42.mono (up_mono (i75.tr i224))) rfl els237 hz239
      have S245 : St Ha wa H222 w243 [.row 3 1 v233 1 [Value.int .i64 s77.2], .box b29 105 [v80, v39], .row 3 1 v240 n241 cs242, .row 94 4 v80 n81 cs82] := S245
      have S248 : St Ha wa H222 w243 [.box b29 105 [v80, v39], .row 3 1 v240 n241 cs242, .row 94 4 v80 n81 cs82] := S245.drop 0
      refine FL.v (E.append rfl rfl run244) ?_
      refine FL.v (E.nilCheck rfl) ?_
      refine FL.v (E.fieldAddr tf105_1 rfl) ?_
      obtain ⟨w249, run250, S251⟩ := S248.store (P := Tryz.prog) (t := 84) (i := 0) (j := 1) (cs' := [v80, v240]) (l' := [.box b29 105 [v80, v240], .row 3 1 v240 n241 cs242, .row 94 4 v80 n81 cs82]) (v := v240) (c := [v240]) rfl Tryz.sizeOf84 (Ln.cells (S248.row_ln (i := 1) rfl)) rfl (ones_cons (Ln.one (S248.row_ln (i := 1) rfl)) ones_nil) (Nat.le_of_ble_eq_true rfl) rfl rfl
      refine FL.act rfl rfl (E.store rfl rfl run250) ?_
      refine FL.nil (FW.region ?_)
      refine FL.v (E.add k232 rfl) ?_
      refine FL.v (E.move (v := Value.int .i64 (wr (((i38 : Nat) : Int) + 1))) rfl) ?_
      refine FL.nil ?_
      obtain rfl := Option.some.inj hp
      exact ⟨rfl, ⟨_, _, _, _, _, _, _, S251, ((i51.tr i75).tr i224), els246, els83, nd85, (nat_succ rfl (lt_of_get hx38) (p1.mono (((i27.tr i51).tr i75).tr i224)).le), k227, k228, k230, k231⟩⟩
    ·
      intro x79; exact x79.elim
  ·
    clear hp hq
    rintro s38 f278 w277 ⟨H274, v39, n40, cs41, v43, n44, cs45, S275, i276, els42, els47, nd48, k279, k280, k281, k282, k283⟩
    refine FW.seq (FW.region ?_)
    refine FL.v (E.lss k279 k283) ?_
    refine FL.nil (FW.seq ?_)
    refine FW.condF rfl dlt_len ?_
    refine FW.exit ?_
    exact ⟨nofun, rfl, ⟨_, _, _, _, _, _, _, S275, i276, els42, els47, nd48, k281⟩⟩
  ·
    clear hq
    intro e f257 w256 hD
    rcases q38 with s38 | x38
    ·
      obtain ⟨rfl, hD⟩ := hD
      obtain ⟨H253, v39, n40, cs41, v43, n44, cs45, S254, i255, els42, els47, nd48, k258⟩ := hD
      replace hp := el_go hp
      refine FW.seq (FW.region ?_)
      refine FL.v (E.move k258) ?_
      refine FL.v (E.assign (v := Value.pointer (some (⟨b29, 0, none⟩ : Addr))) rfl) ?_
      refine FL.nil ?_
      refine FW.ret ?_
      obtain ⟨H259, S260, i261, ns264, nv263⟩ := S254.sealRowN (i := 2) (l' := [.box b29 105 [v43, v39], .row 3 1 v39 n40 cs41]) rfl els47 nd48 (by decide) rfl
      have h262 := ns264.rsl
      obtain ⟨H265, S266, i267, h268, nv269⟩ := S260.sealRowU (i := 1) (l' := [.box b29 105 [v43, v39]]) rfl (els42.mono (up_mono i261)) (by decide) rfl
      obtain ⟨H270, S271, i272, at273⟩ := S266.sealBox (i := 0) (l' := []) rfl rfl
      obtain rfl := Option.some.inj hp
      exact ⟨.inr rfl, res1 rfl rfl ⟨_, _, rfl, S271.run, ⟨_, rfl, _, _, ⟨_, (ns264.mono (up_mono (i267.tr i272)))⟩, (h268.mono (up_mono i272)), at273⟩⟩⟩
    · exact x38.elim

@[reducible] def p_impl_TreeClauses (Ha : GH) (wa : World) (r : ((List (List Int)) × Bool)) : Ending → World → Prop :=
  fun e w' => ∃ H' : GH, ∃ v0 : Value, ∃ n0 : Nat, ∃ c0 : List Value, e = .returned (Value.tuple #[v0, Value.bool r.2]) ∧ St Ha wa H' w' [.row 84 1 v0 n0 c0] ∧ Els (up wa.heap.size H') (eL eI 1) 1 c0 r.1 ∧ (bl c0).Nodup
theorem w_impl_TreeClauses {Ha : GH} {wa : World} (hs : Sl Ha wa) (a0 : Cnf) (v0_1 : Value) (p0_1 : RSl Ha (eL eI 1) 1 v0_1 a0.clauses) (v1 : Value) (a1 : List TreeNode) (p1 : RSl Ha eTreeNode 4 v1 a1) {r : ((List (List Int)) × Bool)} (hp : (PF.impl_TreeClauses a0 a1) = some r) :
    Calls Tryz.prog 30 #[Value.agg #[Value.int .i64 a0.vars, v0_1], v1] wa (p_impl_TreeClauses Ha wa r) := by
  unfold PF.impl_TreeClauses at hp
  have S0 := St.init hs
  refine calls_go (N := 40) (args := [Value.agg #[Value.int .i64 a0.vars, v0_1], v1]) Tryz.func30 rfl rfl rfl ?_
  refine FW.seq (FW.region ?_)
  obtain ⟨b21, w22, run23, S24⟩ := S0.box (P := Tryz.prog) 30 [Value.int .i64 a0.vars, v0_1] (v := Value.agg #[Value.int .i64 a0.vars, v0_1]) rfl (ones_cons rfl (ones_cons p0_1.one ones_nil))
  refine FL.v (E.box rfl run23) ?_
  obtain ⟨H25, S26, i27, at28⟩ := S24.sealBox (i := 0) (l' := []) rfl rfl
  refine FL.v (E.assign (v := Value.slice none 0 0) rfl) ?_
  refine FL.v (E.assign (v := Value.bool false) rfl) ?_
  refine FL.nil (FW.seq (FW.seq (FW.region ?_)))
  refine FL.v (E.load rfl (run_loadA Tryz.isAgg30 Tryz.sizeOf30 (at28.now S26.sl) rfl)) ?_
  refine FL.v (E.move (v := v1) rfl) ?_
  obtain ⟨r29, hr30, hp⟩ := bnd hp
  refine FL.call rfl rfl rfl (E.call Tryz.call66 (A2 rfl rfl)) (w_impl_searchTree S26.sl a0 v0_1 (p0_1.mono i27) v1 a1 (p1.mono i27) hr30) ?_
  rintro e w31 ⟨rfl, r32⟩
  refine ⟨_, rfl, ?_⟩
  have S33 := S26.call r32
  refine FL.v (E.not rfl) ?_
  refine FL.nil ?_
  rcases ifB hp with ⟨c34, hp⟩ | ⟨c34, hp⟩
  ·
    refine FW.condT rfl c34 ?_
    refine FW.seq (FW.region ?_)
    refine FL.v (E.assign (v := Value.slice none 0 0) rfl) ?_
    refine FL.v (E.assign (v := Value.bool false) rfl) ?_
    refine FL.nil ?_
    refine FW.ret ?_
    obtain rfl := Option.some.inj hp
    exact ⟨.inr rfl, res2 rfl rfl rfl ⟨_, _, _, _, rfl, (S33.nil 84 1), Els.nil, List.nodup_nil⟩⟩
  ·
    refine FW.condF rfl c34 ?_
    refine FW.skip (FW.seq (FW.region ?_))
    refine FL.v (E.load rfl (run_loadA Tryz.isAgg30 Tryz.sizeOf30 (at28.now S33.sl) rfl)) ?_
    refine FL.v (E.move (v := v1) rfl) ?_
    obtain ⟨r35, hr36, hp⟩ := bnd hp
    refine FL.call rfl rfl rfl (E.call Tryz.call67 (A2 rfl rfl)) (w_impl_treeSteps S33.sl a0 v0_1 (p0_1.mono i27) v1 a1 (p1.mono i27) hr36) ?_
    rintro e w38 ⟨H37, v41, rfl, r40, h42⟩
    refine ⟨_, rfl, ?_⟩
    have S39 := S33.call r40
    refine FL.v (E.assign (v := v41) rfl) ?_
    refine FL.nil (FW.seq (FW.region ?_))
    refine FL.v (E.assign (v := Value.slice none 0 0) rfl) ?_
    refine FL.nil (FW.seq (FW.seq ?_))
    obtain ⟨y43, hy44, hp⟩ := bnd hp
    rw [hy44] at h42
    obtain ⟨q45, rfl, v46, v51, ⟨c49, ns48⟩, h52, at54⟩ := h42
    have h47 := ns48.rsl
    have nv50 : New H25 [v46] := New.of_up S33.sl h47.dom
    have h47 := h47.mono (up_le S33.size)
    have ns48 := ns48.mono (up_le S33.size)
    have nv53 : New H25 [v51] := New.of_up S33.sl h52.dom
    have h52 := h52.mono (up_le S33.size)
    refine FW.region ?_
    refine FL.v (E.move (v := Value.pointer (some q45)) rfl) ?_
    refine FL.v (E.nilCheck rfl) ?_
    refine FL.v (E.fieldAddr tf105_1 rfl) ?_
    refine FL.v (E.load rfl (run_load1 Tryz.isAgg84 (at54.now S39.sl) rfl)) ?_
    refine FL.v (E.lenP te84 rfl h52) ?_
    refine FL.v (E.move (v := Value.int .i64 0) rfl) ?_
    refine FL.nil ?_
    obtain ⟨q56, hq, hp⟩ := bndR hp
    refine FW.block ?_
    refine FW.mono (FW.forL (S := (List (List Int))) (X := Empty) (fun (i56 : Nat) (s56 : (List (List Int))) f w => ∃ H : GH, ∃ v57 : Value, ∃ n58 : Nat, ∃ cs59 : List Value, St Ha wa H w [.row 84 1 v57 n58 cs59] ∧ Inc H37 H ∧ Els (up wa.heap.size H) (eL eI 1) 1 cs59 s56 ∧ (bl cs59).Nodup ∧ f 22 = Value.int .i64 ((i56 : Nat) : Int) ∧ f 6 = Value.pointer (some q45) ∧ f 7 = v57 ∧ f 20 = v51 ∧ f 21 = Value.int .i64 (len y43.became)) (fun (q : Rs (List (List Int)) Empty) e f w => match q with | .go s56 => e = Exit.exit 0 ∧ (∃ H : GH, ∃ v57 : Value, ∃ n58 : Nat, ∃ cs59 : List Value, St Ha wa H w [.row 84 1 v57 n58 cs59] ∧ Inc H37 H ∧ Els (up wa.heap.size H) (eL eI 1) 1 cs59 s56 ∧ (bl cs59).Nodup ∧ f 7 = v57) | .rt x => x.elim) hq ⟨_, _, _, _, (S39.nil 84 1), (Inc.rfl _), Els.nil, List.nodup_nil, rfl, rfl, rfl, rfl, rfl⟩ ?_ ?_) ?_
    ·
      clear hp hq
      rintro i56 y55 s56 f125 w124 ⟨H121, v57, n58, cs59, S122, i123, els60, nd61, k126, k127, k128, k129, k130⟩ hx56 o180 hp
      refine FW.seq (FW.region ?_)
      refine FL.v (E.lssT k126 k130 (lss_len hx56)) ?_
      refine FL.nil (FW.seq ?_)
      refine FW.condT rfl rfl ?_
      refine FW.skip (FW.seq (FW.block (FW.seq (FW.region ?_))))
      obtain ⟨p131, cs132, pt133, l134, at135, rel136⟩ := h52.at (ix_nat hx56)
      obtain rfl := eI_open rel136
      refine FL.v (E.indexAddr te84 k129 k126 pt133) ?_
      refine FL.v (E.load rfl (run_load0 Tryz.isAgg3 ((at135.mono (upI.tr i123)).now S122.sl) rfl)) ?_
      refine FL.v (E.assign (v := Value.int .i64 y55) rfl) ?_
      refine FL.nil (FW.region ?_)
      refine FL.v (E.move k128) ?_
      refine FL.v (E.move k127) ?_
      refine FL.v (E.nilCheck rfl) ?_
      refine FL.v (E.fieldAddr tf105_0 rfl) ?_
      refine FL.v (E.load rfl (run_load1 Tryz.isAgg46 ((at54.mono i123).now S122.sl) rfl)) ?_
      refine FL.v (E.move (v := Value.int .i64 y55) rfl) ?_
      obtain ⟨x143, hx144, hp⟩ := bnd hp
      obtain ⟨p137, cs138, pt139, l140, at141, rel142⟩ := h47.at hx144
      obtain ⟨v145, rfl, h146⟩ := eResStep_open rel142
      refine FL.v (E.indexAddr te46 rfl rfl pt139) ?_
      refine FL.v (E.fieldAddr tf94_0 rfl) ?_
      refine FL.v (E.load rfl (run_load1 Tryz.isAgg84 ((at141.mono (upI.tr i123)).now S122.sl) rfl)) ?_
      obtain ⟨r147, hr148, hp⟩ := bnd hp
      refine FL.call rfl rfl rfl (E.call Tryz.call62 (A1 rfl)) (w_slices_Clone_int_int S122.sl v145 x143.clause (h146.mono (upI.tr i123)) hr148) ?_
      rintro e w150 ⟨H149, v153, n154, cs155, rfl, r152, els156⟩
      refine ⟨_, rfl, ?_⟩
      have els156 := els156.mono (up_le S122.size)
      have S151 := S122.join (l' := [.row 3 1 v153 n154 cs155, .row 84 1 v57 n58 cs59]) r152 rfl
      obtain ⟨H157, S158, i159, h160, nv161⟩ := S151.sealRowU (i := 0) (l' := [.row 84 1 v57 n58 cs59]) rfl els156 (by decide) rfl
      obtain ⟨v162, w163, run164, S165⟩ := S158.buildSlice (P := Tryz.prog) te22 [v153] (parts := #[(0, v153)]) (cells := [v153]) rfl (szs_cons (cells_size h160.cells) szs_nil) (fc_cons h160.cells fc_nil) (ones_cons h160.one ones_nil) (Nat.le_of_ble_eq_true rfl)
      have els166 : Els (up wa.heap.size H157) (eL eI 1) 1 [v153] [r147] := (Els.snoc (H := (up wa.heap.size H157)) (E := (eL eI 1)) (k := 1) (c := [v153]) (x := r147) Els.nil rfl ⟨_, rfl, h160⟩)
      have nd167 : (bl [v153]).Nodup := by exact nd_one v153
      refine FL.v (E.buildSlice (B1 rfl) run164) ?_
      obtain ⟨xs168, hz169, hp⟩ := bnd hp
      obtain ⟨v170, w173, n171, cs172, run174, S175, els176, ce177⟩ := S165.appendO (P := Tryz.prog) te22 (i := 1) (j := 0) rfl (els60.mono (up_mono (r152.run.inc.tr i159))) rfl els166 hz169
      have S175 : St Ha wa H157 w173 [.row 84 1 v162 1 [v153], .row 84 1 v170 n171 cs172] := S175
      have nd178 : (bl cs172).Nodup := by rw [ce177]; exact nd_app nd61 nd167 (Els.dom (els60.mono (upI.tr r152.run.inc))) (by exact nv161)
      have S179 : St Ha wa H157 w173 [.row 84 1 v170 n171 cs172] := S175.drop 0
      refine FL.v (E.append rfl rfl run174) ?_
      refine FL.v (E.assign (v := v170) rfl) ?_
      refine FL.nil (FW.region ?_)
      refine FL.v (E.add k126 rfl) ?_
      refine FL.v (E.move (v := Value.int .i64 (wr (((i56 : Nat) : Int) + 1))) rfl) ?_
      refine FL.nil ?_
      obtain rfl := Option.some.inj hp
      exact ⟨rfl, ⟨_, _, _, _, S179, ((i123.tr r152.run.inc).tr i159), els176, nd178, (nat_succ rfl (lt_of_get hx56) (h52.mono (upI.tr ((i123.tr r152.run.inc).tr i159))).le), k127, rfl, k129, k130⟩⟩
    ·
      clear hp hq
      rintro s56 f191 w190 ⟨H187, v57, n58, cs59, S188, i189, els60, nd61, k192, k193, k194, k195, k196⟩
      refine FW.seq (FW.region ?_)
      refine FL.v (E.lss k192 k196) ?_
      refine FL.nil (FW.seq ?_)
      refine FW.condF rfl dlt_len ?_
      refine FW.exit ?_
      exact ⟨nofun, rfl, ⟨_, _, _, _, S188, i189, els60, nd61, k194⟩⟩
    ·
      clear hq
      intro e f185 w184 hD
      rcases q56 with s56 | x56
      ·
        obtain ⟨rfl, hD⟩ := hD
        obtain ⟨H181, v57, n58, cs59, S182, i183, els60, nd61, k186⟩ := hD
        replace hp := el_go hp
        refine FW.seq (FW.region ?_)
        refine FL.v (E.move k186) ?_
        refine FL.v (E.assign (v := v57) rfl) ?_
        refine FL.v (E.assign (v := Value.bool true) rfl) ?_
        refine FL.nil ?_
        refine FW.ret ?_
        obtain rfl := Option.some.inj hp
        exact ⟨.inr rfl, res2 rfl rfl rfl ⟨_, _, _, _, rfl, S182, els60, nd61⟩⟩
      · exact x56.elim

theorem w_laws_eqIntS {Ha : GH} {wa : World} (hs : Sl Ha wa) (v0 : Value) (a0 : List Int) (p0 : RSl Ha eI 1 v0 a0) (v1 : Value) (a1 : List Int) (p1 : RSl Ha eI 1 v1 a1) {r : Bool} (hp : (PF.laws_eqIntS a0 a1) = some r) :
  Calls Tryz.prog 54 #[v0, v1] wa (Sc Ha wa (Value.bool r)) := by
 unfold PF.laws_eqIntS at hp
 have S0 := St.init hs
 refine calls_go (N := 26) (args := [v0, v1]) Tryz.func54 rfl rfl rfl ?_
 refine FW.seq (FW.region ?_)
 refine FL.v (E.assign (v := Value.bool false) rfl) ?_
 refine FL.nil (FW.seq (FW.seq (FW.region ?_)))
 refine FL.v (E.move (v := v0) rfl) ?_
 refine FL.v (E.lenP te84 rfl p0) ?_
 refine FL.v (E.move (v := v1) rfl) ?_
 refine FL.v (E.lenP te84 rfl p1) ?_
 refine FL.v (E.neq rfl rfl) ?_
 refine FL.nil ?_
 rcases ifB hp with ⟨c21, hp⟩ | ⟨c21, hp⟩
 ·
  refine FW.condT rfl c21 ?_
  refine FW.seq (FW.region ?_)
  refine FL.v (E.assign (v := Value.bool false) rfl) ?_
  refine FL.nil ?_
  refine FW.ret ?_
  obtain rfl := Option.some.inj hp
  exact ⟨.inr rfl, res1 rfl rfl ⟨rfl, S0.back⟩⟩
 ·
  refine FW.condF rfl c21 ?_
  refine FW.skip (FW.seq (FW.seq (FW.region ?_)))
  refine FL.v (E.assign (v := Value.int .i64 0) rfl) ?_
  refine FL.nil ?_
  obtain ⟨q23, hq, hp⟩ := bndR hp
  refine FW.block ?_
  refine FW.mono (FW.forL (S := Unit) (X := Bool) (fun (i23 : Nat) (s23 : Unit) f w => ∃ H : GH, St Ha wa H w [] ∧ Inc Ha H ∧ f 5 = Value.int .i64 ((i23 : Nat) : Int) ∧ f 0 = v0 ∧ f 1 = v1) (fun q e f w => match q with | .go s23 => e = Exit.exit 0 ∧ (∃ H : GH, St Ha wa H w [] ∧ Inc Ha H) | .rt x => ((e = Exit.ret) ∧ (fun e f w => (e = Exit.normal ∨ e = Exit.ret) ∧ ∀ a, Fr (δ := []) 26 a f → ∃ v, (results Tryz.f54 a.tmps).run Tryz.prog w = .ok v w ∧ (Sc Ha wa (Value.bool x)) (.returned v) w) e f w)) hq ⟨_, S0, (Inc.rfl _), rfl, rfl, rfl⟩ ?_ ?_) ?_
  ·
   clear hp hq
   rintro i23 y22 s23 f55 w54 ⟨H51, S52, i53, k56, k57, k58⟩ hx23 o78 hp
   refine FW.seq (FW.seq (FW.region ?_))
   refine FL.v (E.move k56) ?_
   refine FL.v (E.move k57) ?_
   refine FL.v (E.lenP te84 rfl p0) ?_
   refine FL.v (E.lssT rfl rfl (lss_len hx23)) ?_
   refine FL.nil ?_
   refine FW.condT rfl rfl ?_
   refine FW.skip (FW.seq (FW.block (FW.seq ?_)))
   refine FW.draw (fun w' => Run w54.heap.size H51 w54 H51 w') (by kernel_rfl) (by kernel_rfl) (run_drew S52.sl) ?_
   refine FD.val rfl rfl rfl (fun w' hw' => (E.move k57)) ?_
   refine FD.val rfl rfl rfl (fun w' hw' => (E.move k56)) ?_
   obtain ⟨p60, cs61, pt62, l63, at64, rel65⟩ := p0.at (ix_nat hx23)
   obtain rfl := eI_open rel65
   refine FD.val rfl rfl rfl (fun w' hw' => (E.indexAddr te84 rfl rfl pt62)) ?_
   refine FD.val rfl rfl rfl (fun w' hw' => (E.load rfl (run_load0 Tryz.isAgg3 ((at64.mono i53).now (S52.call hw').sl) rfl))) ?_
   refine FD.val rfl rfl rfl (fun w' hw' => (E.move k58)) ?_
   refine FD.val rfl rfl rfl (fun w' hw' => (E.move k56)) ?_
   obtain ⟨x72, hx73, hp⟩ := bnd hp
   obtain ⟨p66, cs67, pt68, l69, at70, rel71⟩ := p1.at hx73
   obtain rfl := eI_open rel71
   refine FD.val rfl rfl rfl (fun w' hw' => (E.indexAddr te84 rfl rfl pt68)) ?_
   refine FD.val rfl rfl rfl (fun w' hw' => (E.load rfl (run_load0 Tryz.isAgg3 ((at70.mono i53).now (S52.call hw').sl) rfl))) ?_
   refine FD.val rfl rfl rfl (fun w' hw' => (E.neq rfl rfl)) ?_
   refine FD.nil ?_
   intro w74 r76
   have S75 := S52.call r76
   rcases ifB hp with ⟨c77, hp⟩ | ⟨c77, hp⟩
   ·
    refine FW.condT rfl c77 ?_
    refine FW.seq (FW.region ?_)
    refine FL.v (E.assign (v := Value.bool false) rfl) ?_
    refine FL.nil ?_
    refine FW.ret ?_
    obtain rfl := Option.some.inj hp
    exact ⟨nofun, rfl, ⟨.inr rfl, res1 rfl rfl ⟨rfl, S75.back⟩⟩⟩
   ·
    refine FW.condF rfl c77 ?_
    refine FW.skip (FW.region ?_)
    refine FL.v (E.move k56) ?_
    refine FL.v (E.add rfl rfl) ?_
    refine FL.v (E.assign (v := Value.int .i64 (wr (((i23 : Nat) : Int) + 1))) rfl) ?_
    refine FL.nil ?_
    obtain rfl := Option.some.inj hp
    exact ⟨rfl, ⟨_, S75, i53, (nat_succ rfl (lt_of_get hx23) (p0.mono i53).le), k57, k58⟩⟩
  ·
   clear hp hq
   rintro s23 f88 w87 ⟨H84, S85, i86, k89, k90, k91⟩
   refine FW.seq (FW.seq (FW.region ?_))
   refine FL.v (E.move k89) ?_
   refine FL.v (E.move k90) ?_
   refine FL.v (E.lenP te84 rfl p0) ?_
   refine FL.v (E.lss rfl rfl) ?_
   refine FL.nil ?_
   refine FW.condF rfl dlt_len ?_
   refine FW.exit ?_
   exact ⟨nofun, rfl, ⟨_, S85, i86⟩⟩
  ·
   clear hq
   intro e f83 w82 hD
   rcases q23 with s23 | x23
   ·
    obtain ⟨rfl, hD⟩ := hD
    obtain ⟨H79, S80, i81⟩ := hD
    replace hp := el_go hp
    refine FW.seq (FW.region ?_)
    refine FL.v (E.assign (v := Value.bool true) rfl) ?_
    refine FL.nil ?_
    refine FW.ret ?_
    obtain rfl := Option.some.inj hp
    exact ⟨.inr rfl, res1 rfl rfl ⟨rfl, S80.back⟩⟩
   ·
    obtain ⟨he, hL⟩ := hD
    replace hp := el_rt hp
    obtain rfl := Option.some.inj hp
    subst he
    exact hL

theorem w_laws_eqIntSS {Ha : GH} {wa : World} (hs : Sl Ha wa) (v0 : Value) (a0 : List (List Int)) (p0 : RSl Ha (eL eI 1) 1 v0 a0) (v1 : Value) (a1 : List (List Int)) (p1 : RSl Ha (eL eI 1) 1 v1 a1) {r : Bool} (hp : (PF.laws_eqIntSS a0 a1) = some r) :
  Calls Tryz.prog 14 #[v0, v1] wa (Sc Ha wa (Value.bool r)) := by
 unfold PF.laws_eqIntSS at hp
 have S0 := St.init hs
 refine calls_go (N := 27) (args := [v0, v1]) Tryz.func14 rfl rfl rfl ?_
 refine FW.seq (FW.region ?_)
 refine FL.v (E.assign (v := Value.bool false) rfl) ?_
 refine FL.nil (FW.seq (FW.seq (FW.region ?_)))
 refine FL.v (E.move (v := v0) rfl) ?_
 refine FL.v (E.lenP te22 rfl p0) ?_
 refine FL.v (E.move (v := v1) rfl) ?_
 refine FL.v (E.lenP te22 rfl p1) ?_
 refine FL.v (E.neq rfl rfl) ?_
 refine FL.nil ?_
 rcases ifB hp with ⟨c21, hp⟩ | ⟨c21, hp⟩
 ·
  refine FW.condT rfl c21 ?_
  refine FW.seq (FW.region ?_)
  refine FL.v (E.assign (v := Value.bool false) rfl) ?_
  refine FL.nil ?_
  refine FW.ret ?_
  obtain rfl := Option.some.inj hp
  exact ⟨.inr rfl, res1 rfl rfl ⟨rfl, S0.back⟩⟩
 ·
  refine FW.condF rfl c21 ?_
  refine FW.skip (FW.seq (FW.seq (FW.region ?_)))
  refine FL.v (E.assign (v := Value.int .i64 0) rfl) ?_
  refine FL.nil ?_
  obtain ⟨q23, hq, hp⟩ := bndR hp
  refine FW.block ?_
  refine FW.mono (FW.forL (S := Unit) (X := Bool) (fun (i23 : Nat) (s23 : Unit) f w => ∃ H : GH, St Ha wa H w [] ∧ Inc Ha H ∧ f 5 = Value.int .i64 ((i23 : Nat) : Int) ∧ f 0 = v0 ∧ f 1 = v1) (fun q e f w => match q with | .go s23 => e = Exit.exit 0 ∧ (∃ H : GH, St Ha wa H w [] ∧ Inc Ha H) | .rt x => ((e = Exit.ret) ∧ (fun e f w => (e = Exit.normal ∨ e = Exit.ret) ∧ ∀ a, Fr (δ := []) 27 a f → ∃ v, (results Tryz.f14 a.tmps).run Tryz.prog w = .ok v w ∧ (Sc Ha wa (Value.bool x)) (.returned v) w) e f w)) hq ⟨_, S0, (Inc.rfl _), rfl, rfl, rfl⟩ ?_ ?_) ?_
  ·
   clear hp hq
   rintro i23 y22 s23 f61 w60 ⟨H57, S58, i59, k62, k63, k64⟩ hx23 o90 hp
   refine FW.seq (FW.seq (FW.region ?_))
   refine FL.v (E.move k62) ?_
   refine FL.v (E.move k63) ?_
   refine FL.v (E.lenP te22 rfl p0) ?_
   refine FL.v (E.lssT rfl rfl (lss_len hx23)) ?_
   refine FL.nil ?_
   refine FW.condT rfl rfl ?_
   refine FW.skip (FW.seq (FW.block (FW.seq ?_)))
   refine FW.draw (fun w' => Run w60.heap.size H57 w60 H57 w') (by kernel_rfl) (by kernel_rfl) (run_drew S58.sl) ?_
   refine FD.val rfl rfl rfl (fun w' hw' => (E.move k63)) ?_
   refine FD.val rfl rfl rfl (fun w' hw' => (E.move k62)) ?_
   obtain ⟨p66, cs67, pt68, l69, at70, rel71⟩ := p0.at (ix_nat hx23)
   obtain ⟨v72, rfl, h73⟩ := eL_open rel71
   refine FD.val rfl rfl rfl (fun w' hw' => (E.indexAddr te22 rfl rfl pt68)) ?_
   refine FD.val rfl rfl rfl (fun w' hw' => (E.load rfl (run_load0 Tryz.isAgg84 ((at70.mono i59).now (S58.call hw').sl) rfl))) ?_
   refine FD.val rfl rfl rfl (fun w' hw' => (E.move k64)) ?_
   refine FD.val rfl rfl rfl (fun w' hw' => (E.move k62)) ?_
   obtain ⟨x80, hx81, hp⟩ := bnd hp
   obtain ⟨p74, cs75, pt76, l77, at78, rel79⟩ := p1.at hx81
   obtain ⟨v82, rfl, h83⟩ := eL_open rel79
   refine FD.val rfl rfl rfl (fun w' hw' => (E.indexAddr te22 rfl rfl pt76)) ?_
   refine FD.val rfl rfl rfl (fun w' hw' => (E.load rfl (run_load0 Tryz.isAgg84 ((at78.mono i59).now (S58.call hw').sl) rfl))) ?_
   obtain ⟨r84, hr85, hp⟩ := bnd hp
   refine FD.call rfl rfl rfl (fun w' hw' => (E.call Tryz.call54 (A2 rfl rfl))) (fun w' hw' => Calls.cls hw' (w_laws_eqIntS (S58.call hw').sl v72 y22 (h73.mono i59) v82 x80 (h83.mono i59) hr85)) ?_
   refine FD.val rfl rfl rfl (fun w' hw' => (E.not rfl)) ?_
   refine FD.nil ?_
   intro w86 r88
   have S87 := S58.call r88
   rcases ifB hp with ⟨c89, hp⟩ | ⟨c89, hp⟩
   ·
    refine FW.condT rfl c89 ?_
    refine FW.seq (FW.region ?_)
    refine FL.v (E.assign (v := Value.bool false) rfl) ?_
    refine FL.nil ?_
    refine FW.ret ?_
    obtain rfl := Option.some.inj hp
    exact ⟨nofun, rfl, ⟨.inr rfl, res1 rfl rfl ⟨rfl, S87.back⟩⟩⟩
   ·
    refine FW.condF rfl c89 ?_
    refine FW.skip (FW.region ?_)
    refine FL.v (E.move k62) ?_
    refine FL.v (E.add rfl rfl) ?_
    refine FL.v (E.assign (v := Value.int .i64 (wr (((i23 : Nat) : Int) + 1))) rfl) ?_
    refine FL.nil ?_
    obtain rfl := Option.some.inj hp
    exact ⟨rfl, ⟨_, S87, i59, (nat_succ rfl (lt_of_get hx23) (p0.mono i59).le), k63, k64⟩⟩
  ·
   clear hp hq
   rintro s23 f100 w99 ⟨H96, S97, i98, k101, k102, k103⟩
   refine FW.seq (FW.seq (FW.region ?_))
   refine FL.v (E.move k101) ?_
   refine FL.v (E.move k102) ?_
   refine FL.v (E.lenP te22 rfl p0) ?_
   refine FL.v (E.lss rfl rfl) ?_
   refine FL.nil ?_
   refine FW.condF rfl dlt_len ?_
   refine FW.exit ?_
   exact ⟨nofun, rfl, ⟨_, S97, i98⟩⟩
  ·
   clear hq
   intro e f95 w94 hD
   rcases q23 with s23 | x23
   ·
    obtain ⟨rfl, hD⟩ := hD
    obtain ⟨H91, S92, i93⟩ := hD
    replace hp := el_go hp
    refine FW.seq (FW.region ?_)
    refine FL.v (E.assign (v := Value.bool true) rfl) ?_
    refine FL.nil ?_
    refine FW.ret ?_
    obtain rfl := Option.some.inj hp
    exact ⟨.inr rfl, res1 rfl rfl ⟨rfl, S92.back⟩⟩
   ·
    obtain ⟨he, hL⟩ := hD
    replace hp := el_rt hp
    obtain rfl := Option.some.inj hp
    subst he
    exact hL

theorem w_laws_eqCnf {Ha : GH} {wa : World} (hs : Sl Ha wa) (a0 : Cnf) (v0_1 : Value) (p0_1 : RSl Ha (eL eI 1) 1 v0_1 a0.clauses) (a1 : Cnf) (v1_1 : Value) (p1_1 : RSl Ha (eL eI 1) 1 v1_1 a1.clauses) {r : Bool} (hp : (PF.laws_eqCnf a0 a1) = some r) :
  Calls Tryz.prog 15 #[Value.agg #[Value.int .i64 a0.vars, v0_1], Value.agg #[Value.int .i64 a1.vars, v1_1]] wa (Sc Ha wa (Value.bool r)) := by
 unfold PF.laws_eqCnf at hp
 have S0 := St.init hs
 refine calls_go (N := 16) (args := [Value.agg #[Value.int .i64 a0.vars, v0_1], Value.agg #[Value.int .i64 a1.vars, v1_1]]) Tryz.func15 rfl rfl rfl ?_
 refine FW.seq (FW.region ?_)
 obtain ⟨b21, w22, run23, S24⟩ := S0.box (P := Tryz.prog) 30 [Value.int .i64 a0.vars, v0_1] (v := Value.agg #[Value.int .i64 a0.vars, v0_1]) rfl (ones_cons rfl (ones_cons p0_1.one ones_nil))
 refine FL.v (E.box rfl run23) ?_
 obtain ⟨H25, S26, i27, at28⟩ := S24.sealBox (i := 0) (l' := []) rfl rfl
 obtain ⟨b29, w30, run31, S32⟩ := S26.box (P := Tryz.prog) 30 [Value.int .i64 a1.vars, v1_1] (v := Value.agg #[Value.int .i64 a1.vars, v1_1]) rfl (ones_cons rfl (ones_cons p1_1.one ones_nil))
 refine FL.v (E.box rfl run31) ?_
 obtain ⟨H33, S34, i35, at36⟩ := S32.sealBox (i := 0) (l' := []) rfl rfl
 refine FL.v (E.assign (v := Value.bool false) rfl) ?_
 refine FL.nil (FW.seq (FW.seq (FW.region ?_)))
 refine FL.v (E.fieldAddr tf30_0 rfl) ?_
 refine FL.v (E.load rfl (run_load1 Tryz.isAgg3 ((at28.mono i35).now S34.sl) rfl)) ?_
 refine FL.v (E.fieldAddr tf30_0 rfl) ?_
 refine FL.v (E.load rfl (run_load1 Tryz.isAgg3 (at36.now S34.sl) rfl)) ?_
 refine FL.v (E.neq rfl rfl) ?_
 refine FL.nil ?_
 rcases ifB hp with ⟨c37, hp⟩ | ⟨c37, hp⟩
 ·
  refine FW.condT rfl c37 ?_
  refine FW.seq (FW.region ?_)
  refine FL.v (E.assign (v := Value.bool false) rfl) ?_
  refine FL.nil ?_
  refine FW.ret ?_
  obtain rfl := Option.some.inj hp
  exact ⟨.inr rfl, res1 rfl rfl ⟨rfl, S34.back⟩⟩
 ·
  refine FW.condF rfl c37 ?_
  refine FW.skip (FW.seq (FW.seq (FW.region ?_)))
  refine FL.v (E.fieldAddr tf30_1 rfl) ?_
  refine FL.v (E.load rfl (run_load1 Tryz.isAgg22 ((at28.mono i35).now S34.sl) rfl)) ?_
  refine FL.v (E.fieldAddr tf30_1 rfl) ?_
  refine FL.v (E.load rfl (run_load1 Tryz.isAgg22 (at36.now S34.sl) rfl)) ?_
  obtain ⟨r38, hr39, hp⟩ := bnd hp
  refine FL.call rfl rfl rfl (E.call Tryz.call14 (A2 rfl rfl)) (w_laws_eqIntSS S34.sl v0_1 a0.clauses (p0_1.mono (i27.tr i35)) v1_1 a1.clauses (p1_1.mono (i27.tr i35)) hr39) ?_
  rintro e w40 ⟨rfl, r41⟩
  refine ⟨_, rfl, ?_⟩
  have S42 := S34.call r41
  refine FL.v (E.not rfl) ?_
  refine FL.nil ?_
  rcases ifB hp with ⟨c43, hp⟩ | ⟨c43, hp⟩
  ·
   refine FW.condT rfl c43 ?_
   refine FW.seq (FW.region ?_)
   refine FL.v (E.assign (v := Value.bool false) rfl) ?_
   refine FL.nil ?_
   refine FW.ret ?_
   obtain rfl := Option.some.inj hp
   exact ⟨.inr rfl, res1 rfl rfl ⟨rfl, S42.back⟩⟩
  ·
   refine FW.condF rfl c43 ?_
   refine FW.skip (FW.seq (FW.region ?_))
   refine FL.v (E.assign (v := Value.bool true) rfl) ?_
   refine FL.nil ?_
   refine FW.ret ?_
   obtain rfl := Option.some.inj hp
   exact ⟨.inr rfl, res1 rfl rfl ⟨rfl, S42.back⟩⟩

theorem w_laws_eqTreeNode {Ha : GH} {wa : World} (hs : Sl Ha wa) (a0 : TreeNode) (a1 : TreeNode) :
  Calls Tryz.prog 68 #[Value.agg #[Value.int .i64 a0.var, Value.int .i64 a0.low, Value.int .i64 a0.high, Value.int .i64 a0.clause], Value.agg #[Value.int .i64 a1.var, Value.int .i64 a1.low, Value.int .i64 a1.high, Value.int .i64 a1.clause]] wa (Sc Ha wa (Value.bool (PF.laws_eqTreeNode a0 a1))) := by
 obtain ⟨r, hp⟩ : ∃ r, (PF.laws_eqTreeNode a0 a1) = r := ⟨_, rfl⟩
 rw [hp]
 unfold PF.laws_eqTreeNode at hp
 have S0 := St.init hs
 refine calls_go (N := 25) (args := [Value.agg #[Value.int .i64 a0.var, Value.int .i64 a0.low, Value.int .i64 a0.high, Value.int .i64 a0.clause], Value.agg #[Value.int .i64 a1.var, Value.int .i64 a1.low, Value.int .i64 a1.high, Value.int .i64 a1.clause]]) Tryz.func68 rfl rfl rfl ?_
 refine FW.seq (FW.region ?_)
 obtain ⟨b21, w22, run23, S24⟩ := S0.box (P := Tryz.prog) 98 [Value.int .i64 a0.var, Value.int .i64 a0.low, Value.int .i64 a0.high, Value.int .i64 a0.clause] (v := Value.agg #[Value.int .i64 a0.var, Value.int .i64 a0.low, Value.int .i64 a0.high, Value.int .i64 a0.clause]) rfl (ones_cons rfl (ones_cons rfl (ones_cons rfl (ones_cons rfl ones_nil))))
 refine FL.v (E.box rfl run23) ?_
 obtain ⟨H25, S26, i27, at28⟩ := S24.sealBox (i := 0) (l' := []) rfl rfl
 obtain ⟨b29, w30, run31, S32⟩ := S26.box (P := Tryz.prog) 98 [Value.int .i64 a1.var, Value.int .i64 a1.low, Value.int .i64 a1.high, Value.int .i64 a1.clause] (v := Value.agg #[Value.int .i64 a1.var, Value.int .i64 a1.low, Value.int .i64 a1.high, Value.int .i64 a1.clause]) rfl (ones_cons rfl (ones_cons rfl (ones_cons rfl (ones_cons rfl ones_nil))))
 refine FL.v (E.box rfl run31) ?_
 obtain ⟨H33, S34, i35, at36⟩ := S32.sealBox (i := 0) (l' := []) rfl rfl
 refine FL.v (E.assign (v := Value.bool false) rfl) ?_
 refine FL.nil (FW.seq (FW.seq (FW.region ?_)))
 refine FL.v (E.fieldAddr tf98_0 rfl) ?_
 refine FL.v (E.load rfl (run_load1 Tryz.isAgg3 ((at28.mono i35).now S34.sl) rfl)) ?_
 refine FL.v (E.fieldAddr tf98_0 rfl) ?_
 refine FL.v (E.load rfl (run_load1 Tryz.isAgg3 (at36.now S34.sl) rfl)) ?_
 refine FL.v (E.neq rfl rfl) ?_
 refine FL.nil ?_
 rcases ifT hp with ⟨c37, hp⟩ | ⟨c37, hp⟩
 ·
  refine FW.condT rfl c37 ?_
  refine FW.seq (FW.region ?_)
  refine FL.v (E.assign (v := Value.bool false) rfl) ?_
  refine FL.nil ?_
  refine FW.ret ?_
  obtain rfl := hp
  exact ⟨.inr rfl, res1 rfl rfl ⟨rfl, S34.back⟩⟩
 ·
  refine FW.condF rfl c37 ?_
  refine FW.skip (FW.seq (FW.seq (FW.region ?_)))
  refine FL.v (E.fieldAddr tf98_1 rfl) ?_
  refine FL.v (E.load rfl (run_load1 Tryz.isAgg3 ((at28.mono i35).now S34.sl) rfl)) ?_
  refine FL.v (E.fieldAddr tf98_1 rfl) ?_
  refine FL.v (E.load rfl (run_load1 Tryz.isAgg3 (at36.now S34.sl) rfl)) ?_
  refine FL.v (E.neq rfl rfl) ?_
  refine FL.nil ?_
  rcases ifT hp with ⟨c38, hp⟩ | ⟨c38, hp⟩
  ·
   refine FW.condT rfl c38 ?_
   refine FW.seq (FW.region ?_)
   refine FL.v (E.assign (v := Value.bool false) rfl) ?_
   refine FL.nil ?_
   refine FW.ret ?_
   obtain rfl := hp
   exact ⟨.inr rfl, res1 rfl rfl ⟨rfl, S34.back⟩⟩
  ·
   refine FW.condF rfl c38 ?_
   refine FW.skip (FW.seq (FW.seq (FW.region ?_)))
   refine FL.v (E.fieldAddr tf98_2 rfl) ?_
   refine FL.v (E.load rfl (run_load1 Tryz.isAgg3 ((at28.mono i35).now S34.sl) rfl)) ?_
   refine FL.v (E.fieldAddr tf98_2 rfl) ?_
   refine FL.v (E.load rfl (run_load1 Tryz.isAgg3 (at36.now S34.sl) rfl)) ?_
   refine FL.v (E.neq rfl rfl) ?_
   refine FL.nil ?_
   rcases ifT hp with ⟨c39, hp⟩ | ⟨c39, hp⟩
   ·
    refine FW.condT rfl c39 ?_
    refine FW.seq (FW.region ?_)
    refine FL.v (E.assign (v := Value.bool false) rfl) ?_
    refine FL.nil ?_
    refine FW.ret ?_
    obtain rfl := hp
    exact ⟨.inr rfl, res1 rfl rfl ⟨rfl, S34.back⟩⟩
   ·
    refine FW.condF rfl c39 ?_
    refine FW.skip (FW.seq (FW.seq (FW.region ?_)))
    refine FL.v (E.fieldAddr tf98_3 rfl) ?_
    refine FL.v (E.load rfl (run_load1 Tryz.isAgg3 ((at28.mono i35).now S34.sl) rfl)) ?_
    refine FL.v (E.fieldAddr tf98_3 rfl) ?_
    refine FL.v (E.load rfl (run_load1 Tryz.isAgg3 (at36.now S34.sl) rfl)) ?_
    refine FL.v (E.neq rfl rfl) ?_
    refine FL.nil ?_
    rcases ifT hp with ⟨c40, hp⟩ | ⟨c40, hp⟩
    ·
     refine FW.condT rfl c40 ?_
     refine FW.seq (FW.region ?_)
     refine FL.v (E.assign (v := Value.bool false) rfl) ?_
     refine FL.nil ?_
     refine FW.ret ?_
     obtain rfl := hp
     exact ⟨.inr rfl, res1 rfl rfl ⟨rfl, S34.back⟩⟩
    ·
     refine FW.condF rfl c40 ?_
     refine FW.skip (FW.seq (FW.region ?_))
     refine FL.v (E.assign (v := Value.bool true) rfl) ?_
     refine FL.nil ?_
     refine FW.ret ?_
     obtain rfl := hp
     exact ⟨.inr rfl, res1 rfl rfl ⟨rfl, S34.back⟩⟩

theorem w_laws_eqTreeNodeS {Ha : GH} {wa : World} (hs : Sl Ha wa) (v0 : Value) (a0 : List TreeNode) (p0 : RSl Ha eTreeNode 4 v0 a0) (v1 : Value) (a1 : List TreeNode) (p1 : RSl Ha eTreeNode 4 v1 a1) {r : Bool} (hp : (PF.laws_eqTreeNodeS a0 a1) = some r) :
  Calls Tryz.prog 31 #[v0, v1] wa (Sc Ha wa (Value.bool r)) := by
 unfold PF.laws_eqTreeNodeS at hp
 have S0 := St.init hs
 refine calls_go (N := 27) (args := [v0, v1]) Tryz.func31 rfl rfl rfl ?_
 refine FW.seq (FW.region ?_)
 refine FL.v (E.assign (v := Value.bool false) rfl) ?_
 refine FL.nil (FW.seq (FW.seq (FW.region ?_)))
 refine FL.v (E.move (v := v0) rfl) ?_
 refine FL.v (E.lenP te56 rfl p0) ?_
 refine FL.v (E.move (v := v1) rfl) ?_
 refine FL.v (E.lenP te56 rfl p1) ?_
 refine FL.v (E.neq rfl rfl) ?_
 refine FL.nil ?_
 rcases ifB hp with ⟨c21, hp⟩ | ⟨c21, hp⟩
 ·
  refine FW.condT rfl c21 ?_
  refine FW.seq (FW.region ?_)
  refine FL.v (E.assign (v := Value.bool false) rfl) ?_
  refine FL.nil ?_
  refine FW.ret ?_
  obtain rfl := Option.some.inj hp
  exact ⟨.inr rfl, res1 rfl rfl ⟨rfl, S0.back⟩⟩
 ·
  refine FW.condF rfl c21 ?_
  refine FW.skip (FW.seq (FW.seq (FW.region ?_)))
  refine FL.v (E.assign (v := Value.int .i64 0) rfl) ?_
  refine FL.nil ?_
  obtain ⟨q23, hq, hp⟩ := bndR hp
  refine FW.block ?_
  refine FW.mono (FW.forL (S := Unit) (X := Bool) (fun (i23 : Nat) (s23 : Unit) f w => ∃ H : GH, St Ha wa H w [] ∧ Inc Ha H ∧ f 5 = Value.int .i64 ((i23 : Nat) : Int) ∧ f 0 = v0 ∧ f 1 = v1) (fun q e f w => match q with | .go s23 => e = Exit.exit 0 ∧ (∃ H : GH, St Ha wa H w [] ∧ Inc Ha H) | .rt x => ((e = Exit.ret) ∧ (fun e f w => (e = Exit.normal ∨ e = Exit.ret) ∧ ∀ a, Fr (δ := []) 27 a f → ∃ v, (results Tryz.f31 a.tmps).run Tryz.prog w = .ok v w ∧ (Sc Ha wa (Value.bool x)) (.returned v) w) e f w)) hq ⟨_, S0, (Inc.rfl _), rfl, rfl, rfl⟩ ?_ ?_) ?_
  ·
   clear hp hq
   rintro i23 y22 s23 f55 w54 ⟨H51, S52, i53, k56, k57, k58⟩ hx23 o78 hp
   refine FW.seq (FW.seq (FW.region ?_))
   refine FL.v (E.move k56) ?_
   refine FL.v (E.move k57) ?_
   refine FL.v (E.lenP te56 rfl p0) ?_
   refine FL.v (E.lssT rfl rfl (lss_len hx23)) ?_
   refine FL.nil ?_
   refine FW.condT rfl rfl ?_
   refine FW.skip (FW.seq (FW.block (FW.seq ?_)))
   refine FW.draw (fun w' => Run w54.heap.size H51 w54 H51 w') (by kernel_rfl) (by kernel_rfl) (run_drew S52.sl) ?_
   refine FD.val rfl rfl rfl (fun w' hw' => (E.move k57)) ?_
   refine FD.val rfl rfl rfl (fun w' hw' => (E.move k56)) ?_
   obtain ⟨p60, cs61, pt62, l63, at64, rel65⟩ := p0.at (ix_nat hx23)
   obtain rfl := eTreeNode_open rel65
   refine FD.val rfl rfl rfl (fun w' hw' => (E.indexAddr te56 rfl rfl pt62)) ?_
   refine FD.val rfl rfl rfl (fun w' hw' => (E.load rfl (run_loadA Tryz.isAgg98 Tryz.sizeOf98 ((at64.mono i53).now (S52.call hw').sl) rfl))) ?_
   refine FD.val rfl rfl rfl (fun w' hw' => (E.move k58)) ?_
   refine FD.val rfl rfl rfl (fun w' hw' => (E.move k56)) ?_
   obtain ⟨x72, hx73, hp⟩ := bnd hp
   obtain ⟨p66, cs67, pt68, l69, at70, rel71⟩ := p1.at hx73
   obtain rfl := eTreeNode_open rel71
   refine FD.val rfl rfl rfl (fun w' hw' => (E.indexAddr te56 rfl rfl pt68)) ?_
   refine FD.val rfl rfl rfl (fun w' hw' => (E.load rfl (run_loadA Tryz.isAgg98 Tryz.sizeOf98 ((at70.mono i53).now (S52.call hw').sl) rfl))) ?_
   refine FD.call rfl rfl rfl (fun w' hw' => (E.call Tryz.call68 (A2 rfl rfl))) (fun w' hw' => Calls.cls hw' (w_laws_eqTreeNode (S52.call hw').sl y22 x72)) ?_
   refine FD.val rfl rfl rfl (fun w' hw' => (E.not rfl)) ?_
   refine FD.nil ?_
   intro w74 r76
   have S75 := S52.call r76
   rcases ifB hp with ⟨c77, hp⟩ | ⟨c77, hp⟩
   ·
    refine FW.condT rfl c77 ?_
    refine FW.seq (FW.region ?_)
    refine FL.v (E.assign (v := Value.bool false) rfl) ?_
    refine FL.nil ?_
    refine FW.ret ?_
    obtain rfl := Option.some.inj hp
    exact ⟨nofun, rfl, ⟨.inr rfl, res1 rfl rfl ⟨rfl, S75.back⟩⟩⟩
   ·
    refine FW.condF rfl c77 ?_
    refine FW.skip (FW.region ?_)
    refine FL.v (E.move k56) ?_
    refine FL.v (E.add rfl rfl) ?_
    refine FL.v (E.assign (v := Value.int .i64 (wr (((i23 : Nat) : Int) + 1))) rfl) ?_
    refine FL.nil ?_
    obtain rfl := Option.some.inj hp
    exact ⟨rfl, ⟨_, S75, i53, (nat_succ rfl (lt_of_get hx23) (p0.mono i53).le), k57, k58⟩⟩
  ·
   clear hp hq
   rintro s23 f88 w87 ⟨H84, S85, i86, k89, k90, k91⟩
   refine FW.seq (FW.seq (FW.region ?_))
   refine FL.v (E.move k89) ?_
   refine FL.v (E.move k90) ?_
   refine FL.v (E.lenP te56 rfl p0) ?_
   refine FL.v (E.lss rfl rfl) ?_
   refine FL.nil ?_
   refine FW.condF rfl dlt_len ?_
   refine FW.exit ?_
   exact ⟨nofun, rfl, ⟨_, S85, i86⟩⟩
  ·
   clear hq
   intro e f83 w82 hD
   rcases q23 with s23 | x23
   ·
    obtain ⟨rfl, hD⟩ := hD
    obtain ⟨H79, S80, i81⟩ := hD
    replace hp := el_go hp
    refine FW.seq (FW.region ?_)
    refine FL.v (E.assign (v := Value.bool true) rfl) ?_
    refine FL.nil ?_
    refine FW.ret ?_
    obtain rfl := Option.some.inj hp
    exact ⟨.inr rfl, res1 rfl rfl ⟨rfl, S80.back⟩⟩
   ·
    obtain ⟨he, hL⟩ := hD
    replace hp := el_rt hp
    obtain rfl := Option.some.inj hp
    subst he
    exact hL

theorem w_laws_markIntS {H0 Ha : GH} {w0 wa : World} {l : List MO} (S0 : St H0 w0 Ha wa l) (hs0 : Sl H0 w0) (v0 : Value) (a0 : List Int) (p0 : RSl (up w0.heap.size Ha) eI 1 v0 a0) (a1 : Int) :
  Calls Tryz.prog 56 #[v0, Value.int .i64 a1] wa (M1 H0 w0 Ha l eI 1 v0 (PF.laws_markIntS a0 a1)) := by
 obtain ⟨c0, n0, hc0⟩ := p0.nest eI_flat (by decide)
 have hln := p0.ln
 have hle := p0.le
 refine calls_go (N := 19) (args := [v0, Value.int .i64 a1]) Tryz.func56 rfl rfl rfl ?_
 refine FW.seq (FW.region ?_)
 refine FL.v (E.assign (v := Value.int .i64 0) rfl) ?_
 refine FL.nil (FW.seq (FW.seq (FW.region ?_)))
 refine FL.v (E.assign (v := Value.int .i64 0) rfl) ?_
 refine FL.nil (FW.block ?_)
 refine FW.mono (FW.mark (F := fun y m => (m, (wr (m + 1)))) (a0 := a0) (k0 := a1) (fun (i : Nat) (xs : List Int) (k : Int) f w => ∃ (H : GH) (c : List Value), St H0 w0 H w l ∧ Nest (up w0.heap.size H) eI 1 v0 xs c ∧ bl c = bl c0 ∧ (∀ b, b ∉ bl [v0] → b ∉ bl c0 → H b = Ha b) ∧ f 0 = v0 ∧ f 1 = Value.int .i64 k ∧ f 5 = Value.int .i64 ((i : Nat) : Int)) (fun e f w => e = Exit.exit 0 ∧ ∃ (H : GH) (c : List Value), St H0 w0 H w l ∧ Nest (up w0.heap.size H) eI 1 v0 (markFrom (fun y m => (m, (wr (m + 1)))) a0 a1).1 c ∧ bl c = bl c0 ∧ (∀ b, b ∉ bl [v0] → b ∉ bl c0 → H b = Ha b) ∧ f 0 = v0 ∧ f 1 = Value.int .i64 (markFrom (fun y m => (m, (wr (m + 1)))) a0 a1).2) ⟨_, _, S0, n0, rfl, fun _ _ _ => rfl, rfl, rfl, rfl⟩ ?_ ?_) ?_
 ·
  rintro i y xs m f1 w1 ⟨H1, c1, S1, n1, hb, ho, kv, kk, kc⟩ hx hy
  obtain ⟨p, hpt, wr0, hB, hr, nd⟩ := n1.begin hy (by decide)
  have hci := eI_open hr
  have rd := wr0.opens hci
  refine FW.seq (FW.seq (FW.region ?_))
  refine FL.v (E.move kc) ?_
  refine FL.v (E.move kv) ?_
  refine FL.v (E.len te84 rfl hln) ?_
  refine FL.v (E.lssT rfl rfl (lss_len hx)) ?_
  refine FL.nil ?_
  refine FW.condT rfl rfl ?_
  refine FW.skip (FW.seq (FW.block (FW.seq (FW.region ?_))))
  refine FL.v (E.move kv) ?_
  refine FL.v (E.move kc) ?_
  refine FL.v (E.move kk) ?_
  refine FL.v (E.indexAddr te84 rfl rfl hpt) ?_
  obtain ⟨w21, H22, run24, S23, wr25, o26⟩ := rd.poke0 (P := Tryz.prog) (t := 3) (u := Value.int .i64 m) S1 hs0 hB rfl rfl rfl Tryz.sizeOf3 rfl rfl (c2 := [Value.int .i64 m]) rfl
  refine FL.act rfl rfl (E.store rfl rfl run24) ?_
  refine FL.nil (FW.region ?_)
  refine FL.v (E.move kk) ?_
  refine FL.v (E.add rfl rfl) ?_
  refine FL.v (E.assign (v := Value.int .i64 (wr (m + 1))) rfl) ?_
  refine FL.nil (FW.region ?_)
  refine FL.v (E.move kc) ?_
  refine FL.v (E.add rfl rfl) ?_
  refine FL.v (E.assign (v := Value.int .i64 (wr (((i : Nat) : Int) + 1))) rfl) ?_
  refine FL.nil ?_
  obtain ⟨c2, n2, hb2, ho2⟩ := n1.round eI_flat.loc hy (by decide) hpt wr25 (y' := m) rfl
  exact ⟨rfl, _, _, S23, n2, hb2.trans hb, fun b q1 q2 => (ho2 b q1 (by rw [hb]; exact q2)).trans (ho b q1 q2), kv, rfl, nat_succ rfl (lt_of_get hx) hle⟩
 ·
  rintro f1 w1 ⟨H1, c1, S1, n1, hb, ho, kv, kk, kc⟩
  refine FW.seq (FW.seq (FW.region ?_))
  refine FL.v (E.move kc) ?_
  refine FL.v (E.move kv) ?_
  refine FL.v (E.len te84 rfl hln) ?_
  refine FL.v (E.lss rfl rfl) ?_
  refine FL.nil ?_
  refine FW.condF rfl dlt_len ?_
  refine FW.exit ?_
  exact ⟨nofun, rfl, _, _, S1, n1, hb, ho, kv, kk⟩
 ·
  rintro e f2 w2 ⟨rfl, H2, c2, S2, n2, hb, ho, kv, kk⟩
  refine FW.seq (FW.region ?_)
  refine FL.v (E.move kk) ?_
  refine FL.v (E.assign (v := Value.int .i64 ((markFrom (fun y m => (m, (wr (m + 1)))) a0 a1).2)) rfl) ?_
  refine FL.nil ?_
  refine FW.ret ?_
  exact ⟨.inr rfl, res1 rfl rfl ⟨_, rfl, S2, n2.rsl, fun b q => ho b q (by rw [hc0]; simp)⟩⟩

theorem w_laws_markIntSS {H0 Ha : GH} {w0 wa : World} {l : List MO} (S0 : St H0 w0 Ha wa l) (hs0 : Sl H0 w0) (v0 : Value) (a0 : List (List Int)) (c0 : List Value) (n0 : Nest (up w0.heap.size Ha) (eL eI 1) 1 v0 a0 c0) (a1 : Int) :
  Calls Tryz.prog 19 #[v0, Value.int .i64 a1] wa (M2 H0 w0 Ha l (eL eI 1) 1 v0 c0 (PF.laws_markIntSS a0 a1)) := by
 have hln := n0.rsl.ln
 have hle := n0.rsl.le
 refine calls_go (N := 19) (args := [v0, Value.int .i64 a1]) Tryz.func19 rfl rfl rfl ?_
 refine FW.seq (FW.region ?_)
 refine FL.v (E.assign (v := Value.int .i64 0) rfl) ?_
 refine FL.nil (FW.seq (FW.seq (FW.region ?_)))
 refine FL.v (E.assign (v := Value.int .i64 0) rfl) ?_
 refine FL.nil (FW.block ?_)
 refine FW.mono (FW.mark (F := fun y m => ((PF.laws_markIntS y m).1, (PF.laws_markIntS y m).2)) (a0 := a0) (k0 := a1) (fun (i : Nat) (xs : List (List Int)) (k : Int) f w => ∃ (H : GH) (c : List Value), St H0 w0 H w l ∧ Nest (up w0.heap.size H) (eL eI 1) 1 v0 xs c ∧ bl c = bl c0 ∧ (∀ b, b ∉ bl [v0] → b ∉ bl c0 → H b = Ha b) ∧ f 0 = v0 ∧ f 1 = Value.int .i64 k ∧ f 5 = Value.int .i64 ((i : Nat) : Int)) (fun e f w => e = Exit.exit 0 ∧ ∃ (H : GH) (c : List Value), St H0 w0 H w l ∧ Nest (up w0.heap.size H) (eL eI 1) 1 v0 (markFrom (fun y m => ((PF.laws_markIntS y m).1, (PF.laws_markIntS y m).2)) a0 a1).1 c ∧ bl c = bl c0 ∧ (∀ b, b ∉ bl [v0] → b ∉ bl c0 → H b = Ha b) ∧ f 0 = v0 ∧ f 1 = Value.int .i64 (markFrom (fun y m => ((PF.laws_markIntS y m).1, (PF.laws_markIntS y m).2)) a0 a1).2) ⟨_, _, S0, n0, rfl, fun _ _ _ => rfl, rfl, rfl, rfl⟩ ?_ ?_) ?_
 ·
  rintro i y xs m f1 w1 ⟨H1, c1, S1, n1, hb, ho, kv, kk, kc⟩ hx hy
  obtain ⟨p, hpt, wr0, hB, hr, nd⟩ := n1.begin hy (by decide)
  obtain ⟨u0, hci, hu0⟩ := eL_open hr
  have rd := wr0.opens hci
  refine FW.seq (FW.seq (FW.region ?_))
  refine FL.v (E.move kc) ?_
  refine FL.v (E.move kv) ?_
  refine FL.v (E.len te22 rfl hln) ?_
  refine FL.v (E.lssT rfl rfl (lss_len hx)) ?_
  refine FL.nil ?_
  refine FW.condT rfl rfl ?_
  refine FW.skip (FW.seq (FW.block (FW.region ?_)))
  refine FL.v (E.move kv) ?_
  refine FL.v (E.move kc) ?_
  refine FL.v (E.indexAddr te22 rfl rfl hpt) ?_
  refine FL.v (E.load rfl (run_load0 Tryz.isAgg84 (rd.now S1.sl) rfl)) ?_
  refine FL.v (E.move kk) ?_
  refine FL.call rfl rfl rfl (E.call Tryz.call56 (A2 rfl rfl)) (w_laws_markIntS S1 hs0 u0 y hu0 m) ?_
  rintro e w22 ⟨H21, rfl, S23, h24, o25⟩
  refine ⟨_, rfl, ?_⟩
  have wr26 := rd.inner (j := 0) rfl o25
  refine FL.v (E.assign (v := Value.int .i64 ((PF.laws_markIntS y m).2)) rfl) ?_
  refine FL.nil (FW.region ?_)
  refine FL.v (E.move kc) ?_
  refine FL.v (E.add rfl rfl) ?_
  refine FL.v (E.assign (v := Value.int .i64 (wr (((i : Nat) : Int) + 1))) rfl) ?_
  refine FL.nil ?_
  obtain ⟨c2, n2, hb2, ho2⟩ := n1.round (eL_loc eI_flat) hy (by decide) hpt wr26 (y' := (PF.laws_markIntS y m).1) ⟨_, rfl, h24⟩
  exact ⟨rfl, _, _, S23, n2, hb2.trans hb, fun b q1 q2 => (ho2 b q1 (by rw [hb]; exact q2)).trans (ho b q1 q2), kv, rfl, nat_succ rfl (lt_of_get hx) hle⟩
 ·
  rintro f1 w1 ⟨H1, c1, S1, n1, hb, ho, kv, kk, kc⟩
  refine FW.seq (FW.seq (FW.region ?_))
  refine FL.v (E.move kc) ?_
  refine FL.v (E.move kv) ?_
  refine FL.v (E.len te22 rfl hln) ?_
  refine FL.v (E.lss rfl rfl) ?_
  refine FL.nil ?_
  refine FW.condF rfl dlt_len ?_
  refine FW.exit ?_
  exact ⟨nofun, rfl, _, _, S1, n1, hb, ho, kv, kk⟩
 ·
  rintro e f2 w2 ⟨rfl, H2, c2, S2, n2, hb, ho, kv, kk⟩
  refine FW.seq (FW.region ?_)
  refine FL.v (E.move kk) ?_
  refine FL.v (E.assign (v := Value.int .i64 ((markFrom (fun y m => ((PF.laws_markIntS y m).1, (PF.laws_markIntS y m).2)) a0 a1).2)) rfl) ?_
  refine FL.nil ?_
  refine FW.ret ?_
  exact ⟨.inr rfl, res1 rfl rfl ⟨_, _, rfl, S2, n2, hb, fun b q1 q2 => weak (F := fun b => b ∉ bl [v0] ∧ b ∉ bl c0) (fun b q => ho b q.1 q.2) b ⟨q1, q2⟩⟩⟩

@[reducible] def p_laws_markCnf (H0 : GH) (w0 : World) (Ha : GH) (l : List MO) (v0 : Value) (c0 : List Value) (r : Cnf × Int) : Ending → World → Prop := fun e w' =>
 ∃ (H' : GH) (c' : List Value), e = .returned (.int .i64 r.2) ∧ St H0 w0 H' w' l ∧ Nest (up w0.heap.size H') (eL eI 1) 1 v0 r.1.clauses c' ∧ bl c' = bl c0 ∧ ∀ b, b ∉ bl [v0] → b ∉ bl c0 → ∀ o, Ha b = some o → H' b = some o
theorem w_laws_markCnf {H0 Ha : GH} {w0 wa : World} {l : List MO} (S0 : St H0 w0 Ha wa l) (hs0 : Sl H0 w0) (a0 : Cnf) (v0 : Value) (c0 : List Value) (n0 : Nest (up w0.heap.size Ha) (eL eI 1) 1 v0 a0.clauses c0) (a1 : Int) :
  Calls Tryz.prog 17 #[.agg #[Value.int .i64 a0.vars, v0], Value.int .i64 a1] wa (p_laws_markCnf H0 w0 Ha l v0 c0 (PF.laws_markCnf a0 a1)) := by
 refine calls_go (N := 10) (args := [.agg #[Value.int .i64 a0.vars, v0], Value.int .i64 a1]) Tryz.func17 rfl rfl rfl ?_
 refine FW.seq (FW.region ?_)
 obtain ⟨b21, w22, run23, S24⟩ := S0.box (P := Tryz.prog) 30 [Value.int .i64 a0.vars, v0] (v := Value.agg #[Value.int .i64 a0.vars, v0]) rfl (ones_cons rfl (ones_cons n0.rsl.one ones_nil))
 refine FL.v (E.box rfl run23) ?_
 obtain ⟨H25, S26, i27, at28⟩ := S24.sealBox (i := 0) (l' := l) rfl rfl
 refine FL.v (E.assign (v := Value.int .i64 0) rfl) ?_
 refine FL.nil (FW.seq (FW.region ?_))
 refine FL.v (E.fieldAddr tf30_1 rfl) ?_
 refine FL.v (E.load rfl (run_load1 Tryz.isAgg22 (at28.now S26.sl) rfl)) ?_
 refine FL.v (E.move (v := Value.int .i64 a1) rfl) ?_
 refine FL.call rfl rfl rfl (E.call Tryz.call19 (A2 rfl rfl)) (w_laws_markIntSS S26 hs0 v0 a0.clauses c0 (n0.mono (up_mono i27)) a1) ?_
 rintro e w30 ⟨H29, c34, rfl, S31, h32, hb35, o33⟩
 refine ⟨_, rfl, ?_⟩
 refine FL.v (E.assign (v := Value.int .i64 ((PF.laws_markIntSS a0.clauses a1).2)) rfl) ?_
 refine FL.nil (FW.seq (FW.region ?_))
 refine FL.v (E.move (v := Value.int .i64 ((PF.laws_markIntSS a0.clauses a1).2)) rfl) ?_
 refine FL.v (E.assign (v := Value.int .i64 ((PF.laws_markIntSS a0.clauses a1).2)) rfl) ?_
 refine FL.nil ?_
 refine FW.ret ?_
 exact ⟨.inr rfl, res1 rfl rfl ⟨_, _, rfl, S31, h32, hb35, fun b q1 q2 o ho => o33 b q1 q2 o (i27 b o ho)⟩⟩

end Go.Proofs
