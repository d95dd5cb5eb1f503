/- Part of the walks and plain laws behind the claim: it proves helpers, under no condition beyond their own. -/
import Derived.Test.YtdkfkiifbagnnaaGreatDoorScWk1
set_option linter.unusedVariables false
set_option maxRecDepth 100000
namespace Go.Proofs
open Go.Mr Go.Pu Go.PF Go.RowKit

@[reducible] def p_spec_SearchSequent (Ha : GH) (wa : World) (r : ((List SeqStep) × Bool)) : Ending → World → Prop :=
 fun e w' => ∃ H' : GH, ∃ v0 : Value, ∃ n0 : Nat, ∃ c0 : List Value, e = .returned (Value.tuple #[v0, Value.bool r.2]) ∧ St Ha wa H' w' [.row 55 6 v0 n0 c0] ∧ Els H' eSeqStep 6 c0 r.1
set_option maxHeartbeats 4000000 in
theorem w_spec_SearchSequent {Ha : GH} {wa : World} (hs : Sl Ha wa) (a0 : Sequent) (v0_0 : Value) (p0_0 : RSl Ha eS 1 v0_0 a0.left) (v0_1 : Value) (p0_1 : RSl Ha eS 1 v0_1 a0.right) {r : ((List SeqStep) × Bool)} (hp : (PF.spec_SearchSequent a0) = some r) :
  Calls Tryz.prog 23 #[Value.agg #[v0_0, v0_1]] wa (p_spec_SearchSequent Ha wa r) := by
 unfold PF.spec_SearchSequent at hp
 have S0 := St.init hs
 refine calls_go (N := 41) (args := [Value.agg #[v0_0, v0_1]]) Tryz.func23 rfl rfl rfl ?_
 refine FW.seq (FW.region ?_)
 obtain ⟨b21, w22, run23, S24⟩ := S0.box (P := Tryz.prog) 51 [v0_0, v0_1] (v := Value.agg #[v0_0, v0_1]) rfl (ones_cons p0_0.one (ones_cons p0_1.one ones_nil))
 refine FL.v (E.box rfl run23) ?_
 obtain ⟨H25, S26, i27, at28⟩ := S24.sealBox (i := 0) (l' := []) rfl rfl
 refine FL.v (E.assign (v := Value.slice none 0 0) rfl) ?_
 refine FL.v (E.assign (v := Value.bool false) rfl) ?_
 refine FL.nil (FW.seq (FW.seq (FW.region ?_)))
 refine FL.v (E.load rfl (run_loadA Tryz.isAgg51 Tryz.sizeOf51 (at28.now S26.sl) rfl)) ?_
 obtain ⟨r29, hr30, hp⟩ := bnd hp
 refine FL.call rfl rfl rfl (E.call Tryz.call60 (A1 rfl)) (w_spec_l23Good S26.sl a0 v0_0 (p0_0.mono i27) v0_1 (p0_1.mono i27) hr30) ?_
 rintro e w31 ⟨rfl, r32⟩
 refine ⟨_, rfl, ?_⟩
 have S33 := S26.call r32
 refine FL.v (E.not rfl) ?_
 refine FL.nil ?_
 rcases ifB hp with ⟨c34, hp⟩ | ⟨c34, hp⟩
 ·
  refine FW.condT rfl c34 ?_
  refine FW.seq (FW.region ?_)
  obtain ⟨v35, w36, run37, S38⟩ := S33.buildSlice (P := Tryz.prog) te22 [] (parts := #[]) (cells := []) rfl szs_nil fc_nil ones_nil (Nat.le_of_ble_eq_true rfl)
  have els39 : Els (up wa.heap.size H25) eSeqStep 6 [] [] := Els.nil
  refine FL.v (E.buildSlice (B0) run37) ?_
  refine FL.v (E.assign (v := v35) rfl) ?_
  refine FL.v (E.assign (v := Value.bool false) rfl) ?_
  refine FL.nil ?_
  refine FW.ret ?_
  obtain rfl := Option.some.inj hp
  exact ⟨.inr rfl, res2 rfl rfl rfl ⟨_, _, _, _, rfl, S38, (els39.mono upI)⟩⟩
 ·
  refine FW.condF rfl c34 ?_
  refine FW.skip (FW.seq (FW.region ?_))
  refine FL.v (E.load rfl (run_loadA Tryz.isAgg51 Tryz.sizeOf51 (at28.now S33.sl) rfl)) ?_
  refine FL.v (E.build (B0) (run_build _ 95 #[] #[Value.slice none 0 0, Value.bool false, Value.int .i64 0, Value.bool false] (by rfl))) ?_
  have S40 := S33.nil 55 6
  have els41 : Els (up wa.heap.size H25) eSeqStep 6 [] [] := Els.nil
  obtain ⟨r42, hr43, hp⟩ := bnd hp
  refine FL.call rfl rfl rfl (E.call Tryz.call61 (A2 rfl rfl)) (w_spec_l23Go (L := []) S40 a0 v0_0 (p0_0.mono i27) v0_1 (p0_1.mono i27) (a1 := (l23Search.mk [] false 0 false)) (els41.mono upI) hr43) ?_
  rintro e w45 ⟨H44, v48, n49, cs50, rfl, ⟨S46, i47⟩, els51⟩
  refine ⟨_, rfl, ?_⟩
  have S46 : St Ha wa H44 w45 [.row 55 6 v48 n49 cs50] := S46
  obtain ⟨b52, w53, run54, S55⟩ := S46.alloc (P := Tryz.prog) 95 [Value.slice none 0 0, Value.bool false, Value.int .i64 0, Value.bool false] Tryz.zeroValue95 rfl (ones_cons rfl (ones_cons rfl (ones_cons rfl (ones_cons rfl ones_nil))))
  refine FL.v (E.alloc run54) ?_
  obtain ⟨w56, run57, S58⟩ := S55.store0 (P := Tryz.prog) (t := 95) (i := 0) (cs' := [v48, Value.bool r42.open_, Value.int .i64 r42.bits, Value.bool r42.bad]) (l' := [.box b52 95 [v48, Value.bool r42.open_, Value.int .i64 r42.bits, Value.bool r42.bad], .row 55 6 v48 n49 cs50]) (v := Value.agg #[v48, Value.bool r42.open_, Value.int .i64 r42.bits, Value.bool r42.bad]) (c := [v48, Value.bool r42.open_, Value.int .i64 r42.bits, Value.bool r42.bad]) rfl Tryz.sizeOf95 rfl rfl (ones_cons (Ln.one (S55.row_ln (i := 1) rfl)) (ones_cons rfl (ones_cons rfl (ones_cons rfl ones_nil)))) (Nat.le_of_ble_eq_true rfl) rfl rfl
  refine FL.act rfl rfl (E.store rfl rfl run57) ?_
  refine FL.nil (FW.seq (FW.seq (FW.region ?_)))
  refine FL.v (E.fieldAddr tf95_1 rfl) ?_
  refine FL.v (E.load rfl (run_load1 Tryz.isAgg4 (S58.box_now (i := 0) rfl) rfl)) ?_
  refine FL.v (E.move (v := Value.bool r42.open_) rfl) ?_
  refine FL.cut 3 (fun f w => ∃ H : GH, St Ha wa H w [.box b52 95 [v48, Value.bool r42.open_, Value.int .i64 r42.bits, Value.bool r42.bad], .row 55 6 v48 n49 cs50] ∧ Inc H44 H ∧ f 4 = Value.pointer (some (⟨b52, 0, none⟩ : Addr)) ∧ f 18 = Value.bool (bif r42.open_ then true else r42.bad)) ?_ ?_
  ·
   rcases bcase r42.open_ with c65 | c65
   ·
    refine FL.skip (wF_no rfl rfl rfl c65) rfl ?_
    refine FL.skip (wF_no rfl rfl rfl c65) rfl ?_
    refine FL.v (E.pickT rfl c65 rfl) ?_
    exact FL.nil ⟨rfl, _, S58, (Inc.rfl _), rfl, (congrArg Value.bool (bifT c65).symm)⟩
   ·
    refine FL.val (wF_yes rfl rfl rfl c65) rfl rfl (E.fieldAddr tf95_3 rfl) ?_
    refine FL.val (wF_yes rfl rfl rfl c65) rfl rfl (E.load rfl (run_load1 Tryz.isAgg4 (S58.box_now (i := 0) rfl) rfl)) ?_
    refine FL.v (E.pickF rfl c65 rfl) ?_
    exact FL.nil ⟨rfl, _, S58, (Inc.rfl _), rfl, (congrArg Value.bool (bifF c65).symm)⟩
  rintro f64 w63 ⟨H60, S61, i62, k66, k67⟩
  refine FL.nil ?_
  rcases ifB hp with ⟨c68, hp⟩ | ⟨c68, hp⟩
  ·
   refine FW.condT k67 c68 ?_
   refine FW.seq (FW.region ?_)
   obtain ⟨v69, w70, run71, S72⟩ := S61.buildSlice (P := Tryz.prog) te22 [] (parts := #[]) (cells := []) rfl szs_nil fc_nil ones_nil (Nat.le_of_ble_eq_true rfl)
   have els73 : Els (up wa.heap.size H60) eSeqStep 6 [] [] := Els.nil
   refine FL.v (E.buildSlice (B0) run71) ?_
   refine FL.v (E.assign (v := v69) rfl) ?_
   refine FL.v (E.assign (v := Value.bool false) rfl) ?_
   refine FL.nil ?_
   refine FW.ret ?_
   obtain rfl := Option.some.inj hp
   exact ⟨.inr rfl, res2 rfl rfl rfl ⟨_, _, _, _, rfl, (S72.sel [0] (by decide) rfl), (els73.mono upI)⟩⟩
  ·
   refine FW.condF k67 c68 ?_
   refine FW.skip (FW.seq (FW.seq (FW.region ?_)))
   refine FL.v (E.assign (v := Value.int .i64 0) rfl) ?_
   refine FL.nil ?_
   obtain ⟨q74, hq, hp⟩ := bndR hp
   refine FW.block ?_
   refine FW.mono (FW.iter (S := ((List SeqStep) × Int)) (X := Empty) (fun (s74 : ((List SeqStep) × Int)) f w => ∃ H : GH, ∃ v59 : Value, ∃ n75 : Nat, ∃ cs76 : List Value, St Ha wa H w [.box b52 95 [v59, Value.bool r42.open_, Value.int .i64 r42.bits, Value.bool r42.bad], .row 55 6 v59 n75 cs76] ∧ Inc H60 H ∧ Els H eSeqStep 6 cs76 s74.1 ∧ f 4 = Value.pointer (some (⟨b52, 0, none⟩ : Addr)) ∧ f 5 = Value.int .i64 s74.2) (fun (q : Rs ((List SeqStep) × Int) Empty) e f w => match q with | .go s74 => e = Exit.exit 0 ∧ (∃ H : GH, ∃ v59 : Value, ∃ n75 : Nat, ∃ cs76 : List Value, St Ha wa H w [.box b52 95 [v59, Value.bool r42.open_, Value.int .i64 r42.bits, Value.bool r42.bad], .row 55 6 v59 n75 cs76] ∧ Inc H60 H ∧ Els H eSeqStep 6 cs76 s74.1 ∧ f 4 = Value.pointer (some (⟨b52, 0, none⟩ : Addr))) | .rt x => x.elim) hq ⟨_, _, _, _, S61, (Inc.rfl _), (els51.mono i62), k66, rfl⟩ ?_) ?_
   ·
    clear hp hq
    rintro s74 f82 w81 ⟨H78, v59, n75, cs76, S79, i80, els77, k83, k84⟩ o154 hp
    refine FW.seq (FW.seq (FW.region ?_))
    refine FL.v (E.move k84) ?_
    refine FL.v (E.fieldAddr tf95_0 k83) ?_
    refine FL.v (E.load rfl (run_load1 Tryz.isAgg22 (S79.box_now (i := 0) rfl) rfl)) ?_
    refine FL.v (E.lenO te22 rfl S79 (i := 1) rfl els77 (by decide)) ?_
    refine FL.v (E.lss rfl rfl) ?_
    refine FL.nil ?_
    rcases ifB hp with ⟨c85, hp⟩ | ⟨c85, hp⟩
    ·
     refine FW.condT rfl c85 ?_
     refine FW.skip (FW.seq (FW.block ?_))
     obtain ⟨x96, hx97, hp⟩ := bnd hp
     obtain ⟨r103, hr104, hp⟩ := bnd hp
     obtain ⟨x128, hx129, hp⟩ := bnd hp
     obtain ⟨xs138, hput139, hp⟩ := bnd hp
     refine FW.drawB (Sl H78) (fun f w => ∃ H : GH, ∃ v143 : Value, ∃ n144 : Nat, ∃ cs145 : List Value, St Ha wa H w [.box b52 95 [v143, Value.bool r42.open_, Value.int .i64 r42.bits, Value.bool r42.bad], .row 55 6 v143 n144 cs145] ∧ Inc H78 H ∧ Els H eSeqStep 6 cs145 xs138 ∧ f 4 = Value.pointer (some (⟨b52, 0, none⟩ : Addr)) ∧ f 5 = Value.int .i64 s74.2) (by kernel_rfl) S79.sl ?_ ?_
     ·
      intro w86 r87
      have S88 := S79.call r87
      refine FB.phase [12] (fun w => WAt w (Addr.add ⟨b52, 0, none⟩ 0) [v59]) ?_
      refine FB.t (i := 0) (bs 13 1) rfl (SP.on ((S88.box_now (i := 0) rfl).sub (j := 0) (n := 1) (c := [v59]) rfl) (SP.nil S88.sl)) rfl (fun w' hw' => (E.fieldAddr tf95_0 k83)) ?_
      refine FB.p (i := 1) (bs 13 3) 0 [10, 11, 12] rfl (SP.on ((S88.box_now (i := 0) rfl).sub (j := 0) (n := 1) (c := [v59]) rfl) (SP.nil S88.sl)) rfl rfl (fun w' hw' => (E.load rfl (run_load0 Tryz.isAgg22 hw' rfl))) ?_
      refine FB.t (i := 2) (bs 13 7) rfl (SP.on ((S88.box_now (i := 0) rfl).sub (j := 0) (n := 1) (c := [v59]) rfl) (SP.nil S88.sl)) rfl (fun w' hw' => (E.move k84)) ?_
      refine FB.t (i := 3) (bs 13 15) rfl (SP.on ((S88.box_now (i := 0) rfl).sub (j := 0) (n := 1) (c := [v59]) rfl) (SP.nil S88.sl)) rfl (fun w' hw' => (E.fieldAddr tf95_0 k83)) ?_
      refine FB.p (i := 4) (bs 13 31) 0 [6, 7, 8, 9, 10, 11, 12] rfl (SP.on ((S88.box_now (i := 0) rfl).sub (j := 0) (n := 1) (c := [v59]) rfl) (SP.nil S88.sl)) rfl rfl (fun w' hw' => (E.load rfl (run_load0 Tryz.isAgg22 hw' rfl))) ?_
      refine FB.t (i := 5) (bs 13 63) rfl (SP.on ((S88.box_now (i := 0) rfl).sub (j := 0) (n := 1) (c := [v59]) rfl) (SP.nil S88.sl)) rfl (fun w' hw' => (E.move k84)) ?_
      obtain ⟨p89, cs90, pt91, l92, at93, rel94, hall98⟩ := S88.row_atA (i := 1) rfl els77 (by decide) hx97
      obtain ⟨v99, v101, rfl, h100, h102⟩ := eSeqStep_open rel94
      refine FB.t (i := 6) (bs 13 127) rfl (SP.on ((S88.box_now (i := 0) rfl).sub (j := 0) (n := 1) (c := [v59]) rfl) (SP.nil S88.sl)) rfl (fun w' hw' => (E.indexAddr te22 rfl rfl pt91)) ?_
      refine FB.t (i := 7) (bs 13 255) rfl (SP.on ((S88.box_now (i := 0) rfl).sub (j := 0) (n := 1) (c := [v59]) rfl) (SP.nil S88.sl)) rfl (fun w' hw' => (E.fieldAddr tf55_0 rfl)) ?_
      refine FB.phase [12] (fun w' => WAt w' p89 [v99, v101, Value.int .i64 x96.rule, Value.string x96.main, Value.int .i64 x96.a, Value.int .i64 x96.b]) ?_
      refine FB.p (i := 8) (bs 13 511) 0 [9, 10, 11, 12] rfl (SP.on (hall98 _ _ _ 1 S88 rfl) (SP.on ((S88.box_now (i := 0) rfl).sub (j := 0) (n := 1) (c := [v59]) rfl) (SP.nil S88.sl))) rfl rfl (fun w' hw' => (E.load rfl (run_loadA Tryz.isAgg51 Tryz.sizeOf51 (hw'.sub (j := 0) (n := 2) (c := [v99, v101]) rfl) rfl))) ?_
      refine FB.all1 (i := 9) (by kernel_rfl) ?_
      ·
       refine FC.call (l' := (bs 13 1023)) rfl (by kernel_rfl) rfl rfl rfl (E.call Tryz.call62 (A1 rfl)) (w_spec_l23Own S88.sl x96.seq v99 h100 v101 h102 hr104) ?_
       rintro e w106 ⟨H105, v109, v115, rfl, r108, ⟨c112, c118, ns111, ns117, ap121⟩⟩
       refine ⟨_, rfl, ?_⟩
       have h110 := ns111.rsl
       have nv113 : New H78 c112 := New.of_up S88.sl (fun b hb => ns111.dom b (.inr hb))
       have nv114 : New H78 [v109] := New.of_up S88.sl h110.dom
       have h110 := h110.mono (up_le S88.size)
       have ns111 := ns111.mono (up_le S88.size)
       have h116 := ns117.rsl
       have nv119 : New H78 c118 := New.of_up S88.sl (fun b hb => ns117.dom b (.inr hb))
       have nv120 : New H78 [v115] := New.of_up S88.sl h116.dom
       have h116 := h116.mono (up_le S88.size)
       have ns117 := ns117.mono (up_le S88.size)
       have S107 := S88.call r108
       refine ⟨(SP.on (hall98 _ _ _ 1 S107 rfl) (SP.on ((S107.box_now (i := 0) rfl).sub (j := 0) (n := 1) (c := [v59]) rfl) (SP.nil (Sl.of_inc r108.inc S107.sl)))), ?_⟩
       obtain ⟨p122, cs123, pt124, l125, at126, rel127, hall130⟩ := S107.row_atA (i := 1) rfl els77 (by decide) hx129
       obtain ⟨v131, v133, rfl, h132, h134⟩ := eSeqStep_open rel127
       refine FB.t (i := 10) (bs 13 2047) rfl (SP.on (hall98 _ _ _ 1 S107 rfl) (SP.on ((S107.box_now (i := 0) rfl).sub (j := 0) (n := 1) (c := [v59]) rfl) (SP.nil (Sl.of_inc r108.inc S107.sl)))) rfl (fun w' hw' => (E.indexAddr te22 rfl rfl pt124)) ?_
       refine FB.t (i := 11) (bs 13 4095) rfl (SP.on (hall98 _ _ _ 1 S107 rfl) (SP.on ((S107.box_now (i := 0) rfl).sub (j := 0) (n := 1) (c := [v59]) rfl) (SP.nil (Sl.of_inc r108.inc S107.sl)))) rfl (fun w' hw' => (E.fieldAddr tf55_0 rfl)) ?_
       refine FB.all1 (i := 12) (by kernel_rfl) ?_
       ·
        obtain ⟨w135, cs141, run136, S137, els140, ce142⟩ := S107.putPart (P := Tryz.prog) (t := 51) (i := 1) rfl (els77.mono r108.inc) hput139 pt124 (cs := [v131, v133, Value.int .i64 x128.rule, Value.string x128.main, Value.int .i64 x128.a, Value.int .i64 x128.b]) rfl at126 (off := 0) (m := 2) Tryz.sizeOf51 (u := Value.agg #[v109, v115]) (c := [v109, v115]) rfl rfl (by decide) (ones_cons h110.one (ones_cons h116.one ones_nil)) (c2 := [v109, v115, Value.int .i64 x128.rule, Value.string x128.main, Value.int .i64 x128.a, Value.int .i64 x128.b]) rfl ⟨_, _, rfl, (h110.mono upI), (h116.mono upI)⟩
        have S137 : St Ha wa H105 w135 [.box b52 95 [v59, Value.bool r42.open_, Value.int .i64 r42.bits, Value.bool r42.bad], .row 55 6 v59 n75 cs141] := S137
        refine FC.act (l' := (bs 13 8191)) rfl (by kernel_rfl) rfl rfl (E.store rfl rfl run136) ?_
        refine ⟨(SP.o (SP.o (SP.nil (Sl.of_inc r108.inc S137.sl)))), ?_⟩
        exact FB.done (by kernel_rfl) ⟨_, _, _, _, S137, r108.inc, els140, k83, k84⟩
     ·
      rintro f151 w150 ⟨H147, v143, n144, cs145, S148, i149, els146, k152, k153⟩
      refine FW.region ?_
      refine FL.v (E.move k153) ?_
      refine FL.v (E.add rfl rfl) ?_
      refine FL.v (E.assign (v := Value.int .i64 (wr (s74.2 + 1))) rfl) ?_
      refine FL.nil ?_
      obtain rfl := Option.some.inj hp
      exact ⟨rfl, ⟨_, _, _, _, S148, (i80.tr i149), els146, k152, rfl⟩⟩
    ·
     refine FW.condF rfl c85 ?_
     refine FW.exit ?_
     obtain rfl := Option.some.inj hp
     exact ⟨nofun, rfl, ⟨_, _, _, _, S79, i80, els77, k83⟩⟩
   ·
    clear hq
    intro e f159 w158 hD
    rcases q74 with s74 | x74
    ·
     obtain ⟨rfl, hD⟩ := hD
     obtain ⟨H155, v59, n75, cs76, S156, i157, els77, k160⟩ := hD
     replace hp := el_go hp
     refine FW.seq (FW.region ?_)
     refine FL.v (E.fieldAddr tf95_0 k160) ?_
     refine FL.v (E.load rfl (run_load1 Tryz.isAgg22 (S156.box_now (i := 0) rfl) rfl)) ?_
     refine FL.v (E.assign (v := v59) rfl) ?_
     refine FL.v (E.assign (v := Value.bool true) rfl) ?_
     refine FL.nil ?_
     refine FW.ret ?_
     obtain rfl := Option.some.inj hp
     exact ⟨.inr rfl, res2 rfl rfl rfl ⟨_, _, _, _, rfl, (S156.sel [1] (by decide) rfl), els77⟩⟩
    ·
     exact x74.elim

@[reducible] def p_spec_SchemeSequents (Ha : GH) (wa : World) (r : ((List SeqStep) × Bool)) : Ending → World → Prop :=
 fun e w' => ∃ H' : GH, ∃ v0 : Value, ∃ n0 : Nat, ∃ c0 : List Value, e = .returned (Value.tuple #[v0, Value.bool r.2]) ∧ St Ha wa H' w' [.row 55 6 v0 n0 c0] ∧ Els H' eSeqStep 6 c0 r.1
theorem w_spec_SchemeSequents {Ha : GH} {wa : World} (hs : Sl Ha wa) (a0 : Int) (a1 : ByteArray) (a2 : ByteArray) (a3 : ByteArray) {r : ((List SeqStep) × Bool)} (hp : (PF.spec_SchemeSequents a0 a1 a2 a3) = some r) :
  Calls Tryz.prog 5 #[Value.int .i64 a0, Value.string a1, Value.string a2, Value.string a3] wa (p_spec_SchemeSequents Ha wa r) := by
 unfold PF.spec_SchemeSequents at hp
 have S0 := St.init hs
 refine calls_go (N := 29) (args := [Value.int .i64 a0, Value.string a1, Value.string a2, Value.string a3]) Tryz.func5 rfl rfl rfl ?_
 refine FW.seq (FW.region ?_)
 refine FL.v (E.assign (v := Value.slice none 0 0) rfl) ?_
 refine FL.v (E.assign (v := Value.bool false) rfl) ?_
 refine FL.nil (FW.seq (FW.region ?_))
 refine FL.v (E.move (v := Value.int .i64 a0) rfl) ?_
 refine FL.v (E.move (v := Value.string a1) rfl) ?_
 refine FL.v (E.move (v := Value.string a2) rfl) ?_
 refine FL.v (E.move (v := Value.string a3) rfl) ?_
 obtain ⟨r21, hr22, hp⟩ := bnd hp
 refine FL.call rfl rfl rfl (E.call Tryz.call22 (A4 rfl rfl rfl rfl)) (w_spec_CaseOf S0.sl a0 a1 a2 a3 hr22) ?_
 rintro e w23 ⟨rfl, r24⟩
 refine ⟨_, rfl, ?_⟩
 have S25 := S0.call r24
 refine FL.v (E.move (v := Value.tuple #[Value.string r21.1, Value.bool r21.2]) rfl) ?_
 refine FL.v (E.extract (i := 0) rfl rfl) ?_
 refine FL.v (E.extract (i := 1) rfl rfl) ?_
 refine FL.v (E.assign (v := Value.string r21.1) rfl) ?_
 refine FL.v (E.assign (v := Value.bool r21.2) rfl) ?_
 refine FL.nil (FW.seq (FW.seq (FW.region ?_)))
 refine FL.v (E.move (v := Value.bool r21.2) rfl) ?_
 refine FL.v (E.not rfl) ?_
 refine FL.nil ?_
 rcases ifB hp with ⟨c26, hp⟩ | ⟨c26, hp⟩
 ·
  refine FW.condT rfl c26 ?_
  refine FW.seq (FW.region ?_)
  obtain ⟨v27, w28, run29, S30⟩ := S25.buildSlice (P := Tryz.prog) te22 [] (parts := #[]) (cells := []) rfl szs_nil fc_nil ones_nil (Nat.le_of_ble_eq_true rfl)
  have els31 : Els (up wa.heap.size Ha) eSeqStep 6 [] [] := Els.nil
  refine FL.v (E.buildSlice (B0) run29) ?_
  refine FL.v (E.assign (v := v27) rfl) ?_
  refine FL.v (E.assign (v := Value.bool false) rfl) ?_
  refine FL.nil ?_
  refine FW.ret ?_
  obtain rfl := Option.some.inj hp
  exact ⟨.inr rfl, res2 rfl rfl rfl ⟨_, _, _, _, rfl, S30, (els31.mono upI)⟩⟩
 ·
  refine FW.condF rfl c26 ?_
  refine FW.skip (FW.seq (FW.region ?_))
  obtain ⟨v32, w33, run34, S35⟩ := S25.buildSlice (P := Tryz.prog) te30 [] (parts := #[]) (cells := []) rfl szs_nil fc_nil ones_nil (Nat.le_of_ble_eq_true rfl)
  have els36 : Els (up wa.heap.size Ha) eS 1 [] [] := Els.nil
  refine FL.v (E.buildSlice (B0) run34) ?_
  refine FL.v (E.move (v := Value.string r21.1) rfl) ?_
  obtain ⟨H37, S38, i39, h40, nv41⟩ := S35.sealRowU (i := 0) (l' := []) rfl els36 (by decide) rfl
  obtain ⟨r42, hr43, hp⟩ := bnd hp
  refine FL.call rfl rfl rfl (E.call Tryz.call24 (A2 rfl rfl)) (w_spec_l25Of S38.sl v32 [] (h40.mono upI) r21.1 hr43) ?_
  rintro e w45 ⟨H44, v50, v56, rfl, r47, ⟨c53, c59, ns52, ns58, ap62⟩⟩
  refine ⟨_, rfl, ?_⟩
  obtain ⟨H48, r47, hU49⟩ := Run.lendX i39 S35.sl r47
  have h51 := ns52.rsl
  have nv54 : New Ha c53 := New.of_up S35.sl (fun b hb => ns52.dom b (.inr hb))
  have nv55 : New Ha [v50] := New.of_up S35.sl h51.dom
  have h51 := h51.mono (hU49.tr (up_le S35.size))
  have ns52 := ns52.mono (hU49.tr (up_le S35.size))
  have h57 := ns58.rsl
  have nv60 : New Ha c59 := New.of_up S35.sl (fun b hb => ns58.dom b (.inr hb))
  have nv61 : New Ha [v56] := New.of_up S35.sl h57.dom
  have h57 := h57.mono (hU49.tr (up_le S35.size))
  have ns58 := ns58.mono (hU49.tr (up_le S35.size))
  have S46 := S35.call r47
  obtain ⟨r63, hr64, hp⟩ := bnd hp
  refine FL.call rfl rfl rfl (E.call Tryz.call23 (A1 rfl)) (w_spec_SearchSequent S46.sl r42 v50 (h51.mono upI) v56 (h57.mono upI) hr64) ?_
  rintro e w66 ⟨H65, v69, n70, cs71, rfl, r68, els72⟩
  refine ⟨_, rfl, ?_⟩
  have S67 := S46.join (l' := [.row 55 6 v69 n70 cs71, .row 9 1 v32 0 []]) r68 rfl
  refine FL.v (E.extract (i := 0) rfl rfl) ?_
  refine FL.v (E.extract (i := 1) rfl rfl) ?_
  refine FL.v (E.assign (v := v69) rfl) ?_
  refine FL.v (E.assign (v := Value.bool r63.2) rfl) ?_
  refine FL.nil ?_
  refine FW.ret ?_
  obtain rfl := Option.some.inj hp
  exact ⟨.inr rfl, res2 rfl rfl rfl ⟨_, _, _, _, rfl, (S67.sel [0] (by decide) rfl), els72⟩⟩

theorem w_impl_isLetter {Ha : GH} {wa : World} (hs : Sl Ha wa) (a0 : Int) :
  Calls Tryz.prog 108 #[Value.int .u8 a0] wa (Sc Ha wa (Value.bool (PF.impl_isLetter a0))) := by
 obtain ⟨r, hp⟩ : ∃ r, (PF.impl_isLetter a0) = r := ⟨_, rfl⟩
 rw [hp]
 unfold PF.impl_isLetter at hp
 have S0 := St.init hs
 refine calls_go (N := 9) (args := [Value.int .u8 a0]) Tryz.func108 rfl rfl rfl ?_
 refine FW.seq (FW.region ?_)
 refine FL.v (E.assign (v := Value.bool false) rfl) ?_
 refine FL.nil (FW.seq (FW.region ?_))
 refine FL.v (E.move (v := Value.int .u8 a0) rfl) ?_
 refine FL.v (E.geq rfl rfl) ?_
 refine FL.v (E.move (v := Value.bool (decide (97 ≤ a0))) rfl) ?_
 refine FL.cut 3 (fun f w => ∃ H : GH, St Ha wa H w [] ∧ Inc Ha H ∧ f 8 = Value.bool (bif (decide (97 ≤ a0)) then (decide (a0 < 103)) else false)) ?_ ?_
 ·
  rcases bcase (decide (97 ≤ a0)) with c27 | c27
  ·
   refine FL.val (wF_yes rfl rfl rfl c27) rfl rfl (E.move (v := Value.int .u8 a0) rfl) ?_
   refine FL.val (wF_yes rfl rfl rfl c27) rfl rfl (E.lss rfl rfl) ?_
   refine FL.v (E.pickT rfl c27 rfl) ?_
   exact FL.nil ⟨rfl, _, S0, (Inc.rfl _), (congrArg Value.bool (bifT c27).symm)⟩
  ·
   refine FL.skip (wF_no rfl rfl rfl c27) rfl ?_
   refine FL.skip (wF_no rfl rfl rfl c27) rfl ?_
   refine FL.v (E.pickF rfl c27 rfl) ?_
   exact FL.nil ⟨rfl, _, S0, (Inc.rfl _), (congrArg Value.bool (bifF c27).symm)⟩
 rintro f26 w25 ⟨H22, S23, i24, k28⟩
 refine FL.v (E.assign k28) ?_
 refine FL.nil ?_
 refine FW.ret ?_
 obtain rfl := hp
 exact ⟨.inr rfl, res1 rfl rfl ⟨rfl, S23.back⟩⟩

@[reducible] def p_impl_leaf (Ha : GH) (wa : World) (r : Fo) : Ending → World → Prop :=
 fun e w' => ∃ H' : GH, ∃ v0 : Value, e = .returned (v0) ∧ Run wa.heap.size Ha wa H' w' ∧ FAt H' v0 r
theorem w_impl_leaf {Ha : GH} {wa : World} (hs : Sl Ha wa) (a0 : Int) {r : Fo} (hp : (PF.impl_leaf a0) = some r) :
  Calls Tryz.prog 109 #[Value.int .u8 a0] wa (p_impl_leaf Ha wa r) := by
 unfold PF.impl_leaf at hp
 have S0 := St.init hs
 refine calls_go (N := 8) (args := [Value.int .u8 a0]) Tryz.func109 rfl rfl rfl ?_
 refine FW.seq (FW.region ?_)
 refine FL.v (E.assign (v := Value.pointer none) rfl) ?_
 refine FL.nil (FW.seq (FW.region ?_))
 refine FL.v (E.move (v := Value.int .u8 a0) rfl) ?_
 refine FL.v (E.move (v := Value.int .u8 a0) rfl) ?_
 obtain ⟨z21, h22, hp⟩ := bnd hp
 refine FL.v (E.chr Tryz.runUnderlying5 Tryz.runUnderlying9 rfl h22) ?_
 refine FL.v (E.build (B2 rfl rfl) (run_build _ 86 #[(0, Value.int .u8 a0), (3, Value.string z21)] #[Value.int .u8 a0, Value.pointer none, Value.pointer none, Value.string z21] (by rfl))) ?_
 obtain ⟨b23, w24, run25, S26⟩ := S0.box (P := Tryz.prog) 86 [Value.int .u8 a0, Value.pointer none, Value.pointer none, Value.string z21] (v := Value.agg #[Value.int .u8 a0, Value.pointer none, Value.pointer none, Value.string z21]) rfl (ones_cons rfl (ones_cons rfl (ones_cons rfl (ones_cons rfl ones_nil))))
 refine FL.v (E.box rfl run25) ?_
 obtain ⟨H27, S28, i29, at30⟩ := S26.sealBox (i := 0) (l' := []) rfl rfl
 refine FL.v (E.assign (v := Value.pointer (some ⟨b23, 0, none⟩)) rfl) ?_
 refine FL.nil ?_
 refine FW.ret ?_
 obtain rfl := Option.some.inj hp
 exact ⟨.inr rfl, res1 rfl rfl ⟨_, _, rfl, S28.run, (FAt.mk at30 FAt.nil FAt.nil)⟩⟩

@[reducible] def p_impl_not (Ha : GH) (wa : World) (r : Fo) : Ending → World → Prop :=
 fun e w' => ∃ H' : GH, ∃ v0 : Value, e = .returned (v0) ∧ Run wa.heap.size Ha wa H' w' ∧ FAt H' v0 r
theorem w_impl_not {Ha : GH} {wa : World} (hs : Sl Ha wa) (v0 : Value) (a0 : Fo) (p0 : FAt Ha v0 a0) {r : Fo} (hp : (PF.impl_not a0) = some r) :
  Calls Tryz.prog 110 #[v0] wa (p_impl_not Ha wa r) := by
 unfold PF.impl_not at hp
 have S0 := St.init hs
 refine calls_go (N := 11) (args := [v0]) Tryz.func110 rfl rfl rfl ?_
 refine FW.seq (FW.region ?_)
 refine FL.v (E.assign (v := Value.pointer none) rfl) ?_
 refine FL.nil (FW.seq (FW.region ?_))
 refine FL.v (E.move (v := v0) rfl) ?_
 refine FL.v (E.move (v := v0) rfl) ?_
 obtain ⟨y21, hy22, hp⟩ := bnd hp
 obtain ⟨q23, v25, v26, rfl, at24, h27, h28⟩ := FAt.open p0 hy22
 refine FL.v (E.nilCheck rfl) ?_
 refine FL.v (E.fieldAddr tf86_3 rfl) ?_
 refine FL.v (E.load rfl (run_load1 Tryz.isAgg9 (at24.now S0.sl) rfl)) ?_
 obtain ⟨z29, h30, hp⟩ := bnd hp
 refine FL.v (E.addT rfl rfl h30) ?_
 refine FL.v (E.build (B3 rfl rfl rfl) (run_build _ 86 #[(0, Value.int .u8 126), (1, Value.pointer (some q23)), (3, Value.string z29)] #[Value.int .u8 126, Value.pointer (some q23), Value.pointer none, Value.string z29] (by rfl))) ?_
 obtain ⟨b31, w32, run33, S34⟩ := S0.box (P := Tryz.prog) 86 [Value.int .u8 126, Value.pointer (some q23), Value.pointer none, Value.string z29] (v := Value.agg #[Value.int .u8 126, Value.pointer (some q23), Value.pointer none, Value.string z29]) rfl (ones_cons rfl (ones_cons rfl (ones_cons rfl (ones_cons rfl ones_nil))))
 refine FL.v (E.box rfl run33) ?_
 obtain ⟨H35, S36, i37, at38⟩ := S34.sealBox (i := 0) (l' := []) rfl rfl
 refine FL.v (E.assign (v := Value.pointer (some ⟨b31, 0, none⟩)) rfl) ?_
 refine FL.nil ?_
 refine FW.ret ?_
 obtain rfl := Option.some.inj hp
 exact ⟨.inr rfl, res1 rfl rfl ⟨_, _, rfl, S36.run, (FAt.mk at38 (p0.mono i37) FAt.nil)⟩⟩

theorem w_strings_Contains {Ha : GH} {wa : World} (hs : Sl Ha wa) (a0 a1 : ByteArray) {r : Bool} (hp : (PF.strings_Contains a0 a1) = some r) : Calls Tryz.prog 111 #[Value.string a0, Value.string a1] wa (Sc Ha wa (Value.bool r)) := by
 unfold PF.strings_Contains at hp
 obtain ⟨c, rfl, rfl⟩ := hasS_some hp
 refine (Go.Proofs.Any.strings_Contains_one Tryz.cont111 a0 c wa).mono ?_
 rintro e w' ⟨rfl, rfl⟩
 exact ⟨rfl, Run.refl _ hs⟩

@[reducible] def p_impl_join (Ha : GH) (wa : World) (r : Fo) : Ending → World → Prop :=
 fun e w' => ∃ H' : GH, ∃ v0 : Value, e = .returned (v0) ∧ Run wa.heap.size Ha wa H' w' ∧ FAt H' v0 r
theorem w_impl_join {Ha : GH} {wa : World} (hs : Sl Ha wa) (a0 : Int) (v1 : Value) (a1 : Fo) (p1 : FAt Ha v1 a1) (v2 : Value) (a2 : Fo) (p2 : FAt Ha v2 a2) {r : Fo} (hp : (PF.impl_join a0 a1 a2) = some r) :
  Calls Tryz.prog 42 #[Value.int .u8 a0, v1, v2] wa (p_impl_join Ha wa r) := by
 unfold PF.impl_join at hp
 have S0 := St.init hs
 refine calls_go (N := 26) (args := [Value.int .u8 a0, v1, v2]) Tryz.func42 rfl rfl rfl ?_
 refine FW.seq (FW.region ?_)
 refine FL.v (E.assign (v := Value.pointer none) rfl) ?_
 refine FL.nil (FW.seq ?_)
 obtain ⟨y24, hy25, hp⟩ := bnd hp
 obtain ⟨z32, h33, hp⟩ := bnd hp
 obtain ⟨z34, h35, hp⟩ := bnd hp
 obtain ⟨z36, h37, hp⟩ := bnd hp
 obtain ⟨y38, hy39, hp⟩ := bnd hp
 obtain ⟨z46, h47, hp⟩ := bnd hp
 obtain ⟨z48, h49, hp⟩ := bnd hp
 refine FW.drawB (Sl Ha) (fun f w => ∃ H : GH, ∃ v58 : Value, St Ha wa H w [] ∧ Inc Ha H ∧ FAt H v58 (Fo.node a0 a1 a2 z48) ∧ f 6 = v58) (by kernel_rfl) S0.sl ?_ ?_
 ·
  intro w21 r22
  have S23 := S0.call r22
  refine FB.t (i := 0) (bs 20 1) rfl (SP.nil S23.sl) rfl (fun w' hw' => (E.move (v := Value.int .u8 a0) rfl)) ?_
  refine FB.t (i := 1) (bs 20 3) rfl (SP.nil S23.sl) rfl (fun w' hw' => (E.move (v := v1) rfl)) ?_
  refine FB.t (i := 2) (bs 20 7) rfl (SP.nil S23.sl) rfl (fun w' hw' => (E.move (v := v2) rfl)) ?_
  refine FB.t (i := 3) (bs 20 15) rfl (SP.nil S23.sl) rfl (fun w' hw' => (E.move (v := v1) rfl)) ?_
  obtain ⟨q26, v28, v29, rfl, at27, h30, h31⟩ := FAt.open p1 hy25
  refine FB.t (i := 4) (bs 20 31) rfl (SP.nil S23.sl) rfl (fun w' hw' => (E.nilCheck rfl)) ?_
  refine FB.t (i := 5) (bs 20 63) rfl (SP.nil S23.sl) rfl (fun w' hw' => (E.fieldAddr tf86_3 rfl)) ?_
  refine FB.t (i := 6) (bs 20 127) rfl (SP.nil S23.sl) rfl (fun w' hw' => (E.load rfl (run_load1 Tryz.isAgg9 (at27.now hw') rfl))) ?_
  refine FB.t (i := 7) (bs 20 255) rfl (SP.nil S23.sl) rfl (fun w' hw' => (E.addT rfl rfl h33)) ?_
  refine FB.t (i := 8) (bs 20 511) rfl (SP.nil S23.sl) rfl (fun w' hw' => (E.move (v := Value.int .u8 a0) rfl)) ?_
  refine FB.t (i := 9) (bs 20 1023) rfl (SP.nil S23.sl) rfl (fun w' hw' => (E.chr Tryz.runUnderlying5 Tryz.runUnderlying9 rfl h35)) ?_
  refine FB.t (i := 10) (bs 20 2047) rfl (SP.nil S23.sl) rfl (fun w' hw' => (E.addT rfl rfl h37)) ?_
  refine FB.t (i := 11) (bs 20 4095) rfl (SP.nil S23.sl) rfl (fun w' hw' => (E.move (v := v2) rfl)) ?_
  obtain ⟨q40, v42, v43, rfl, at41, h44, h45⟩ := FAt.open p2 hy39
  refine FB.t (i := 12) (bs 20 8191) rfl (SP.nil S23.sl) rfl (fun w' hw' => (E.nilCheck rfl)) ?_
  refine FB.t (i := 13) (bs 20 16383) rfl (SP.nil S23.sl) rfl (fun w' hw' => (E.fieldAddr tf86_3 rfl)) ?_
  refine FB.t (i := 14) (bs 20 32767) rfl (SP.nil S23.sl) rfl (fun w' hw' => (E.load rfl (run_load1 Tryz.isAgg9 (at41.now hw') rfl))) ?_
  refine FB.t (i := 15) (bs 20 65535) rfl (SP.nil S23.sl) rfl (fun w' hw' => (E.addT rfl rfl h47)) ?_
  refine FB.t (i := 16) (bs 20 131071) rfl (SP.nil S23.sl) rfl (fun w' hw' => (E.addT rfl rfl h49)) ?_
  refine FB.t (i := 17) (bs 20 262143) rfl (SP.nil S23.sl) rfl (fun w' hw' => (E.build (B4 rfl rfl rfl rfl) (run_build _ 86 #[(0, Value.int .u8 a0), (1, Value.pointer (some q26)), (2, Value.pointer (some q40)), (3, Value.string z48)] #[Value.int .u8 a0, Value.pointer (some q26), Value.pointer (some q40), Value.string z48] (by rfl)))) ?_
  refine FB.all1 (i := 18) (by kernel_rfl) ?_
  ·
   obtain ⟨b50, w51, run52, S53⟩ := S23.box (P := Tryz.prog) 86 [Value.int .u8 a0, Value.pointer (some q26), Value.pointer (some q40), Value.string z48] (v := Value.agg #[Value.int .u8 a0, Value.pointer (some q26), Value.pointer (some q40), Value.string z48]) rfl (ones_cons rfl (ones_cons rfl (ones_cons rfl (ones_cons rfl ones_nil))))
   refine FC.val (l' := (bs 20 524287)) rfl (by kernel_rfl) rfl rfl rfl (E.box rfl run52) ?_
   obtain ⟨H54, S55, i56, at57⟩ := S53.sealBox (i := 0) (l' := []) rfl rfl
   refine ⟨(SP.nil (Sl.of_inc i56 S55.sl)), ?_⟩
   refine FB.t (i := 19) (bs 20 1048575) rfl (SP.nil (Sl.of_inc i56 S55.sl)) rfl (fun w' hw' => (E.assign (v := Value.pointer (some ⟨b50, 0, none⟩)) rfl)) ?_
   exact FB.done (by kernel_rfl) ⟨_, _, S55, i56, (FAt.mk at57 (p1.mono i56) (p2.mono i56)), rfl⟩
 ·
  rintro f64 w63 ⟨H60, v58, S61, i62, h59, k65⟩
  refine FW.ret ?_
  obtain rfl := Option.some.inj hp
  exact ⟨.inr rfl, res1 rfl k65 ⟨_, _, rfl, S61.run, h59⟩⟩

@[reducible] def p_impl_parseFrom (Ha : GH) (wa : World) (r : (Fo × ByteArray × Bool)) : Ending → World → Prop :=
 fun e w' => ∃ H' : GH, ∃ v0 : Value, e = .returned (Value.tuple #[v0, Value.string r.2.1, Value.bool r.2.2]) ∧ Run wa.heap.size Ha wa H' w' ∧ FAt H' v0 r.1
set_option maxHeartbeats 4000000 in
theorem w_impl_parseFrom_B {rec_impl_parseFrom : ByteArray → Option (Fo × ByteArray × Bool)} (hrec_impl_parseFrom : ∀ {Ha : GH} {wa : World} (hs : Sl Ha wa) (a0 : ByteArray) {r : (Fo × ByteArray × Bool)} (hp : rec_impl_parseFrom a0 = some r), Calls Tryz.prog 73 #[Value.string a0] wa (p_impl_parseFrom Ha wa r)) {Ha : GH} {wa : World} (hs : Sl Ha wa) (a0 : ByteArray) {r : (Fo × ByteArray × Bool)} (hp : PF.impl_parseFrom_B rec_impl_parseFrom a0 = some r) :
  Calls Tryz.prog 73 #[Value.string a0] wa (p_impl_parseFrom Ha wa r) := by
 unfold PF.impl_parseFrom_B at hp
 have S0 := St.init hs
 refine calls_go (N := 95) (args := [Value.string a0]) Tryz.func73 rfl rfl rfl ?_
 refine FW.seq (FW.region ?_)
 refine FL.v (E.assign (v := Value.pointer none) rfl) ?_
 refine FL.v (E.assign (v := Value.string (ByteArray.mk #[])) rfl) ?_
 refine FL.v (E.assign (v := Value.bool false) rfl) ?_
 refine FL.nil (FW.seq (FW.seq (FW.region ?_)))
 refine FL.v (E.move (v := Value.string a0) rfl) ?_
 refine FL.v (E.eqlS rfl rfl) ?_
 refine FL.nil ?_
 rcases ifB hp with ⟨c21, hp⟩ | ⟨c21, hp⟩
 ·
  refine FW.condT rfl c21 ?_
  refine FW.seq (FW.region ?_)
  refine FL.v (E.assign (v := Value.pointer none) rfl) ?_
  refine FL.v (E.assign (v := Value.string (ByteArray.mk #[])) rfl) ?_
  refine FL.v (E.assign (v := Value.bool false) rfl) ?_
  refine FL.nil ?_
  refine FW.ret ?_
  obtain rfl := Option.some.inj hp
  exact ⟨.inr rfl, res3 rfl rfl rfl rfl ⟨_, _, rfl, S0.run, FAt.nil⟩⟩
 ·
  refine FW.condF rfl c21 ?_
  refine FW.skip (FW.seq ?_)
  refine FW.draw (fun w' => Run wa.heap.size Ha wa Ha w') (by kernel_rfl) (by kernel_rfl) (run_drew S0.sl) ?_
  refine FD.val rfl rfl rfl (fun w' hw' => (E.move (v := Value.string a0) rfl)) ?_
  obtain ⟨z23, h24, hp⟩ := bnd hp
  refine FD.val rfl rfl rfl (fun w' hw' => (E.ixS Tryz.runUnderlying9 rfl rfl h24)) ?_
  refine FD.val rfl rfl rfl (fun w' hw' => (E.move (v := Value.string a0) rfl)) ?_
  obtain ⟨z25, h26, hp⟩ := bnd hp
  refine FD.val rfl rfl rfl (fun w' hw' => (E.cutS (kl := .i64) (kh := .i64) Tryz.underlying9 rfl (.inr ⟨_, rfl, rfl⟩) (.inl ⟨rfl, rfl⟩) h26)) ?_
  refine FD.val rfl rfl rfl (fun w' hw' => (E.assign (v := Value.int .u8 z23) rfl)) ?_
  refine FD.val rfl rfl rfl (fun w' hw' => (E.assign (v := Value.string z25) rfl)) ?_
  refine FD.nil ?_
  intro w27 r29
  have S28 := S0.call r29
  refine FW.seq (FW.block (FW.seq (FW.region ?_)))
  refine FL.v (E.move (v := Value.int .u8 z23) rfl) ?_
  refine FL.call rfl rfl rfl (E.call Tryz.call108 (A1 rfl)) (w_impl_isLetter S28.sl z23) ?_
  rintro e w30 ⟨rfl, r31⟩
  refine ⟨_, rfl, ?_⟩
  have S32 := S28.call r31
  refine FL.v (E.move (v := Value.bool (PF.impl_isLetter z23)) rfl) ?_
  refine FL.cut 3 (fun f w => ∃ H : GH, St Ha wa H w [] ∧ Inc Ha H ∧ f 5 = Value.int .u8 z23 ∧ f 6 = Value.string z25 ∧ f 26 = Value.bool (bif (PF.impl_isLetter z23) then true else (z23 == 48))) ?_ ?_
  ·
   rcases bcase (PF.impl_isLetter z23) with c39 | c39
   ·
    refine FL.skip (wF_no rfl rfl rfl c39) rfl ?_
    refine FL.skip (wF_no rfl rfl rfl c39) rfl ?_
    refine FL.v (E.pickT rfl c39 rfl) ?_
    exact FL.nil ⟨rfl, _, S32, (Inc.rfl _), rfl, rfl, (congrArg Value.bool (bifT c39).symm)⟩
   ·
    refine FL.val (wF_yes rfl rfl rfl c39) rfl rfl (E.move (v := Value.int .u8 z23) rfl) ?_
    refine FL.val (wF_yes rfl rfl rfl c39) rfl rfl (E.eql rfl rfl) ?_
    refine FL.v (E.pickF rfl c39 rfl) ?_
    exact FL.nil ⟨rfl, _, S32, (Inc.rfl _), rfl, rfl, (congrArg Value.bool (bifF c39).symm)⟩
  rintro f38 w37 ⟨H34, S35, i36, k40, k41, k42⟩
  refine FL.v (E.move k42) ?_
  refine FL.cut 3 (fun f w => ∃ H : GH, St Ha wa H w [] ∧ Inc H34 H ∧ f 5 = Value.int .u8 z23 ∧ f 6 = Value.string z25 ∧ f 30 = Value.bool (bif (bif (PF.impl_isLetter z23) then true else (z23 == 48)) then true else (z23 == 49))) ?_ ?_
  ·
   rcases bcase (bif (PF.impl_isLetter z23) then true else (z23 == 48)) with c49 | c49
   ·
    refine FL.skip (wF_no rfl rfl rfl c49) rfl ?_
    refine FL.skip (wF_no rfl rfl rfl c49) rfl ?_
    refine FL.v (E.pickT rfl c49 rfl) ?_
    exact FL.nil ⟨rfl, _, S35, (Inc.rfl _), k40, k41, (congrArg Value.bool (bifT c49).symm)⟩
   ·
    refine FL.val (wF_yes rfl rfl rfl c49) rfl rfl (E.move k40) ?_
    refine FL.val (wF_yes rfl rfl rfl c49) rfl rfl (E.eql rfl rfl) ?_
    refine FL.v (E.pickF rfl c49 rfl) ?_
    exact FL.nil ⟨rfl, _, S35, (Inc.rfl _), k40, k41, (congrArg Value.bool (bifF c49).symm)⟩
  rintro f48 w47 ⟨H44, S45, i46, k50, k51, k52⟩
  refine FL.v (E.assign k52) ?_
  refine FL.nil ?_
  rcases ifB hp with ⟨c53, hp⟩ | ⟨c53, hp⟩
  ·
   refine FW.condT rfl c53 ?_
   refine FW.seq (FW.region ?_)
   refine FL.v (E.move k50) ?_
   obtain ⟨r54, hr55, hp⟩ := bnd hp
   refine FL.call rfl rfl rfl (E.call Tryz.call109 (A1 rfl)) (w_impl_leaf S45.sl z23 hr55) ?_
   rintro e w57 ⟨H56, v60, rfl, r59, h61⟩
   refine ⟨_, rfl, ?_⟩
   have S58 := S45.call r59
   refine FL.v (E.move k51) ?_
   refine FL.v (E.assign (v := v60) rfl) ?_
   refine FL.v (E.assign (v := Value.string z25) rfl) ?_
   refine FL.v (E.assign (v := Value.bool true) rfl) ?_
   refine FL.nil ?_
   refine FW.ret ?_
   obtain rfl := Option.some.inj hp
   exact ⟨.inr rfl, res3 rfl rfl rfl rfl ⟨_, _, rfl, S58.run, h61⟩⟩
  ·
   refine FW.condF rfl c53 ?_
   refine FW.seq (FW.region ?_)
   refine FL.v (E.move k50) ?_
   refine FL.v (E.eql rfl rfl) ?_
   refine FL.v (E.assign (v := Value.bool (z23 == 126)) rfl) ?_
   refine FL.nil ?_
   rcases ifB hp with ⟨c62, hp⟩ | ⟨c62, hp⟩
   ·
    refine FW.condT rfl c62 ?_
    refine FW.seq (FW.region ?_)
    refine FL.v (E.move k51) ?_
    obtain ⟨r63, hr64, hp⟩ := bnd hp
    refine FL.call rfl rfl rfl (E.call Tryz.call73 (A1 rfl)) (hrec_impl_parseFrom S45.sl z25 hr64) ?_
    rintro e w66 ⟨H65, v69, rfl, r68, h70⟩
    refine ⟨_, rfl, ?_⟩
    have S67 := S45.call r68
    refine FL.v (E.move (v := Value.tuple #[v69, Value.string r63.2.1, Value.bool r63.2.2]) rfl) ?_
    refine FL.v (E.extract (i := 0) rfl rfl) ?_
    refine FL.v (E.extract (i := 1) rfl rfl) ?_
    refine FL.v (E.extract (i := 2) rfl rfl) ?_
    refine FL.v (E.assign (v := v69) rfl) ?_
    refine FL.v (E.assign (v := Value.string r63.2.1) rfl) ?_
    refine FL.v (E.assign (v := Value.bool r63.2.2) rfl) ?_
    refine FL.nil (FW.seq (FW.seq (FW.region ?_)))
    refine FL.v (E.move (v := Value.bool r63.2.2) rfl) ?_
    refine FL.v (E.not rfl) ?_
    refine FL.nil ?_
    rcases ifB hp with ⟨c71, hp⟩ | ⟨c71, hp⟩
    ·
     refine FW.condT rfl c71 ?_
     refine FW.seq (FW.region ?_)
     refine FL.v (E.assign (v := Value.pointer none) rfl) ?_
     refine FL.v (E.assign (v := Value.string (ByteArray.mk #[])) rfl) ?_
     refine FL.v (E.assign (v := Value.bool false) rfl) ?_
     refine FL.nil ?_
     refine FW.ret ?_
     obtain rfl := Option.some.inj hp
     exact ⟨.inr rfl, res3 rfl rfl rfl rfl ⟨_, _, rfl, S67.run, FAt.nil⟩⟩
    ·
     refine FW.condF rfl c71 ?_
     refine FW.skip (FW.seq (FW.region ?_))
     refine FL.v (E.move (v := v69) rfl) ?_
     obtain ⟨r72, hr73, hp⟩ := bnd hp
     refine FL.call rfl rfl rfl (E.call Tryz.call110 (A1 rfl)) (w_impl_not S67.sl v69 r63.1 h70 hr73) ?_
     rintro e w75 ⟨H74, v78, rfl, r77, h79⟩
     refine ⟨_, rfl, ?_⟩
     have S76 := S67.call r77
     refine FL.v (E.move (v := Value.string r63.2.1) rfl) ?_
     refine FL.v (E.assign (v := v78) rfl) ?_
     refine FL.v (E.assign (v := Value.string r63.2.1) rfl) ?_
     refine FL.v (E.assign (v := Value.bool true) rfl) ?_
     refine FL.nil ?_
     refine FW.ret ?_
     obtain rfl := Option.some.inj hp
     exact ⟨.inr rfl, res3 rfl rfl rfl rfl ⟨_, _, rfl, S76.run, h79⟩⟩
   ·
    refine FW.condF rfl c62 ?_
    refine FW.seq (FW.region ?_)
    refine FL.v (E.move k50) ?_
    refine FL.v (E.neq rfl rfl) ?_
    refine FL.v (E.assign (v := Value.bool (!(z23 == 40))) rfl) ?_
    refine FL.nil ?_
    rcases ifB hp with ⟨c80, hp⟩ | ⟨c80, hp⟩
    ·
     refine FW.condT rfl c80 ?_
     refine FW.seq (FW.region ?_)
     refine FL.v (E.assign (v := Value.pointer none) rfl) ?_
     refine FL.v (E.assign (v := Value.string (ByteArray.mk #[])) rfl) ?_
     refine FL.v (E.assign (v := Value.bool false) rfl) ?_
     refine FL.nil ?_
     refine FW.ret ?_
     obtain rfl := Option.some.inj hp
     exact ⟨.inr rfl, res3 rfl rfl rfl rfl ⟨_, _, rfl, S45.run, FAt.nil⟩⟩
    ·
     refine FW.condF rfl c80 ?_
     refine FW.skip (FW.seq (FW.region ?_))
     refine FL.v (E.move k51) ?_
     obtain ⟨r81, hr82, hp⟩ := bnd hp
     refine FL.call rfl rfl rfl (E.call Tryz.call73 (A1 rfl)) (hrec_impl_parseFrom S45.sl z25 hr82) ?_
     rintro e w84 ⟨H83, v87, rfl, r86, h88⟩
     refine ⟨_, rfl, ?_⟩
     have S85 := S45.call r86
     refine FL.v (E.move (v := Value.tuple #[v87, Value.string r81.2.1, Value.bool r81.2.2]) rfl) ?_
     refine FL.v (E.extract (i := 0) rfl rfl) ?_
     refine FL.v (E.extract (i := 1) rfl rfl) ?_
     refine FL.v (E.extract (i := 2) rfl rfl) ?_
     refine FL.v (E.assign (v := v87) rfl) ?_
     refine FL.v (E.assign (v := Value.string r81.2.1) rfl) ?_
     refine FL.v (E.assign (v := Value.bool r81.2.2) rfl) ?_
     refine FL.nil (FW.seq (FW.seq (FW.region ?_)))
     refine FL.v (E.move (v := Value.bool r81.2.2) rfl) ?_
     refine FL.v (E.not rfl) ?_
     refine FL.v (E.move (v := Value.bool (!r81.2.2)) rfl) ?_
     refine FL.cut 3 (fun f w => ∃ H : GH, St Ha wa H w [] ∧ Inc H83 H ∧ f 6 = Value.string r81.2.1 ∧ f 10 = v87 ∧ f 62 = Value.bool (bif (!r81.2.2) then true else (r81.2.1.toList == (ByteArray.mk #[]).toList))) ?_ ?_
     ·
      rcases bcase (!r81.2.2) with c95 | c95
      ·
       refine FL.skip (wF_no rfl rfl rfl c95) rfl ?_
       refine FL.skip (wF_no rfl rfl rfl c95) rfl ?_
       refine FL.v (E.pickT rfl c95 rfl) ?_
       exact FL.nil ⟨rfl, _, S85, (Inc.rfl _), rfl, rfl, (congrArg Value.bool (bifT c95).symm)⟩
      ·
       refine FL.val (wF_yes rfl rfl rfl c95) rfl rfl (E.move (v := Value.string r81.2.1) rfl) ?_
       refine FL.val (wF_yes rfl rfl rfl c95) rfl rfl (E.eqlS rfl rfl) ?_
       refine FL.v (E.pickF rfl c95 rfl) ?_
       exact FL.nil ⟨rfl, _, S85, (Inc.rfl _), rfl, rfl, (congrArg Value.bool (bifF c95).symm)⟩
     rintro f94 w93 ⟨H90, S91, i92, k96, k97, k98⟩
     refine FL.v (E.move k98) ?_
     obtain ⟨t106, hqt106, hp⟩ := bnd hp
     refine FL.cut 5 (fun f w => ∃ H : GH, St Ha wa H w [] ∧ Inc H90 H ∧ f 6 = Value.string r81.2.1 ∧ f 10 = v87 ∧ f 68 = Value.bool t106) ?_ ?_
     ·
      clear hp; have hp := hqt106; clear hqt106
      rcases ifB hp with ⟨c112, hp⟩ | ⟨c112, hp⟩
      ·
       refine FL.skip (wF_no rfl rfl rfl c112) rfl ?_
       refine FL.skip (wF_no rfl rfl rfl c112) rfl ?_
       refine FL.skip (wF_no rfl rfl rfl c112) rfl ?_
       refine FL.skip (wF_no rfl rfl rfl c112) rfl ?_
       obtain rfl := Option.some.inj hp
       refine FL.v (E.pickT rfl c112 rfl) ?_
       exact FL.nil ⟨rfl, _, S91, (Inc.rfl _), k96, k97, rfl⟩
      ·
       refine FL.val (wF_yes rfl rfl rfl c112) rfl rfl (E.move k96) ?_
       obtain ⟨z113, h114, hp⟩ := bnd hp
       refine FL.val (wF_yes rfl rfl rfl c112) rfl rfl (E.cutS (kl := .i64) (kh := .i64) Tryz.underlying9 rfl (.inl ⟨rfl, rfl⟩) (.inr ⟨_, rfl, rfl⟩) h114) ?_
       obtain ⟨r115, hr116, hp⟩ := bnd hp
       refine FL.call (wF_yes rfl rfl rfl c112) rfl rfl (E.call Tryz.call111 (A2 rfl rfl)) (w_strings_Contains S91.sl (ByteArray.mk #[38, 124, 62]) z113 hr116) ?_
       rintro e w117 ⟨rfl, r118⟩
       refine ⟨_, rfl, ?_⟩
       have S119 := S91.call r118
       refine FL.val (wF_yes rfl rfl rfl c112) rfl rfl (E.not rfl) ?_
       obtain rfl := Option.some.inj hp
       refine FL.v (E.pickF rfl c112 rfl) ?_
       exact FL.nil ⟨rfl, _, S119, (Inc.rfl _), k96, k97, rfl⟩
     rintro f111 w110 ⟨H107, S108, i109, k120, k121, k122⟩
     refine FL.nil ?_
     rcases ifB hp with ⟨c123, hp⟩ | ⟨c123, hp⟩
     ·
      refine FW.condT k122 c123 ?_
      refine FW.seq (FW.region ?_)
      refine FL.v (E.assign (v := Value.pointer none) rfl) ?_
      refine FL.v (E.assign (v := Value.string (ByteArray.mk #[])) rfl) ?_
      refine FL.v (E.assign (v := Value.bool false) rfl) ?_
      refine FL.nil ?_
      refine FW.ret ?_
      obtain rfl := Option.some.inj hp
      exact ⟨.inr rfl, res3 rfl rfl rfl rfl ⟨_, _, rfl, S108.run, FAt.nil⟩⟩
     ·
      refine FW.condF k122 c123 ?_
      refine FW.skip (FW.seq (FW.region ?_))
      refine FL.v (E.move k120) ?_
      obtain ⟨z124, h125, hp⟩ := bnd hp
      refine FL.v (E.ixS Tryz.runUnderlying9 rfl rfl h125) ?_
      refine FL.v (E.assign (v := Value.int .u8 z124) rfl) ?_
      refine FL.nil (FW.seq (FW.region ?_))
      refine FL.v (E.move k120) ?_
      obtain ⟨z126, h127, hp⟩ := bnd hp
      refine FL.v (E.cutS (kl := .i64) (kh := .i64) Tryz.underlying9 rfl (.inr ⟨_, rfl, rfl⟩) (.inl ⟨rfl, rfl⟩) h127) ?_
      obtain ⟨r128, hr129, hp⟩ := bnd hp
      refine FL.call rfl rfl rfl (E.call Tryz.call73 (A1 rfl)) (hrec_impl_parseFrom S108.sl z126 hr129) ?_
      rintro e w131 ⟨H130, v134, rfl, r133, h135⟩
      refine ⟨_, rfl, ?_⟩
      have S132 := S108.call r133
      refine FL.v (E.move (v := Value.tuple #[v134, Value.string r128.2.1, Value.bool r128.2.2]) rfl) ?_
      refine FL.v (E.extract (i := 0) rfl rfl) ?_
      refine FL.v (E.extract (i := 1) rfl rfl) ?_
      refine FL.v (E.extract (i := 2) rfl rfl) ?_
      refine FL.v (E.assign (v := v134) rfl) ?_
      refine FL.v (E.assign (v := Value.string r128.2.1) rfl) ?_
      refine FL.v (E.assign (v := Value.bool r128.2.2) rfl) ?_
      refine FL.nil (FW.seq (FW.seq (FW.region ?_)))
      refine FL.v (E.move (v := Value.bool r128.2.2) rfl) ?_
      refine FL.v (E.not rfl) ?_
      refine FL.v (E.move (v := Value.bool (!r128.2.2)) rfl) ?_
      refine FL.cut 3 (fun f w => ∃ H : GH, St Ha wa H w [] ∧ Inc H130 H ∧ f 6 = Value.string r128.2.1 ∧ f 10 = v87 ∧ f 12 = Value.int .u8 z124 ∧ f 13 = v134 ∧ f 83 = Value.bool (bif (!r128.2.2) then true else (r128.2.1.toList == (ByteArray.mk #[]).toList))) ?_ ?_
      ·
       rcases bcase (!r128.2.2) with c142 | c142
       ·
        refine FL.skip (wF_no rfl rfl rfl c142) rfl ?_
        refine FL.skip (wF_no rfl rfl rfl c142) rfl ?_
        refine FL.v (E.pickT rfl c142 rfl) ?_
        exact FL.nil ⟨rfl, _, S132, (Inc.rfl _), rfl, k121, rfl, rfl, (congrArg Value.bool (bifT c142).symm)⟩
       ·
        refine FL.val (wF_yes rfl rfl rfl c142) rfl rfl (E.move (v := Value.string r128.2.1) rfl) ?_
        refine FL.val (wF_yes rfl rfl rfl c142) rfl rfl (E.eqlS rfl rfl) ?_
        refine FL.v (E.pickF rfl c142 rfl) ?_
        exact FL.nil ⟨rfl, _, S132, (Inc.rfl _), rfl, k121, rfl, rfl, (congrArg Value.bool (bifF c142).symm)⟩
      rintro f141 w140 ⟨H137, S138, i139, k143, k144, k145, k146, k147⟩
      refine FL.v (E.move k147) ?_
      obtain ⟨t150, hqt150, hp⟩ := bnd hp
      refine FL.cut 4 (fun f w => ∃ H : GH, St Ha wa H w [] ∧ Inc H137 H ∧ f 6 = Value.string r128.2.1 ∧ f 10 = v87 ∧ f 12 = Value.int .u8 z124 ∧ f 13 = v134 ∧ f 88 = Value.bool t150) ?_ ?_
      ·
       clear hp; have hp := hqt150; clear hqt150
       rcases ifB hp with ⟨c156, hp⟩ | ⟨c156, hp⟩
       ·
        refine FL.skip (wF_no rfl rfl rfl c156) rfl ?_
        refine FL.skip (wF_no rfl rfl rfl c156) rfl ?_
        refine FL.skip (wF_no rfl rfl rfl c156) rfl ?_
        obtain rfl := Option.some.inj hp
        refine FL.v (E.pickT rfl c156 rfl) ?_
        exact FL.nil ⟨rfl, _, S138, (Inc.rfl _), k143, k144, k145, k146, rfl⟩
       ·
        refine FL.val (wF_yes rfl rfl rfl c156) rfl rfl (E.move k143) ?_
        obtain ⟨z157, h158, hp⟩ := bnd hp
        refine FL.val (wF_yes rfl rfl rfl c156) rfl rfl (E.ixS Tryz.runUnderlying9 rfl rfl h158) ?_
        refine FL.val (wF_yes rfl rfl rfl c156) rfl rfl (E.neq rfl rfl) ?_
        obtain rfl := Option.some.inj hp
        refine FL.v (E.pickF rfl c156 rfl) ?_
        exact FL.nil ⟨rfl, _, S138, (Inc.rfl _), k143, k144, k145, k146, rfl⟩
      rintro f155 w154 ⟨H151, S152, i153, k159, k160, k161, k162, k163⟩
      refine FL.nil ?_
      rcases ifB hp with ⟨c164, hp⟩ | ⟨c164, hp⟩
      ·
       refine FW.condT k163 c164 ?_
       refine FW.seq (FW.region ?_)
       refine FL.v (E.assign (v := Value.pointer none) rfl) ?_
       refine FL.v (E.assign (v := Value.string (ByteArray.mk #[])) rfl) ?_
       refine FL.v (E.assign (v := Value.bool false) rfl) ?_
       refine FL.nil ?_
       refine FW.ret ?_
       obtain rfl := Option.some.inj hp
       exact ⟨.inr rfl, res3 rfl rfl rfl rfl ⟨_, _, rfl, S152.run, FAt.nil⟩⟩
      ·
       refine FW.condF k163 c164 ?_
       refine FW.skip (FW.seq ?_)
       obtain ⟨r22, hr33, hp⟩ := bnd hp
       obtain ⟨z103, h104, hp⟩ := bnd hp
       refine FW.drawB (Sl H151) (fun f w => ∃ H : GH, ∃ v105 : Value, St Ha wa H w [] ∧ Inc H151 H ∧ FAt H v105 r22 ∧ f 2 = v105 ∧ f 3 = Value.string z103 ∧ f 4 = Value.bool true) (by kernel_rfl) S152.sl ?_ ?_
       ·
        intro w165 r166
        have S167 := S152.call r166
        refine FB.t (i := 0) (bs 9 1) rfl (SP.nil S167.sl) rfl (fun w' hw' => (E.move k161)) ?_
        refine FB.t (i := 1) (bs 9 3) rfl (SP.nil S167.sl) rfl (fun w' hw' => (E.move k160)) ?_
        refine FB.t (i := 2) (bs 9 7) rfl (SP.nil S167.sl) rfl (fun w' hw' => (E.move k162)) ?_
        refine FB.t (i := 4) (bs 9 23) rfl (SP.nil S167.sl) rfl (fun w' hw' => (E.move k159)) ?_
        refine FB.t (i := 5) (bs 9 55) rfl (SP.nil S167.sl) rfl (fun w' hw' => (E.cutS (kl := .i64) (kh := .i64) Tryz.underlying9 rfl (.inr ⟨_, rfl, rfl⟩) (.inl ⟨rfl, rfl⟩) h104)) ?_
        refine FB.all1 (i := 3) (by kernel_rfl) ?_
        ·
         refine FC.call (l' := (bs 9 63)) rfl (by kernel_rfl) rfl rfl rfl (E.call Tryz.call42 (A3 rfl rfl rfl)) (w_impl_join S167.sl z124 v87 r81.1 (h88.mono ((((i92.tr i109).tr r133.inc).tr i139).tr i153)) v134 r128.1 (h135.mono (i139.tr i153)) hr33) ?_
         rintro e w89 ⟨H43, v101, rfl, r100, h102⟩
         refine ⟨_, rfl, ?_⟩
         have S99 := S167.call r100
         refine ⟨(SP.nil (Sl.of_inc r100.inc S99.sl)), ?_⟩
         refine FB.t (i := 6) (bs 9 127) rfl (SP.nil (Sl.of_inc r100.inc S99.sl)) rfl (fun w' hw' => (E.assign (v := v101) rfl)) ?_
         refine FB.t (i := 7) (bs 9 255) rfl (SP.nil (Sl.of_inc r100.inc S99.sl)) rfl (fun w' hw' => (E.assign (v := Value.string z103) rfl)) ?_
         refine FB.t (i := 8) (bs 9 511) rfl (SP.nil (Sl.of_inc r100.inc S99.sl)) rfl (fun w' hw' => (E.assign (v := Value.bool true) rfl)) ?_
         exact FB.done (by kernel_rfl) ⟨_, _, S99, r100.inc, h102, rfl, rfl, rfl⟩
       ·
        rintro f170 w169 ⟨H148, v105, S149, i168, h136, k171, k172, k173⟩
        refine FW.ret ?_
        obtain rfl := Option.some.inj hp
        exact ⟨.inr rfl, res3 rfl k171 k172 k173 ⟨_, _, rfl, S149.run, h136⟩⟩
theorem w_impl_parseFrom_F (n : Nat) : ∀ {Ha : GH} {wa : World} (hs : Sl Ha wa) (a0 : ByteArray) {r : (Fo × ByteArray × Bool)} (hp : PF.impl_parseFrom_F n a0 = some r), Calls Tryz.prog 73 #[Value.string a0] wa (p_impl_parseFrom Ha wa r) := by
 induction n with
 | zero => intros; rename_i hp; exact nomatch hp
 | succ n ih => exact w_impl_parseFrom_B (rec_impl_parseFrom := PF.impl_parseFrom_F n) ih
theorem w_impl_parseFrom {Ha : GH} {wa : World} (hs : Sl Ha wa) (a0 : ByteArray) {r : (Fo × ByteArray × Bool)} (hp : PF.impl_parseFrom a0 = some r) :
  Calls Tryz.prog 73 #[Value.string a0] wa (p_impl_parseFrom Ha wa r) := w_impl_parseFrom_F deep hs a0 hp

@[reducible] def p_impl_parse (Ha : GH) (wa : World) (r : (Fo × Bool)) : Ending → World → Prop :=
 fun e w' => ∃ H' : GH, ∃ v0 : Value, e = .returned (Value.tuple #[v0, Value.bool r.2]) ∧ Run wa.heap.size Ha wa H' w' ∧ FAt H' v0 r.1
theorem w_impl_parse {Ha : GH} {wa : World} (hs : Sl Ha wa) (a0 : ByteArray) {r : (Fo × Bool)} (hp : (PF.impl_parse a0) = some r) :
  Calls Tryz.prog 37 #[Value.string a0] wa (p_impl_parse Ha wa r) := by
 unfold PF.impl_parse at hp
 have S0 := St.init hs
 refine calls_go (N := 23) (args := [Value.string a0]) Tryz.func37 rfl rfl rfl ?_
 refine FW.seq (FW.region ?_)
 refine FL.v (E.assign (v := Value.pointer none) rfl) ?_
 refine FL.v (E.assign (v := Value.bool false) rfl) ?_
 refine FL.nil (FW.seq (FW.seq (FW.region ?_)))
 refine FL.v (E.move (v := Value.string a0) rfl) ?_
 refine FL.v (E.lenS Tryz.runUnderlying9 rfl) ?_
 refine FL.v (E.gtr rfl rfl) ?_
 refine FL.nil ?_
 rcases ifB hp with ⟨c21, hp⟩ | ⟨c21, hp⟩
 ·
  refine FW.condT rfl c21 ?_
  refine FW.seq (FW.region ?_)
  refine FL.v (E.assign (v := Value.pointer none) rfl) ?_
  refine FL.v (E.assign (v := Value.bool false) rfl) ?_
  refine FL.nil ?_
  refine FW.ret ?_
  obtain rfl := Option.some.inj hp
  exact ⟨.inr rfl, res2 rfl rfl rfl ⟨_, _, rfl, S0.run, FAt.nil⟩⟩
 ·
  refine FW.condF rfl c21 ?_
  refine FW.skip (FW.seq (FW.region ?_))
  refine FL.v (E.move (v := Value.string a0) rfl) ?_
  obtain ⟨r22, hr23, hp⟩ := bnd hp
  refine FL.call rfl rfl rfl (E.call Tryz.call73 (A1 rfl)) (w_impl_parseFrom S0.sl a0 hr23) ?_
  rintro e w25 ⟨H24, v28, rfl, r27, h29⟩
  refine ⟨_, rfl, ?_⟩
  have S26 := S0.call r27
  refine FL.v (E.move (v := Value.tuple #[v28, Value.string r22.2.1, Value.bool r22.2.2]) rfl) ?_
  refine FL.v (E.extract (i := 0) rfl rfl) ?_
  refine FL.v (E.extract (i := 1) rfl rfl) ?_
  refine FL.v (E.extract (i := 2) rfl rfl) ?_
  refine FL.v (E.assign (v := v28) rfl) ?_
  refine FL.v (E.assign (v := Value.string r22.2.1) rfl) ?_
  refine FL.v (E.assign (v := Value.bool r22.2.2) rfl) ?_
  refine FL.nil (FW.seq (FW.seq (FW.region ?_)))
  refine FL.v (E.move (v := Value.bool r22.2.2) rfl) ?_
  refine FL.v (E.not rfl) ?_
  refine FL.v (E.move (v := Value.bool (!r22.2.2)) rfl) ?_
  refine FL.cut 3 (fun f w => ∃ H : GH, St Ha wa H w [] ∧ Inc H24 H ∧ f 4 = v28 ∧ f 21 = Value.bool (bif (!r22.2.2) then true else (!(r22.2.1.toList == (ByteArray.mk #[]).toList)))) ?_ ?_
  ·
   rcases bcase (!r22.2.2) with c36 | c36
   ·
    refine FL.skip (wF_no rfl rfl rfl c36) rfl ?_
    refine FL.skip (wF_no rfl rfl rfl c36) rfl ?_
    refine FL.v (E.pickT rfl c36 rfl) ?_
    exact FL.nil ⟨rfl, _, S26, (Inc.rfl _), rfl, (congrArg Value.bool (bifT c36).symm)⟩
   ·
    refine FL.val (wF_yes rfl rfl rfl c36) rfl rfl (E.move (v := Value.string r22.2.1) rfl) ?_
    refine FL.val (wF_yes rfl rfl rfl c36) rfl rfl (E.neqS rfl rfl) ?_
    refine FL.v (E.pickF rfl c36 rfl) ?_
    exact FL.nil ⟨rfl, _, S26, (Inc.rfl _), rfl, (congrArg Value.bool (bifF c36).symm)⟩
  rintro f35 w34 ⟨H31, S32, i33, k37, k38⟩
  refine FL.nil ?_
  rcases ifB hp with ⟨c39, hp⟩ | ⟨c39, hp⟩
  ·
   refine FW.condT k38 c39 ?_
   refine FW.seq (FW.region ?_)
   refine FL.v (E.assign (v := Value.pointer none) rfl) ?_
   refine FL.v (E.assign (v := Value.bool false) rfl) ?_
   refine FL.nil ?_
   refine FW.ret ?_
   obtain rfl := Option.some.inj hp
   exact ⟨.inr rfl, res2 rfl rfl rfl ⟨_, _, rfl, S32.run, FAt.nil⟩⟩
  ·
   refine FW.condF k38 c39 ?_
   refine FW.skip (FW.seq (FW.region ?_))
   refine FL.v (E.move k37) ?_
   refine FL.v (E.assign (v := v28) rfl) ?_
   refine FL.v (E.assign (v := Value.bool true) rfl) ?_
   refine FL.nil ?_
   refine FW.ret ?_
   obtain rfl := Option.some.inj hp
   exact ⟨.inr rfl, res2 rfl rfl rfl ⟨_, _, rfl, S32.run, (h29.mono i33)⟩⟩

theorem w_impl_within {Ha : GH} {wa : World} (hs : Sl Ha wa) (a0 : Int) (a1 : Int) (a2 : Int) :
  Calls Tryz.prog 36 #[Value.int .i64 a0, Value.int .i64 a1, Value.int .i64 a2] wa (Sc Ha wa (Value.bool (PF.impl_within a0 a1 a2))) := by
 obtain ⟨r, hp⟩ : ∃ r, (PF.impl_within a0 a1 a2) = r := ⟨_, rfl⟩
 rw [hp]
 unfold PF.impl_within at hp
 have S0 := St.init hs
 refine calls_go (N := 15) (args := [Value.int .i64 a0, Value.int .i64 a1, Value.int .i64 a2]) Tryz.func36 rfl rfl rfl ?_
 refine FW.seq (FW.region ?_)
 refine FL.v (E.assign (v := Value.bool false) rfl) ?_
 refine FL.nil (FW.seq (FW.region ?_))
 refine FL.v (E.move (v := Value.int .i64 a0) rfl) ?_
 refine FL.v (E.move (v := Value.int .i64 a1) rfl) ?_
 refine FL.v (E.geq rfl rfl) ?_
 refine FL.v (E.move (v := Value.bool (decide (a1 ≤ a0))) rfl) ?_
 refine FL.cut 4 (fun f w => ∃ H : GH, St Ha wa H w [] ∧ Inc Ha H ∧ f 14 = Value.bool (bif (decide (a1 ≤ a0)) then (decide (a0 ≤ a2)) else false)) ?_ ?_
 ·
  rcases bcase (decide (a1 ≤ a0)) with c27 | c27
  ·
   refine FL.val (wF_yes rfl rfl rfl c27) rfl rfl (E.move (v := Value.int .i64 a0) rfl) ?_
   refine FL.val (wF_yes rfl rfl rfl c27) rfl rfl (E.move (v := Value.int .i64 a2) rfl) ?_
   refine FL.val (wF_yes rfl rfl rfl c27) rfl rfl (E.leq rfl rfl) ?_
   refine FL.v (E.pickT rfl c27 rfl) ?_
   exact FL.nil ⟨rfl, _, S0, (Inc.rfl _), (congrArg Value.bool (bifT c27).symm)⟩
  ·
   refine FL.skip (wF_no rfl rfl rfl c27) rfl ?_
   refine FL.skip (wF_no rfl rfl rfl c27) rfl ?_
   refine FL.skip (wF_no rfl rfl rfl c27) rfl ?_
   refine FL.v (E.pickF rfl c27 rfl) ?_
   exact FL.nil ⟨rfl, _, S0, (Inc.rfl _), (congrArg Value.bool (bifF c27).symm)⟩
 rintro f26 w25 ⟨H22, S23, i24, k28⟩
 refine FL.v (E.assign k28) ?_
 refine FL.nil ?_
 refine FW.ret ?_
 obtain rfl := hp
 exact ⟨.inr rfl, res1 rfl rfl ⟨rfl, S23.back⟩⟩

@[reducible] def p_impl_formula_put (Ha : GH) (wa : World) (r : Fo) : Ending → World → Prop :=
 fun e w' => ∃ H' : GH, ∃ v0 : Value, e = .returned (v0) ∧ Run wa.heap.size Ha wa H' w' ∧ FAt H' v0 r
set_option maxHeartbeats 4000000 in
theorem w_impl_formula_put_B {rec_impl_formula_put : Fo → (Fo × Fo × Fo) → Option Fo} (hrec_impl_formula_put : ∀ {Ha : GH} {wa : World} (hs : Sl Ha wa) (v0 : Value) (a0 : Fo) (p0 : FAt Ha v0 a0) (a1 : Fo × Fo × Fo) (v1_0 : Value) (p1_0 : FAt Ha v1_0 a1.1) (v1_1 : Value) (p1_1 : FAt Ha v1_1 a1.2.1) (v1_2 : Value) (p1_2 : FAt Ha v1_2 a1.2.2) {r : Fo} (hp : rec_impl_formula_put a0 a1 = some r), Calls Tryz.prog 74 #[v0, Value.agg #[v1_0, v1_1, v1_2]] wa (p_impl_formula_put Ha wa r)) {Ha : GH} {wa : World} (hs : Sl Ha wa) (v0 : Value) (a0 : Fo) (p0 : FAt Ha v0 a0) (a1 : Fo × Fo × Fo) (v1_0 : Value) (p1_0 : FAt Ha v1_0 a1.1) (v1_1 : Value) (p1_1 : FAt Ha v1_1 a1.2.1) (v1_2 : Value) (p1_2 : FAt Ha v1_2 a1.2.2) {r : Fo} (hp : PF.impl_formula_put_B rec_impl_formula_put a0 a1 = some r) :
  Calls Tryz.prog 74 #[v0, Value.agg #[v1_0, v1_1, v1_2]] wa (p_impl_formula_put Ha wa r) := by
 unfold PF.impl_formula_put_B at hp
 have S0 := St.init hs
 refine calls_go (N := 55) (args := [v0, Value.agg #[v1_0, v1_1, v1_2]]) Tryz.func74 rfl rfl rfl ?_
 refine FW.seq (FW.region ?_)
 obtain ⟨b21, w22, run23, S24⟩ := S0.box (P := Tryz.prog) 115 [v1_0, v1_1, v1_2] (v := Value.agg #[v1_0, v1_1, v1_2]) rfl (ones_cons p1_0.one (ones_cons p1_1.one (ones_cons p1_2.one ones_nil)))
 refine FL.v (E.box rfl run23) ?_
 obtain ⟨H25, S26, i27, at28⟩ := S24.sealBox (i := 0) (l' := []) rfl rfl
 refine FL.v (E.assign (v := Value.pointer none) rfl) ?_
 refine FL.nil (FW.seq (FW.block (FW.seq (FW.region ?_))))
 refine FL.v (E.move (v := v0) rfl) ?_
 obtain ⟨y29, hy30, hp⟩ := bnd hp
 obtain ⟨q31, v33, v34, rfl, at32, h35, h36⟩ := FAt.open p0 hy30
 refine FL.v (E.nilCheck rfl) ?_
 refine FL.v (E.fieldAddr tf86_0 rfl) ?_
 refine FL.v (E.load rfl (run_load1 Tryz.isAgg5 ((at32.mono i27).now S26.sl) rfl)) ?_
 refine FL.call rfl rfl rfl (E.call Tryz.call108 (A1 rfl)) (w_impl_isLetter S26.sl y29.op) ?_
 rintro e w37 ⟨rfl, r38⟩
 refine ⟨_, rfl, ?_⟩
 have S39 := S26.call r38
 refine FL.v (E.assign (v := Value.bool (PF.impl_isLetter y29.op)) rfl) ?_
 refine FL.nil ?_
 rcases ifB hp with ⟨c40, hp⟩ | ⟨c40, hp⟩
 ·
  refine FW.condT rfl c40 ?_
  refine FW.seq (FW.region ?_)
  refine FL.v (E.move (v := Value.pointer (some q31)) rfl) ?_
  refine FL.v (E.nilCheck rfl) ?_
  refine FL.v (E.fieldAddr tf86_0 rfl) ?_
  refine FL.v (E.load rfl (run_load1 Tryz.isAgg5 ((at32.mono i27).now S39.sl) rfl)) ?_
  refine FL.v (E.subK rfl rfl) ?_
  obtain ⟨x41, hx42, hp⟩ := bnd hp
  obtain ⟨j43, v44, hj45, l46, hc47, at48⟩ := fo3_ix (p1_0.mono i27) (p1_1.mono i27) (p1_2.mono i27) hx42
  refine FL.v (E.indexArr (j := j43) (k := 1) (off := j43) Tryz.runUnderlying115 Tryz.sizeOf67 rfl (Eq.trans rfl (congrArg (Value.int .u8) hj45)) l46 (Nat.mul_one _)) ?_
  refine FL.v (E.load rfl (run_load1 Tryz.isAgg67 (at28.now S39.sl) hc47)) ?_
  refine FL.v (E.assign (v := v44) rfl) ?_
  refine FL.nil ?_
  refine FW.ret ?_
  obtain rfl := Option.some.inj hp
  exact ⟨.inr rfl, res1 rfl rfl ⟨_, _, rfl, S39.run, at48⟩⟩
 ·
  refine FW.condF rfl c40 ?_
  refine FW.seq (FW.region ?_)
  refine FL.v (E.move (v := Value.pointer (some q31)) rfl) ?_
  refine FL.v (E.nilCheck rfl) ?_
  refine FL.v (E.fieldAddr tf86_1 rfl) ?_
  refine FL.v (E.load rfl (run_load1 Tryz.isAgg67 ((at32.mono i27).now S39.sl) rfl)) ?_
  refine FL.v (E.eqlN Tryz.runUnderlying67 (h35.mono i27).isNil rfl rfl) ?_
  refine FL.v (E.assign (v := Value.bool y29.a.isNil) rfl) ?_
  refine FL.nil ?_
  rcases ifB hp with ⟨c49, hp⟩ | ⟨c49, hp⟩
  ·
   refine FW.condT rfl c49 ?_
   refine FW.seq (FW.region ?_)
   refine FL.v (E.move (v := Value.pointer (some q31)) rfl) ?_
   refine FL.v (E.assign (v := Value.pointer (some q31)) rfl) ?_
   refine FL.nil ?_
   refine FW.ret ?_
   obtain rfl := Option.some.inj hp
   exact ⟨.inr rfl, res1 rfl rfl ⟨_, _, rfl, S39.run, (p0.mono i27)⟩⟩
  ·
   refine FW.condF rfl c49 ?_
   refine FW.seq (FW.region ?_)
   refine FL.v (E.move (v := Value.pointer (some q31)) rfl) ?_
   refine FL.v (E.nilCheck rfl) ?_
   refine FL.v (E.fieldAddr tf86_2 rfl) ?_
   refine FL.v (E.load rfl (run_load1 Tryz.isAgg67 ((at32.mono i27).now S39.sl) rfl)) ?_
   refine FL.v (E.eqlN Tryz.runUnderlying67 (h36.mono i27).isNil rfl rfl) ?_
   refine FL.v (E.assign (v := Value.bool y29.b.isNil) rfl) ?_
   refine FL.nil ?_
   rcases ifB hp with ⟨c50, hp⟩ | ⟨c50, hp⟩
   ·
    refine FW.condT rfl c50 ?_
    refine FW.seq ?_
    obtain ⟨r54, hr55, hp⟩ := bnd hp
    obtain ⟨r62, hr63, hp⟩ := bnd hp
    refine FW.drawB (Sl H25) (fun f w => ∃ H : GH, ∃ v70 : Value, St Ha wa H w [] ∧ Inc H25 H ∧ FAt H v70 r62 ∧ f 4 = v70) (by kernel_rfl) S39.sl ?_ ?_
    ·
     intro w51 r52
     have S53 := S39.call r52
     refine FB.t (i := 0) (bs 8 1) rfl (SP.nil S53.sl) rfl (fun w' hw' => (E.move (v := Value.pointer (some q31)) rfl)) ?_
     refine FB.t (i := 1) (bs 8 3) rfl (SP.nil S53.sl) rfl (fun w' hw' => (E.nilCheck rfl)) ?_
     refine FB.t (i := 2) (bs 8 7) rfl (SP.nil S53.sl) rfl (fun w' hw' => (E.fieldAddr tf86_1 rfl)) ?_
     refine FB.t (i := 3) (bs 8 15) rfl (SP.nil S53.sl) rfl (fun w' hw' => (E.load rfl (run_load1 Tryz.isAgg67 ((at32.mono i27).now hw') rfl))) ?_
     refine FB.t (i := 4) (bs 8 31) rfl (SP.nil S53.sl) rfl (fun w' hw' => (E.load rfl (run_loadA Tryz.isAgg115 Tryz.sizeOf115 (at28.now hw') rfl))) ?_
     refine FB.all1 (i := 5) (by kernel_rfl) ?_
     ·
      refine FC.call (l' := (bs 8 63)) rfl (by kernel_rfl) rfl rfl rfl (E.call Tryz.call74 (A2 rfl rfl)) (hrec_impl_formula_put S53.sl v33 y29.a (h35.mono i27) (a1.1, a1.2.1, a1.2.2) v1_0 (p1_0.mono i27) v1_1 (p1_1.mono i27) v1_2 (p1_2.mono i27) hr55) ?_
      rintro e w57 ⟨H56, v60, rfl, r59, h61⟩
      refine ⟨_, rfl, ?_⟩
      have S58 := S53.call r59
      refine ⟨(SP.nil (Sl.of_inc r59.inc S58.sl)), ?_⟩
      refine FB.all1 (i := 6) (by kernel_rfl) ?_
      ·
       refine FC.call (l' := (bs 8 127)) rfl (by kernel_rfl) rfl rfl rfl (E.call Tryz.call110 (A1 rfl)) (w_impl_not S58.sl v60 r54 h61 hr63) ?_
       rintro e w65 ⟨H64, v68, rfl, r67, h69⟩
       refine ⟨_, rfl, ?_⟩
       have S66 := S58.call r67
       refine ⟨(SP.nil (Sl.of_inc (r59.inc.tr r67.inc) S66.sl)), ?_⟩
       refine FB.t (i := 7) (bs 8 255) rfl (SP.nil (Sl.of_inc (r59.inc.tr r67.inc) S66.sl)) rfl (fun w' hw' => (E.assign (v := v68) rfl)) ?_
       exact FB.done (by kernel_rfl) ⟨_, _, S66, (r59.inc.tr r67.inc), h69, rfl⟩
    ·
     rintro f76 w75 ⟨H72, v70, S73, i74, h71, k77⟩
     refine FW.ret ?_
     obtain rfl := Option.some.inj hp
     exact ⟨.inr rfl, res1 rfl k77 ⟨_, _, rfl, S73.run, h71⟩⟩
   ·
    refine FW.condF rfl c50 ?_
    refine FW.skip (FW.seq ?_)
    obtain ⟨r81, hr82, hp⟩ := bnd hp
    obtain ⟨r90, hr91, hp⟩ := bnd hp
    obtain ⟨r98, hr99, hp⟩ := bnd hp
    refine FW.drawB (Sl H25) (fun f w => ∃ H : GH, ∃ v106 : Value, St Ha wa H w [] ∧ Inc H25 H ∧ FAt H v106 r98 ∧ f 4 = v106) (by kernel_rfl) S39.sl ?_ ?_
    ·
     intro w78 r79
     have S80 := S39.call r79
     refine FB.t (i := 0) (bs 18 1) rfl (SP.nil S80.sl) rfl (fun w' hw' => (E.move (v := Value.pointer (some q31)) rfl)) ?_
     refine FB.t (i := 1) (bs 18 3) rfl (SP.nil S80.sl) rfl (fun w' hw' => (E.nilCheck rfl)) ?_
     refine FB.t (i := 2) (bs 18 7) rfl (SP.nil S80.sl) rfl (fun w' hw' => (E.fieldAddr tf86_0 rfl)) ?_
     refine FB.t (i := 3) (bs 18 15) rfl (SP.nil S80.sl) rfl (fun w' hw' => (E.load rfl (run_load1 Tryz.isAgg5 ((at32.mono i27).now hw') rfl))) ?_
     refine FB.t (i := 4) (bs 18 31) rfl (SP.nil S80.sl) rfl (fun w' hw' => (E.move (v := Value.pointer (some q31)) rfl)) ?_
     refine FB.t (i := 5) (bs 18 63) rfl (SP.nil S80.sl) rfl (fun w' hw' => (E.nilCheck rfl)) ?_
     refine FB.t (i := 6) (bs 18 127) rfl (SP.nil S80.sl) rfl (fun w' hw' => (E.fieldAddr tf86_1 rfl)) ?_
     refine FB.t (i := 7) (bs 18 255) rfl (SP.nil S80.sl) rfl (fun w' hw' => (E.load rfl (run_load1 Tryz.isAgg67 ((at32.mono i27).now hw') rfl))) ?_
     refine FB.t (i := 8) (bs 18 511) rfl (SP.nil S80.sl) rfl (fun w' hw' => (E.load rfl (run_loadA Tryz.isAgg115 Tryz.sizeOf115 (at28.now hw') rfl))) ?_
     refine FB.t (i := 10) (bs 18 1535) rfl (SP.nil S80.sl) rfl (fun w' hw' => (E.move (v := Value.pointer (some q31)) rfl)) ?_
     refine FB.t (i := 11) (bs 18 3583) rfl (SP.nil S80.sl) rfl (fun w' hw' => (E.nilCheck rfl)) ?_
     refine FB.t (i := 12) (bs 18 7679) rfl (SP.nil S80.sl) rfl (fun w' hw' => (E.fieldAddr tf86_2 rfl)) ?_
     refine FB.t (i := 13) (bs 18 15871) rfl (SP.nil S80.sl) rfl (fun w' hw' => (E.load rfl (run_load1 Tryz.isAgg67 ((at32.mono i27).now hw') rfl))) ?_
     refine FB.t (i := 14) (bs 18 32255) rfl (SP.nil S80.sl) rfl (fun w' hw' => (E.load rfl (run_loadA Tryz.isAgg115 Tryz.sizeOf115 (at28.now hw') rfl))) ?_
     refine FB.all1 (i := 9) (by kernel_rfl) ?_
     ·
      refine FC.call (l' := (bs 18 32767)) rfl (by kernel_rfl) rfl rfl rfl (E.call Tryz.call74 (A2 rfl rfl)) (hrec_impl_formula_put S80.sl v33 y29.a (h35.mono i27) (a1.1, a1.2.1, a1.2.2) v1_0 (p1_0.mono i27) v1_1 (p1_1.mono i27) v1_2 (p1_2.mono i27) hr82) ?_
      rintro e w84 ⟨H83, v88, rfl, r87, h89⟩
      refine ⟨_, rfl, ?_⟩
      have S85 := S80.call r87
      refine ⟨(SP.nil (Sl.of_inc r87.inc S85.sl)), ?_⟩
      refine FB.all1 (i := 15) (by kernel_rfl) ?_
      ·
       refine FC.call (l' := (bs 18 65535)) rfl (by kernel_rfl) rfl rfl rfl (E.call Tryz.call74 (A2 rfl rfl)) (hrec_impl_formula_put S85.sl v34 y29.b (h36.mono (i27.tr r87.inc)) (a1.1, a1.2.1, a1.2.2) v1_0 (p1_0.mono (i27.tr r87.inc)) v1_1 (p1_1.mono (i27.tr r87.inc)) v1_2 (p1_2.mono (i27.tr r87.inc)) hr91) ?_
       rintro e w93 ⟨H92, v96, rfl, r95, h97⟩
       refine ⟨_, rfl, ?_⟩
       have S94 := S85.call r95
       refine ⟨(SP.nil (Sl.of_inc (r87.inc.tr r95.inc) S94.sl)), ?_⟩
       refine FB.all1 (i := 16) (by kernel_rfl) ?_
       ·
        refine FC.call (l' := (bs 18 131071)) rfl (by kernel_rfl) rfl rfl rfl (E.call Tryz.call42 (A3 rfl rfl rfl)) (w_impl_join S94.sl y29.op v88 r81 (h89.mono r95.inc) v96 r90 h97 hr99) ?_
        rintro e w101 ⟨H100, v104, rfl, r103, h105⟩
        refine ⟨_, rfl, ?_⟩
        have S102 := S94.call r103
        refine ⟨(SP.nil (Sl.of_inc ((r87.inc.tr r95.inc).tr r103.inc) S102.sl)), ?_⟩
        refine FB.t (i := 17) (bs 18 262143) rfl (SP.nil (Sl.of_inc ((r87.inc.tr r95.inc).tr r103.inc) S102.sl)) rfl (fun w' hw' => (E.assign (v := v104) rfl)) ?_
        exact FB.done (by kernel_rfl) ⟨_, _, S102, ((r87.inc.tr r95.inc).tr r103.inc), h105, rfl⟩
    ·
     rintro f112 w111 ⟨H108, v106, S109, i110, h107, k113⟩
     refine FW.ret ?_
     obtain rfl := Option.some.inj hp
     exact ⟨.inr rfl, res1 rfl k113 ⟨_, _, rfl, S109.run, h107⟩⟩
theorem w_impl_formula_put_F (n : Nat) : ∀ {Ha : GH} {wa : World} (hs : Sl Ha wa) (v0 : Value) (a0 : Fo) (p0 : FAt Ha v0 a0) (a1 : Fo × Fo × Fo) (v1_0 : Value) (p1_0 : FAt Ha v1_0 a1.1) (v1_1 : Value) (p1_1 : FAt Ha v1_1 a1.2.1) (v1_2 : Value) (p1_2 : FAt Ha v1_2 a1.2.2) {r : Fo} (hp : PF.impl_formula_put_F n a0 a1 = some r), Calls Tryz.prog 74 #[v0, Value.agg #[v1_0, v1_1, v1_2]] wa (p_impl_formula_put Ha wa r) := by
 induction n with
 | zero => intros; rename_i hp; exact nomatch hp
 | succ n ih => exact w_impl_formula_put_B (rec_impl_formula_put := PF.impl_formula_put_F n) ih
theorem w_impl_formula_put {Ha : GH} {wa : World} (hs : Sl Ha wa) (v0 : Value) (a0 : Fo) (p0 : FAt Ha v0 a0) (a1 : Fo × Fo × Fo) (v1_0 : Value) (p1_0 : FAt Ha v1_0 a1.1) (v1_1 : Value) (p1_1 : FAt Ha v1_1 a1.2.1) (v1_2 : Value) (p1_2 : FAt Ha v1_2 a1.2.2) {r : Fo} (hp : PF.impl_formula_put a0 a1 = some r) :
  Calls Tryz.prog 74 #[v0, Value.agg #[v1_0, v1_1, v1_2]] wa (p_impl_formula_put Ha wa r) := w_impl_formula_put_F deep hs v0 a0 p0 a1 v1_0 p1_0 v1_1 p1_1 v1_2 p1_2 hp

@[reducible] def p_impl_caseOf (Ha : GH) (wa : World) (r : Fo) : Ending → World → Prop :=
 fun e w' => ∃ H' : GH, ∃ v0 : Value, e = .returned (v0) ∧ Run wa.heap.size Ha wa H' w' ∧ FAt H' v0 r
theorem w_impl_caseOf {Ha : GH} {wa : World} (hs : Sl Ha wa) (a0 : Int) (v1 : Value) (a1 : Fo) (p1 : FAt Ha v1 a1) (v2 : Value) (a2 : Fo) (p2 : FAt Ha v2 a2) (v3 : Value) (a3 : Fo) (p3 : FAt Ha v3 a3) (hT : TabS 0 PF.glob0 Ha) {r : Fo} (hp : (PF.impl_caseOf a0 a1 a2 a3) = some r) :
  Calls Tryz.prog 40 #[Value.int .i64 a0, v1, v2, v3] wa (p_impl_caseOf Ha wa r) := by
 unfold PF.impl_caseOf at hp
 have S0 := St.init hs
 refine calls_go (N := 25) (args := [Value.int .i64 a0, v1, v2, v3]) Tryz.func40 rfl rfl rfl ?_
 refine FW.seq (FW.region ?_)
 refine FL.v (E.assign (v := Value.pointer none) rfl) ?_
 refine FL.nil (FW.seq (FW.region ?_))
 refine FL.v (E.move (v := Value.int .i64 a0) rfl) ?_
 refine FL.v (E.sub rfl rfl) ?_
 obtain ⟨x21, hx22, hp⟩ := bnd hp
 obtain ⟨j23, hj24, l25, at26⟩ := CAt.ixs (xs := PF.glob0) hT hx22
 refine FL.v (E.indexArr (j := j23) (k := 1) (off := j23) Tryz.runUnderlying113 Tryz.sizeOf9 rfl (Eq.trans rfl (congrArg (Value.int .i64) hj24)) l25 (Nat.mul_one _)) ?_
 refine FL.v (E.load rfl (run_load0 Tryz.isAgg9 (at26.now S0.sl) rfl)) ?_
 obtain ⟨r27, hr28, hp⟩ := bnd hp
 refine FL.call rfl rfl rfl (E.call Tryz.call37 (A1 rfl)) (w_impl_parse S0.sl x21 hr28) ?_
 rintro e w30 ⟨H29, v33, rfl, r32, h34⟩
 refine ⟨_, rfl, ?_⟩
 have S31 := S0.call r32
 refine FL.v (E.move (v := Value.tuple #[v33, Value.bool r27.2]) rfl) ?_
 refine FL.v (E.extract (i := 0) rfl rfl) ?_
 refine FL.v (E.extract (i := 1) rfl rfl) ?_
 refine FL.v (E.assign (v := v33) rfl) ?_
 refine FL.v (E.assign (v := Value.bool r27.2) rfl) ?_
 refine FL.nil (FW.seq (FW.region ?_))
 refine FL.v (E.move (v := v33) rfl) ?_
 refine FL.v (E.move (v := v1) rfl) ?_
 refine FL.v (E.move (v := v2) rfl) ?_
 refine FL.v (E.move (v := v3) rfl) ?_
 refine FL.v (E.build (B3 rfl rfl rfl) (run_build _ 115 #[(0, v1), (1, v2), (2, v3)] #[v1, v2, v3] (by obtain ⟨_, rfl⟩ := FAt.ptr p1; obtain ⟨_, rfl⟩ := FAt.ptr p2; obtain ⟨_, rfl⟩ := FAt.ptr p3; rfl))) ?_
 obtain ⟨r35, hr36, hp⟩ := bnd hp
 refine FL.call rfl rfl rfl (E.call Tryz.call74 (A2 rfl rfl)) (w_impl_formula_put S31.sl v33 r27.1 h34 (a1, a2, a3) v1 (p1.mono r32.inc) v2 (p2.mono r32.inc) v3 (p3.mono r32.inc) hr36) ?_
 rintro e w38 ⟨H37, v41, rfl, r40, h42⟩
 refine ⟨_, rfl, ?_⟩
 have S39 := S31.call r40
 refine FL.v (E.assign (v := v41) rfl) ?_
 refine FL.nil ?_
 refine FW.ret ?_
 obtain rfl := Option.some.inj hp
 exact ⟨.inr rfl, res1 rfl rfl ⟨_, _, rfl, S39.run, h42⟩⟩

theorem w_impl_formula_shown {Ha : GH} {wa : World} (hs : Sl Ha wa) (v0 : Value) (a0 : Fo) (p0 : FAt Ha v0 a0) {r : (ByteArray × Bool)} (hp : (PF.impl_formula_shown a0) = some r) :
  Calls Tryz.prog 63 #[v0] wa (Sc Ha wa (Value.tuple #[Value.string r.1, Value.bool r.2])) := by
 unfold PF.impl_formula_shown at hp
 have S0 := St.init hs
 refine calls_go (N := 14) (args := [v0]) Tryz.func63 rfl rfl rfl ?_
 refine FW.seq (FW.region ?_)
 refine FL.v (E.assign (v := Value.string (ByteArray.mk #[])) rfl) ?_
 refine FL.v (E.assign (v := Value.bool false) rfl) ?_
 refine FL.nil (FW.seq (FW.seq (FW.region ?_)))
 refine FL.v (E.move (v := v0) rfl) ?_
 obtain ⟨y21, hy22, hp⟩ := bnd hp
 obtain ⟨q23, v25, v26, rfl, at24, h27, h28⟩ := FAt.open p0 hy22
 refine FL.v (E.nilCheck rfl) ?_
 refine FL.v (E.fieldAddr tf86_3 rfl) ?_
 refine FL.v (E.load rfl (run_load1 Tryz.isAgg9 (at24.now S0.sl) rfl)) ?_
 refine FL.v (E.lenS Tryz.runUnderlying9 rfl) ?_
 refine FL.v (E.gtr rfl rfl) ?_
 refine FL.nil ?_
 rcases ifB hp with ⟨c29, hp⟩ | ⟨c29, hp⟩
 ·
  refine FW.condT rfl c29 ?_
  refine FW.seq (FW.region ?_)
  refine FL.v (E.assign (v := Value.string (ByteArray.mk #[])) rfl) ?_
  refine FL.v (E.assign (v := Value.bool false) rfl) ?_
  refine FL.nil ?_
  refine FW.ret ?_
  obtain rfl := Option.some.inj hp
  exact ⟨.inr rfl, res2 rfl rfl rfl ⟨rfl, S0.back⟩⟩
 ·
  refine FW.condF rfl c29 ?_
  refine FW.skip (FW.seq (FW.region ?_))
  refine FL.v (E.move (v := Value.pointer (some q23)) rfl) ?_
  refine FL.v (E.nilCheck rfl) ?_
  refine FL.v (E.fieldAddr tf86_3 rfl) ?_
  refine FL.v (E.load rfl (run_load1 Tryz.isAgg9 (at24.now S0.sl) rfl)) ?_
  refine FL.v (E.assign (v := Value.string y21.text) rfl) ?_
  refine FL.v (E.assign (v := Value.bool true) rfl) ?_
  refine FL.nil ?_
  refine FW.ret ?_
  obtain rfl := Option.some.inj hp
  exact ⟨.inr rfl, res2 rfl rfl rfl ⟨rfl, S0.back⟩⟩

set_option maxHeartbeats 4000000 in
theorem w_impl_CaseOf {Ha : GH} {wa : World} (hs : Sl Ha wa) (a0 : Int) (a1 : ByteArray) (a2 : ByteArray) (a3 : ByteArray) (hT : TabS 0 PF.glob0 Ha) {r : (ByteArray × Bool)} (hp : (PF.impl_CaseOf a0 a1 a2 a3) = some r) :
  Calls Tryz.prog 25 #[Value.int .i64 a0, Value.string a1, Value.string a2, Value.string a3] wa (Sc Ha wa (Value.tuple #[Value.string r.1, Value.bool r.2])) := by
 unfold PF.impl_CaseOf at hp
 have S0 := St.init hs
 refine calls_go (N := 54) (args := [Value.int .i64 a0, Value.string a1, Value.string a2, Value.string a3]) Tryz.func25 rfl rfl rfl ?_
 refine FW.seq (FW.region ?_)
 refine FL.v (E.assign (v := Value.string (ByteArray.mk #[])) rfl) ?_
 refine FL.v (E.assign (v := Value.bool false) rfl) ?_
 refine FL.nil (FW.seq (FW.region ?_))
 refine FL.v (E.move (v := Value.string a1) rfl) ?_
 obtain ⟨r21, hr22, hp⟩ := bnd hp
 refine FL.call rfl rfl rfl (E.call Tryz.call37 (A1 rfl)) (w_impl_parse S0.sl a1 hr22) ?_
 rintro e w24 ⟨H23, v27, rfl, r26, h28⟩
 refine ⟨_, rfl, ?_⟩
 have S25 := S0.call r26
 refine FL.v (E.move (v := Value.tuple #[v27, Value.bool r21.2]) rfl) ?_
 refine FL.v (E.extract (i := 0) rfl rfl) ?_
 refine FL.v (E.extract (i := 1) rfl rfl) ?_
 refine FL.v (E.assign (v := v27) rfl) ?_
 refine FL.v (E.assign (v := Value.bool r21.2) rfl) ?_
 refine FL.nil (FW.seq (FW.region ?_))
 refine FL.v (E.move (v := Value.string a2) rfl) ?_
 obtain ⟨r29, hr30, hp⟩ := bnd hp
 refine FL.call rfl rfl rfl (E.call Tryz.call37 (A1 rfl)) (w_impl_parse S25.sl a2 hr30) ?_
 rintro e w32 ⟨H31, v35, rfl, r34, h36⟩
 refine ⟨_, rfl, ?_⟩
 have S33 := S25.call r34
 refine FL.v (E.move (v := Value.tuple #[v35, Value.bool r29.2]) rfl) ?_
 refine FL.v (E.extract (i := 0) rfl rfl) ?_
 refine FL.v (E.extract (i := 1) rfl rfl) ?_
 refine FL.v (E.assign (v := v35) rfl) ?_
 refine FL.v (E.assign (v := Value.bool r29.2) rfl) ?_
 refine FL.nil (FW.seq (FW.region ?_))
 refine FL.v (E.move (v := Value.string a3) rfl) ?_
 obtain ⟨r37, hr38, hp⟩ := bnd hp
 refine FL.call rfl rfl rfl (E.call Tryz.call37 (A1 rfl)) (w_impl_parse S33.sl a3 hr38) ?_
 rintro e w40 ⟨H39, v43, rfl, r42, h44⟩
 refine ⟨_, rfl, ?_⟩
 have S41 := S33.call r42
 refine FL.v (E.move (v := Value.tuple #[v43, Value.bool r37.2]) rfl) ?_
 refine FL.v (E.extract (i := 0) rfl rfl) ?_
 refine FL.v (E.extract (i := 1) rfl rfl) ?_
 refine FL.v (E.assign (v := v43) rfl) ?_
 refine FL.v (E.assign (v := Value.bool r37.2) rfl) ?_
 refine FL.nil (FW.seq (FW.seq (FW.region ?_)))
 refine FL.v (E.move (v := Value.int .i64 a0) rfl) ?_
 refine FL.call rfl rfl rfl (E.call Tryz.call36 (A3 rfl rfl rfl)) (w_impl_within S41.sl a0 1 10) ?_
 rintro e w45 ⟨rfl, r46⟩
 refine ⟨_, rfl, ?_⟩
 have S47 := S41.call r46
 refine FL.v (E.not rfl) ?_
 refine FL.v (E.move (v := Value.bool (!(PF.impl_within a0 1 10))) rfl) ?_
 refine FL.cut 3 (fun f w => ∃ H : GH, St Ha wa H w [] ∧ Inc H39 H ∧ f 0 = Value.int .i64 a0 ∧ f 10 = v27 ∧ f 12 = v35 ∧ f 13 = Value.bool r29.2 ∧ f 14 = v43 ∧ f 15 = Value.bool r37.2 ∧ f 37 = Value.bool (bif (!(PF.impl_within a0 1 10)) then true else (!r21.2))) ?_ ?_
 ·
  rcases bcase (!(PF.impl_within a0 1 10)) with c54 | c54
  ·
   refine FL.skip (wF_no rfl rfl rfl c54) rfl ?_
   refine FL.skip (wF_no rfl rfl rfl c54) rfl ?_
   refine FL.v (E.pickT rfl c54 rfl) ?_
   exact FL.nil ⟨rfl, _, S47, (Inc.rfl _), rfl, rfl, rfl, rfl, rfl, rfl, (congrArg Value.bool (bifT c54).symm)⟩
  ·
   refine FL.val (wF_yes rfl rfl rfl c54) rfl rfl (E.move (v := Value.bool r21.2) rfl) ?_
   refine FL.val (wF_yes rfl rfl rfl c54) rfl rfl (E.not rfl) ?_
   refine FL.v (E.pickF rfl c54 rfl) ?_
   exact FL.nil ⟨rfl, _, S47, (Inc.rfl _), rfl, rfl, rfl, rfl, rfl, rfl, (congrArg Value.bool (bifF c54).symm)⟩
 rintro f53 w52 ⟨H49, S50, i51, k55, k56, k57, k58, k59, k60, k61⟩
 refine FL.v (E.move k61) ?_
 refine FL.cut 3 (fun f w => ∃ H : GH, St Ha wa H w [] ∧ Inc H49 H ∧ f 0 = Value.int .i64 a0 ∧ f 10 = v27 ∧ f 12 = v35 ∧ f 14 = v43 ∧ f 15 = Value.bool r37.2 ∧ f 41 = Value.bool (bif (bif (!(PF.impl_within a0 1 10)) then true else (!r21.2)) then true else (!r29.2))) ?_ ?_
 ·
  rcases bcase (bif (!(PF.impl_within a0 1 10)) then true else (!r21.2)) with c68 | c68
  ·
   refine FL.skip (wF_no rfl rfl rfl c68) rfl ?_
   refine FL.skip (wF_no rfl rfl rfl c68) rfl ?_
   refine FL.v (E.pickT rfl c68 rfl) ?_
   exact FL.nil ⟨rfl, _, S50, (Inc.rfl _), k55, k56, k57, k59, k60, (congrArg Value.bool (bifT c68).symm)⟩
  ·
   refine FL.val (wF_yes rfl rfl rfl c68) rfl rfl (E.move k58) ?_
   refine FL.val (wF_yes rfl rfl rfl c68) rfl rfl (E.not rfl) ?_
   refine FL.v (E.pickF rfl c68 rfl) ?_
   exact FL.nil ⟨rfl, _, S50, (Inc.rfl _), k55, k56, k57, k59, k60, (congrArg Value.bool (bifF c68).symm)⟩
 rintro f67 w66 ⟨H63, S64, i65, k69, k70, k71, k72, k73, k74⟩
 refine FL.v (E.move k74) ?_
 refine FL.cut 3 (fun f w => ∃ H : GH, St Ha wa H w [] ∧ Inc H63 H ∧ f 0 = Value.int .i64 a0 ∧ f 10 = v27 ∧ f 12 = v35 ∧ f 14 = v43 ∧ f 45 = Value.bool (bif (bif (bif (!(PF.impl_within a0 1 10)) then true else (!r21.2)) then true else (!r29.2)) then true else (!r37.2))) ?_ ?_
 ·
  rcases bcase (bif (bif (!(PF.impl_within a0 1 10)) then true else (!r21.2)) then true else (!r29.2)) with c81 | c81
  ·
   refine FL.skip (wF_no rfl rfl rfl c81) rfl ?_
   refine FL.skip (wF_no rfl rfl rfl c81) rfl ?_
   refine FL.v (E.pickT rfl c81 rfl) ?_
   exact FL.nil ⟨rfl, _, S64, (Inc.rfl _), k69, k70, k71, k72, (congrArg Value.bool (bifT c81).symm)⟩
  ·
   refine FL.val (wF_yes rfl rfl rfl c81) rfl rfl (E.move k73) ?_
   refine FL.val (wF_yes rfl rfl rfl c81) rfl rfl (E.not rfl) ?_
   refine FL.v (E.pickF rfl c81 rfl) ?_
   exact FL.nil ⟨rfl, _, S64, (Inc.rfl _), k69, k70, k71, k72, (congrArg Value.bool (bifF c81).symm)⟩
 rintro f80 w79 ⟨H76, S77, i78, k82, k83, k84, k85, k86⟩
 refine FL.nil ?_
 rcases ifB hp with ⟨c87, hp⟩ | ⟨c87, hp⟩
 ·
  refine FW.condT k86 c87 ?_
  refine FW.seq (FW.region ?_)
  refine FL.v (E.assign (v := Value.string (ByteArray.mk #[])) rfl) ?_
  refine FL.v (E.assign (v := Value.bool false) rfl) ?_
  refine FL.nil ?_
  refine FW.ret ?_
  obtain rfl := Option.some.inj hp
  exact ⟨.inr rfl, res2 rfl rfl rfl ⟨rfl, S77.back⟩⟩
 ·
  refine FW.condF k86 c87 ?_
  refine FW.skip (FW.seq (FW.region ?_))
  refine FL.v (E.move k82) ?_
  refine FL.v (E.move k83) ?_
  refine FL.v (E.move k84) ?_
  refine FL.v (E.move k85) ?_
  obtain ⟨r88, hr89, hp⟩ := bnd hp
  refine FL.call rfl rfl rfl (E.call Tryz.call40 (A4 rfl rfl rfl rfl)) (w_impl_caseOf S77.sl a0 v27 r21.1 (h28.mono ((((r34.inc.tr r42.inc).tr i51).tr i65).tr i78)) v35 r29.1 (h36.mono (((r42.inc.tr i51).tr i65).tr i78)) v43 r37.1 (h44.mono ((i51.tr i65).tr i78)) (hT.mono (((((r26.inc.tr r34.inc).tr r42.inc).tr i51).tr i65).tr i78)) hr89) ?_
  rintro e w91 ⟨H90, v94, rfl, r93, h95⟩
  refine ⟨_, rfl, ?_⟩
  have S92 := S77.call r93
  obtain ⟨r96, hr97, hp⟩ := bnd hp
  refine FL.call rfl rfl rfl (E.call Tryz.call63 (A1 rfl)) (w_impl_formula_shown S92.sl v94 r88 h95 hr97) ?_
  rintro e w98 ⟨rfl, r99⟩
  refine ⟨_, rfl, ?_⟩
  have S100 := S92.call r99
  refine FL.v (E.extract (i := 0) rfl rfl) ?_
  refine FL.v (E.extract (i := 1) rfl rfl) ?_
  refine FL.v (E.assign (v := Value.string r96.1) rfl) ?_
  refine FL.v (E.assign (v := Value.bool r96.2) rfl) ?_
  refine FL.nil ?_
  refine FW.ret ?_
  obtain rfl := Option.some.inj hp
  exact ⟨.inr rfl, res2 rfl rfl rfl ⟨rfl, S100.back⟩⟩

@[reducible] def p_slices_Grow_string_string (Ha : GH) (wa : World) (r : List ByteArray) : Ending → World → Prop :=
 fun e w' => ∃ H' : GH, ∃ v0 : Value, ∃ n0 : Nat, ∃ c0 : List Value, e = .returned (v0) ∧ St Ha wa H' w' [.row 9 1 v0 n0 c0] ∧ Els (up wa.heap.size H') eS 1 c0 r
theorem w_slices_Grow_string_string {Ha : GH} {wa : World} (hs : Sl Ha wa) (a1 : Int) {r : List ByteArray} (hp : PF.slices_Grow_string_string a1 = some r) :
  Calls Tryz.prog 137 #[.slice none 0 0, .int .i64 a1] wa (p_slices_Grow_string_string Ha wa r) := by
 unfold PF.slices_Grow_string_string at hp
 split at hp
 ·
  rename_i h
  cases hp
  refine (growNil (En := eS) te30 hs h.1 h.2 (fun w => Any8.slices_Grow_room (P := Tryz.prog) Tryz.grow137 none 0 0 0 w (Nat.le_refl _) (by decide) (by decide) (by decide))
   (fun n w h0 hl => ?_)).mono ?_
  ·
   have h := Any8.slices_Grow_grow (P := Tryz.prog) Tryz.grow137 _ _ Tryz.type9 rfl (by decide) none 0 0 n [] w (Nat.le_refl _) (by omega) ?_ (by unfold lim at hl; omega) (by simp) (fun _ => rfl) (by simp)
   ·
    refine h.mono ?_
    rintro _ _ ⟨rfl, rfl⟩
    refine ⟨by simp; rfl, ?_⟩
    simp
    rfl
   ·
    rw [Nat.zero_add]; refine Nat.le_trans (Nat.mul_le_mul hl (show _ ≤ 4096 by decide)) (by decide)
  ·
   rintro e w' ⟨v, n, c, rfl, h1, h2⟩
   exact ⟨_, _, _, _, rfl, h1, h2 _⟩
 ·
  cases hp

@[reducible] def p_slices_Concat_string_string (Ha : GH) (wa : World) (r : (List ByteArray)) : Ending → World → Prop :=
 fun e w' => ∃ H' : GH, ∃ v0 : Value, ∃ n0 : Nat, ∃ c0 : List Value, e = .returned (v0) ∧ St Ha wa H' w' [.row 9 1 v0 n0 c0] ∧ Els (up wa.heap.size H') eS 1 c0 r
set_option maxHeartbeats 4000000 in
theorem w_slices_Concat_string_string {Ha : GH} {wa : World} (hs : Sl Ha wa) (v0 : Value) (a0 : List (List ByteArray)) (p0 : RSl Ha (eL eS 1) 1 v0 a0) {r : (List ByteArray)} (hp : (PF.slices_Concat_string_string a0) = some r) :
  Calls Tryz.prog 99 #[v0] wa (p_slices_Concat_string_string Ha wa r) := by
 unfold PF.slices_Concat_string_string at hp
 have S0 := St.init hs
 refine calls_go (N := 36) (args := [v0]) Tryz.func99 rfl rfl rfl ?_
 refine FW.seq (FW.region ?_)
 refine FL.v (E.assign (v := Value.slice none 0 0) rfl) ?_
 refine FL.nil (FW.seq (FW.region ?_))
 refine FL.v (E.assign (v := Value.int .i64 0) rfl) ?_
 refine FL.nil (FW.seq (FW.seq (FW.region ?_)))
 refine FL.v (E.move (v := v0) rfl) ?_
 refine FL.v (E.lenP te162 rfl p0) ?_
 refine FL.v (E.move (v := Value.int .i64 0) rfl) ?_
 refine FL.nil ?_
 obtain ⟨q22, hq, hp⟩ := bndR hp
 refine FW.block ?_
 refine FW.mono (FW.forL (S := Int) (X := Empty) (fun (i22 : Nat) (s22 : Int) f w => ∃ H : GH, St Ha wa H w [] ∧ Inc Ha H ∧ f 11 = Value.int .i64 ((i22 : Nat) : Int) ∧ f 0 = v0 ∧ f 3 = Value.int .i64 s22 ∧ f 9 = v0 ∧ f 10 = Value.int .i64 (len a0)) (fun (q : Rs Int Empty) e f w => match q with | .go s22 => e = Exit.exit 0 ∧ (∃ H : GH, St Ha wa H w [] ∧ Inc Ha H ∧ f 0 = v0 ∧ f 3 = Value.int .i64 s22) | .rt x => x.elim) hq ⟨_, S0, (Inc.rfl _), rfl, rfl, rfl, rfl, rfl⟩ ?_ ?_) ?_
 ·
  clear hp hq
  rintro i22 y21 s22 f46 w45 ⟨H42, S43, i44, k47, k48, k49, k50, k51⟩ hx22 o61 hp
  refine FW.seq (FW.region ?_)
  refine FL.v (E.lssT k47 k51 (lss_len hx22)) ?_
  refine FL.nil (FW.seq ?_)
  refine FW.condT rfl rfl ?_
  refine FW.skip (FW.seq (FW.block (FW.seq (FW.region ?_))))
  obtain ⟨p52, cs53, pt54, l55, at56, rel57⟩ := p0.at (ix_nat hx22)
  obtain ⟨v58, rfl, h59⟩ := eL_open rel57
  refine FL.v (E.indexAddr te162 k50 k47 pt54) ?_
  refine FL.v (E.load rfl (run_load0 Tryz.isAgg30 ((at56.mono i44).now S43.sl) rfl)) ?_
  refine FL.v (E.assign (v := v58) rfl) ?_
  refine FL.nil (FW.seq (FW.region ?_))
  refine FL.v (E.move k49) ?_
  refine FL.v (E.move (v := v58) rfl) ?_
  refine FL.v (E.lenP te30 rfl h59) ?_
  refine FL.v (E.add rfl rfl) ?_
  refine FL.v (E.assign (v := Value.int .i64 (wr (s22 + (len y21)))) rfl) ?_
  refine FL.nil (FW.seq (FW.region ?_))
  refine FL.v (E.move (v := Value.int .i64 (wr (s22 + (len y21)))) rfl) ?_
  refine FL.v (E.lss rfl rfl) ?_
  refine FL.nil ?_
  rcases ifB hp with ⟨c60, hp⟩ | ⟨c60, hp⟩
  ·
   refine FW.condT rfl c60 ?_
   cases hp
  ·
   refine FW.condF rfl c60 ?_
   refine FW.skip (FW.region ?_)
   refine FL.v (E.add k47 rfl) ?_
   refine FL.v (E.move (v := Value.int .i64 (wr (((i22 : Nat) : Int) + 1))) rfl) ?_
   refine FL.nil ?_
   obtain rfl := Option.some.inj hp
   exact ⟨rfl, ⟨_, S43, i44, (nat_succ rfl (lt_of_get hx22) (p0.mono i44).le), k48, rfl, k50, k51⟩⟩
 ·
  clear hp hq
  rintro s22 f159 w158 ⟨H155, S156, i157, k160, k161, k162, k163, k164⟩
  refine FW.seq (FW.region ?_)
  refine FL.v (E.lss k160 k164) ?_
  refine FL.nil (FW.seq ?_)
  refine FW.condF rfl dlt_len ?_
  refine FW.exit ?_
  exact ⟨nofun, rfl, ⟨_, S156, i157, k161, k162⟩⟩
 ·
  clear hq
  intro e f66 w65 hD
  rcases q22 with s22 | x22
  ·
   obtain ⟨rfl, hD⟩ := hD
   obtain ⟨H62, S63, i64, k67, k68⟩ := hD
   replace hp := el_go hp
   refine FW.seq (FW.region ?_)
   refine FL.v (E.move k68) ?_
   obtain ⟨r69, hr70, hp⟩ := bnd hp
   refine FL.call rfl rfl rfl (E.call Tryz.call137 (A2 rfl rfl)) (w_slices_Grow_string_string S63.sl s22 hr70) ?_
   rintro e w72 ⟨H71, v75, n76, cs77, rfl, r74, els78⟩
   refine ⟨_, rfl, ?_⟩
   have els78 := els78.mono (up_le S63.size)
   have S73 := S63.join (l' := [.row 9 1 v75 n76 cs77]) r74 rfl
   refine FL.v (E.assign (v := v75) rfl) ?_
   refine FL.nil (FW.seq (FW.seq (FW.region ?_)))
   refine FL.v (E.move k67) ?_
   refine FL.v (E.lenP te162 rfl p0) ?_
   refine FL.v (E.move (v := Value.int .i64 0) rfl) ?_
   refine FL.nil ?_
   obtain ⟨q80, hq, hp⟩ := bndR hp
   refine FW.block ?_
   refine FW.mono (FW.forL (S := (List ByteArray)) (X := Empty) (fun (i80 : Nat) (s80 : (List ByteArray)) f w => ∃ H : GH, ∃ v81 : Value, ∃ n82 : Nat, ∃ cs83 : List Value, St Ha wa H w [.row 9 1 v81 n82 cs83] ∧ Inc H71 H ∧ Els (up wa.heap.size H) eS 1 cs83 s80 ∧ f 27 = Value.int .i64 ((i80 : Nat) : Int) ∧ f 6 = v81 ∧ f 25 = v0 ∧ f 26 = Value.int .i64 (len a0)) (fun (q : Rs (List ByteArray) Empty) e f w => match q with | .go s80 => e = Exit.exit 2 ∧ (∃ H : GH, ∃ v81 : Value, ∃ n82 : Nat, ∃ cs83 : List Value, St Ha wa H w [.row 9 1 v81 n82 cs83] ∧ Inc H71 H ∧ Els (up wa.heap.size H) eS 1 cs83 s80 ∧ f 6 = v81) | .rt x => x.elim) hq ⟨_, _, _, _, S73, (Inc.rfl _), els78, rfl, rfl, rfl, rfl⟩ ?_ ?_) ?_
   ·
    clear hp hq
    rintro i80 y79 s80 f116 w115 ⟨H112, v81, n82, cs83, S113, i114, els84, k117, k118, k119, k120⟩ hx80 o139 hp
    refine FW.seq (FW.region ?_)
    refine FL.v (E.lssT k117 k120 (lss_len hx80)) ?_
    refine FL.nil (FW.seq ?_)
    refine FW.condT rfl rfl ?_
    refine FW.skip (FW.seq (FW.block (FW.seq (FW.region ?_))))
    obtain ⟨p121, cs122, pt123, l124, at125, rel126⟩ := p0.at (ix_nat hx80)
    obtain ⟨v127, rfl, h128⟩ := eL_open rel126
    refine FL.v (E.indexAddr te162 k119 k117 pt123) ?_
    refine FL.v (E.load rfl (run_load0 Tryz.isAgg30 ((at125.mono ((i64.tr r74.run.inc).tr i114)).now S113.sl) rfl)) ?_
    refine FL.v (E.assign (v := v127) rfl) ?_
    refine FL.nil (FW.region ?_)
    refine FL.v (E.move k118) ?_
    refine FL.v (E.move (v := v127) rfl) ?_
    obtain ⟨xs129, hz130, hp⟩ := bnd hp
    obtain ⟨v131, w134, n132, cs133, run135, S136, els137⟩ := S113.appendP (P := Tryz.prog) (Inc.rfl _) te30 (i := 0) rfl (els84.mono upI) (h128.mono ((i64.tr r74.run.inc).tr i114)) hz130
    have S136 : St Ha wa H112 w134 [.row 9 1 v131 n132 cs133] := S136
    have els137 : Els (up wa.heap.size H112) eS 1 cs133 xs129 := els137.any (fun _ _ _ _ h => h)
    refine FL.v (E.append rfl rfl run135) ?_
    refine FL.v (E.assign (v := v131) rfl) ?_
    refine FL.nil (FW.region ?_)
    refine FL.v (E.add k117 rfl) ?_
    refine FL.v (E.move (v := Value.int .i64 (wr (((i80 : Nat) : Int) + 1))) rfl) ?_
    refine FL.nil ?_
    obtain rfl := Option.some.inj hp
    exact ⟨rfl, ⟨_, _, _, _, S136, i114, els137, (nat_succ rfl (lt_of_get hx80) (p0.mono ((i64.tr r74.run.inc).tr i114)).le), rfl, k119, k120⟩⟩
   ·
    clear hp hq
    rintro s80 f150 w149 ⟨H146, v81, n82, cs83, S147, i148, els84, k151, k152, k153, k154⟩
    refine FW.seq (FW.region ?_)
    refine FL.v (E.lss k151 k154) ?_
    refine FL.nil (FW.seq ?_)
    refine FW.condF rfl dlt_len ?_
    refine FW.exit ?_
    exact ⟨nofun, rfl, ⟨_, _, _, _, S147, i148, els84, k152⟩⟩
   ·
    clear hq
    intro e f144 w143 hD
    rcases q80 with s80 | x80
    ·
     obtain ⟨rfl, hD⟩ := hD
     obtain ⟨H140, v81, n82, cs83, S141, i142, els84, k145⟩ := hD
     replace hp := el_go hp
     refine FW.seq (FW.region ?_)
     refine FL.v (E.move k145) ?_
     refine FL.v (E.assign (v := v81) rfl) ?_
     refine FL.nil ?_
     refine FW.ret ?_
     obtain rfl := Option.some.inj hp
     exact ⟨.inr rfl, res1 rfl rfl ⟨_, _, _, _, rfl, S141, els84⟩⟩
    ·
     exact x80.elim
  ·
   exact x22.elim

@[reducible] def p_slices_SortFunc_string_string (H0 : GH) (w0 : World) (Ha : GH) (L : List MO) (v0 : Value) (n0 : Nat) (r : (List ByteArray)) : Ending → World → Prop :=
 fun e w' => ∃ H' : GH, ∃ c0k : List Value, e = .returned (Value.tuple #[]) ∧ (St H0 w0 H' w' (.row 9 1 v0 n0 c0k :: L) ∧ Inc Ha H') ∧ Els (up w0.heap.size H') eS 1 c0k r
theorem w_slices_SortFunc_string_string {H0 Ha : GH} {w0 wa : World} {L : List MO} {v0 : Value} {n0 : Nat} {k0 : List Value} (S0 : St H0 w0 Ha wa (.row 9 1 v0 n0 k0 :: L)) (a0 : List ByteArray) (p0 : Els (up w0.heap.size Ha) eS 1 k0 a0) (v1 : Value) (a1 : ByteArray → ByteArray → Option Int) (p1 : Fn_S_S_to_I Tryz.prog Ha v1 a1) {r : (List ByteArray)} (hp : (PF.slices_SortFunc_string_string a0 a1) = some r) :
  Calls Tryz.prog 100 #[v0, v1] wa (p_slices_SortFunc_string_string H0 w0 Ha L v0 n0 r) := by
 refine (St.sortF (l := .row 9 1 v0 n0 k0 :: L) (i := 0) upI S0 rfl p0 (fun H2 w2 hi hs2 c x hc d y hd r hr => by cases eS_open hc; cases eS_open hd; exact p1 H2 w2 hi hs2 x y r hr) (fun p cap fv w => AnyF.slices_SortFunc_none (P := Tryz.prog) (ρ := Tryz.sort100_ren) { Tryz.sort100 with } p cap fv w) (fun α _ enc h1 cf hO g cb blk off cap d w eg hc hH hb hs => Any.slices_SortFunc Tryz.sort100 enc h1 cf hO g cb blk off cap d w eg hc hH hb hs) hp).mono ?_
 rintro e w' ⟨rfl, c', h1, h2, hq⟩
 exact ⟨_, _, rfl, ⟨h1, Inc.rfl _⟩, h2⟩

theorem w_cmp_isNaN_int {Ha : GH} {wa : World} (hs : Sl Ha wa) (a0 : Int) :
  Calls Tryz.prog 151 #[Value.int .i64 a0] wa (Sc Ha wa (Value.bool (PF.cmp_isNaN_int a0))) := by
 obtain ⟨r, hp⟩ : ∃ r, (PF.cmp_isNaN_int a0) = r := ⟨_, rfl⟩
 rw [hp]
 unfold PF.cmp_isNaN_int at hp
 have S0 := St.init hs
 refine calls_go (N := 6) (args := [Value.int .i64 a0]) Tryz.func151 rfl rfl rfl ?_
 refine FW.seq (FW.region ?_)
 refine FL.v (E.assign (v := Value.bool false) rfl) ?_
 refine FL.nil (FW.seq (FW.region ?_))
 refine FL.v (E.move (v := Value.int .i64 a0) rfl) ?_
 refine FL.v (E.move (v := Value.int .i64 a0) rfl) ?_
 refine FL.v (E.neq rfl rfl) ?_
 refine FL.v (E.assign (v := Value.bool (!(a0 == a0))) rfl) ?_
 refine FL.nil ?_
 refine FW.ret ?_
 obtain rfl := hp
 exact ⟨.inr rfl, res1 rfl rfl ⟨rfl, S0.back⟩⟩

set_option maxHeartbeats 4000000 in
theorem w_cmp_Compare_int {Ha : GH} {wa : World} (hs : Sl Ha wa) (a0 : Int) (a1 : Int) :
  Calls Tryz.prog 140 #[Value.int .i64 a0, Value.int .i64 a1] wa (Sc Ha wa (Value.int .i64 (PF.cmp_Compare_int a0 a1))) := by
 obtain ⟨r, hp⟩ : ∃ r, (PF.cmp_Compare_int a0 a1) = r := ⟨_, rfl⟩
 rw [hp]
 unfold PF.cmp_Compare_int at hp
 have S0 := St.init hs
 refine calls_go (N := 20) (args := [Value.int .i64 a0, Value.int .i64 a1]) Tryz.func140 rfl rfl rfl ?_
 refine FW.seq (FW.region ?_)
 refine FL.v (E.assign (v := Value.int .i64 0) rfl) ?_
 refine FL.nil (FW.seq (FW.region ?_))
 refine FL.v (E.move (v := Value.int .i64 a0) rfl) ?_
 refine FL.call rfl rfl rfl (E.call Tryz.call151 (A1 rfl)) (w_cmp_isNaN_int S0.sl a0) ?_
 rintro e w21 ⟨rfl, r22⟩
 refine ⟨_, rfl, ?_⟩
 have S23 := S0.call r22
 refine FL.v (E.assign (v := Value.bool (PF.cmp_isNaN_int a0)) rfl) ?_
 refine FL.nil (FW.seq (FW.region ?_))
 refine FL.v (E.move (v := Value.int .i64 a1) rfl) ?_
 refine FL.call rfl rfl rfl (E.call Tryz.call151 (A1 rfl)) (w_cmp_isNaN_int S23.sl a1) ?_
 rintro e w24 ⟨rfl, r25⟩
 refine ⟨_, rfl, ?_⟩
 have S26 := S23.call r25
 refine FL.v (E.assign (v := Value.bool (PF.cmp_isNaN_int a1)) rfl) ?_
 refine FL.nil (FW.seq (FW.seq (FW.region ?_)))
 refine FL.v (E.move (v := Value.bool (PF.cmp_isNaN_int a0)) rfl) ?_
 refine FL.nil ?_
 rcases ifT hp with ⟨c27, hp⟩ | ⟨c27, hp⟩
 ·
  refine FW.condT rfl c27 ?_
  refine FW.seq (FW.seq (FW.region ?_))
  refine FL.v (E.move (v := Value.bool (PF.cmp_isNaN_int a1)) rfl) ?_
  refine FL.nil ?_
  rcases ifT hp with ⟨c28, hp⟩ | ⟨c28, hp⟩
  ·
   refine FW.condT rfl c28 ?_
   refine FW.seq (FW.region ?_)
   refine FL.v (E.assign (v := Value.int .i64 0) rfl) ?_
   refine FL.nil ?_
   refine FW.ret ?_
   obtain rfl := hp
   exact ⟨.inr rfl, res1 rfl rfl ⟨rfl, S26.back⟩⟩
  ·
   refine FW.condF rfl c28 ?_
   refine FW.skip (FW.seq (FW.region ?_))
   refine FL.v (E.assign (v := Value.int .i64 (-1)) rfl) ?_
   refine FL.nil ?_
   refine FW.ret ?_
   obtain rfl := hp
   exact ⟨.inr rfl, res1 rfl rfl ⟨rfl, S26.back⟩⟩
 ·
  refine FW.condF rfl c27 ?_
  refine FW.skip (FW.seq (FW.seq (FW.region ?_)))
  refine FL.v (E.move (v := Value.bool (PF.cmp_isNaN_int a1)) rfl) ?_
  refine FL.nil ?_
  rcases ifT hp with ⟨c29, hp⟩ | ⟨c29, hp⟩
  ·
   refine FW.condT rfl c29 ?_
   refine FW.seq (FW.region ?_)
   refine FL.v (E.assign (v := Value.int .i64 1) rfl) ?_
   refine FL.nil ?_
   refine FW.ret ?_
   obtain rfl := hp
   exact ⟨.inr rfl, res1 rfl rfl ⟨rfl, S26.back⟩⟩
  ·
   refine FW.condF rfl c29 ?_
   refine FW.skip (FW.seq (FW.seq (FW.region ?_)))
   refine FL.v (E.move (v := Value.int .i64 a0) rfl) ?_
   refine FL.v (E.move (v := Value.int .i64 a1) rfl) ?_
   refine FL.v (E.lss rfl rfl) ?_
   refine FL.nil ?_
   rcases ifT hp with ⟨c30, hp⟩ | ⟨c30, hp⟩
   ·
    refine FW.condT rfl c30 ?_
    refine FW.seq (FW.region ?_)
    refine FL.v (E.assign (v := Value.int .i64 (-1)) rfl) ?_
    refine FL.nil ?_
    refine FW.ret ?_
    obtain rfl := hp
    exact ⟨.inr rfl, res1 rfl rfl ⟨rfl, S26.back⟩⟩
   ·
    refine FW.condF rfl c30 ?_
    refine FW.skip (FW.seq (FW.seq (FW.region ?_)))
    refine FL.v (E.move (v := Value.int .i64 a0) rfl) ?_
    refine FL.v (E.move (v := Value.int .i64 a1) rfl) ?_
    refine FL.v (E.gtr rfl rfl) ?_
    refine FL.nil ?_
    rcases ifT hp with ⟨c31, hp⟩ | ⟨c31, hp⟩
    ·
     refine FW.condT rfl c31 ?_
     refine FW.seq (FW.region ?_)
     refine FL.v (E.assign (v := Value.int .i64 1) rfl) ?_
     refine FL.nil ?_
     refine FW.ret ?_
     obtain rfl := hp
     exact ⟨.inr rfl, res1 rfl rfl ⟨rfl, S26.back⟩⟩
    ·
     refine FW.condF rfl c31 ?_
     refine FW.skip (FW.seq (FW.region ?_))
     refine FL.v (E.assign (v := Value.int .i64 0) rfl) ?_
     refine FL.nil ?_
     refine FW.ret ?_
     obtain rfl := hp
     exact ⟨.inr rfl, res1 rfl rfl ⟨rfl, S26.back⟩⟩

theorem w_strings_Compare {Ha : GH} {wa : World} (hs : Sl Ha wa) (a0 a1 : ByteArray) : Calls Tryz.prog 141 #[Value.string a0, Value.string a1] wa (Sc Ha wa (Value.int .i64 (PF.strings_Compare a0 a1))) := by
 refine (Go.Proofs.Any.strings_Compare Tryz.comp141 a0 a1 wa).mono ?_
 rintro e w' ⟨rfl, rfl⟩
 exact ⟨rfl, Run.refl _ hs⟩

theorem w_cmp_Or_int {Ha : GH} {wa : World} (hs : Sl Ha wa) (v0 : Value) (a0 : List Int) (p0 : RSl Ha eI 1 v0 a0) {r : Int} (hp : (PF.cmp_Or_int a0) = some r) :
  Calls Tryz.prog 139 #[v0] wa (Sc Ha wa (Value.int .i64 r)) := by
 unfold PF.cmp_Or_int at hp
 have S0 := St.init hs
 refine calls_go (N := 18) (args := [v0]) Tryz.func139 rfl rfl rfl ?_
 refine FW.seq (FW.region ?_)
 refine FL.v (E.assign (v := Value.int .i64 0) rfl) ?_
 refine FL.nil (FW.seq (FW.region ?_))
 refine FL.v (E.assign (v := Value.int .i64 0) rfl) ?_
 refine FL.nil (FW.seq (FW.seq (FW.region ?_)))
 refine FL.v (E.move (v := v0) rfl) ?_
 refine FL.v (E.lenP te39 rfl p0) ?_
 refine FL.v (E.move (v := Value.int .i64 0) rfl) ?_
 refine FL.nil ?_
 obtain ⟨q22, hq, hp⟩ := bndR hp
 refine FW.block ?_
 refine FW.mono (FW.forL (S := Unit) (X := Int) (fun (i22 : Nat) (s22 : Unit) f w => ∃ H : GH, St Ha wa H w [] ∧ Inc Ha H ∧ f 8 = Value.int .i64 ((i22 : Nat) : Int) ∧ f 3 = Value.int .i64 0 ∧ f 6 = v0 ∧ f 7 = Value.int .i64 (len a0)) (fun q e f w => match q with | .go s22 => e = Exit.exit 0 ∧ (∃ H : GH, St Ha wa H w [] ∧ Inc Ha H ∧ f 3 = Value.int .i64 0) | .rt x => ((e = Exit.ret) ∧ (fun e f w => (e = Exit.normal ∨ e = Exit.ret) ∧ ∀ a, Fr (δ := []) 18 a f → ∃ v, (results Tryz.f139 a.tmps).run Tryz.prog w = .ok v w ∧ (Sc Ha wa (Value.int .i64 x)) (.returned v) w) e f w)) hq ⟨_, S0, (Inc.rfl _), rfl, rfl, rfl, rfl⟩ ?_ ?_) ?_
 ·
  clear hp hq
  rintro i22 y21 s22 f43 w42 ⟨H39, S40, i41, k44, k45, k46, k47⟩ hx22 o55 hp
  refine FW.seq (FW.region ?_)
  refine FL.v (E.lssT k44 k47 (lss_len hx22)) ?_
  refine FL.nil (FW.seq ?_)
  refine FW.condT rfl rfl ?_
  refine FW.skip (FW.seq (FW.block (FW.seq (FW.region ?_))))
  obtain ⟨p48, cs49, pt50, l51, at52, rel53⟩ := p0.at (ix_nat hx22)
  obtain rfl := eI_open rel53
  refine FL.v (E.indexAddr te39 k46 k44 pt50) ?_
  refine FL.v (E.load rfl (run_load0 Tryz.isAgg3 ((at52.mono i41).now S40.sl) rfl)) ?_
  refine FL.v (E.assign (v := Value.int .i64 y21) rfl) ?_
  refine FL.nil (FW.seq (FW.region ?_))
  refine FL.v (E.move (v := Value.int .i64 y21) rfl) ?_
  refine FL.v (E.move k45) ?_
  refine FL.v (E.neq rfl rfl) ?_
  refine FL.nil ?_
  rcases ifB hp with ⟨c54, hp⟩ | ⟨c54, hp⟩
  ·
   refine FW.condT rfl c54 ?_
   refine FW.seq (FW.region ?_)
   refine FL.v (E.move (v := Value.int .i64 y21) rfl) ?_
   refine FL.v (E.assign (v := Value.int .i64 y21) rfl) ?_
   refine FL.nil ?_
   refine FW.ret ?_
   obtain rfl := Option.some.inj hp
   exact ⟨nofun, rfl, ⟨.inr rfl, res1 rfl rfl ⟨rfl, S40.back⟩⟩⟩
  ·
   refine FW.condF rfl c54 ?_
   refine FW.skip (FW.region ?_)
   refine FL.v (E.add k44 rfl) ?_
   refine FL.v (E.move (v := Value.int .i64 (wr (((i22 : Nat) : Int) + 1))) rfl) ?_
   refine FL.nil ?_
   obtain rfl := Option.some.inj hp
   exact ⟨rfl, ⟨_, S40, i41, (nat_succ rfl (lt_of_get hx22) (p0.mono i41).le), k45, k46, k47⟩⟩
 ·
  clear hp hq
  rintro s22 f66 w65 ⟨H62, S63, i64, k67, k68, k69, k70⟩
  refine FW.seq (FW.region ?_)
  refine FL.v (E.lss k67 k70) ?_
  refine FL.nil (FW.seq ?_)
  refine FW.condF rfl dlt_len ?_
  refine FW.exit ?_
  exact ⟨nofun, rfl, ⟨_, S63, i64, k68⟩⟩
 ·
  clear hq
  intro e f60 w59 hD
  rcases q22 with s22 | x22
  ·
   obtain ⟨rfl, hD⟩ := hD
   obtain ⟨H56, S57, i58, k61⟩ := hD
   replace hp := el_go hp
   refine FW.seq (FW.region ?_)
   refine FL.v (E.move k61) ?_
   refine FL.v (E.assign (v := Value.int .i64 0) rfl) ?_
   refine FL.nil ?_
   refine FW.ret ?_
   obtain rfl := Option.some.inj hp
   exact ⟨.inr rfl, res1 rfl rfl ⟨rfl, S57.back⟩⟩
  ·
   obtain ⟨he, hL⟩ := hD
   replace hp := el_rt hp
   obtain rfl := Option.some.inj hp
   subst he
   exact hL

theorem w_impl_compareFormulas {Ha : GH} {wa : World} (hs : Sl Ha wa) (a0 : ByteArray) (a1 : ByteArray) {r : Int} (hp : (PF.impl_compareFormulas a0 a1) = some r) :
  Calls Tryz.prog 101 #[Value.string a0, Value.string a1] wa (Sc Ha wa (Value.int .i64 r)) := by
 unfold PF.impl_compareFormulas at hp
 have S0 := St.init hs
 refine calls_go (N := 15) (args := [Value.string a0, Value.string a1]) Tryz.func101 rfl rfl rfl ?_
 refine FW.seq (FW.region ?_)
 refine FL.v (E.assign (v := Value.int .i64 0) rfl) ?_
 refine FL.nil (FW.seq (FW.region ?_))
 refine FL.v (E.move (v := Value.string a0) rfl) ?_
 refine FL.v (E.lenS Tryz.runUnderlying9 rfl) ?_
 refine FL.v (E.move (v := Value.string a1) rfl) ?_
 refine FL.v (E.lenS Tryz.runUnderlying9 rfl) ?_
 refine FL.call rfl rfl rfl (E.call Tryz.call140 (A2 rfl rfl)) (w_cmp_Compare_int S0.sl (a0.size : Int) (a1.size : Int)) ?_
 rintro e w21 ⟨rfl, r22⟩
 refine ⟨_, rfl, ?_⟩
 have S23 := S0.call r22
 refine FL.v (E.move (v := Value.string a0) rfl) ?_
 refine FL.v (E.move (v := Value.string a1) rfl) ?_
 refine FL.call rfl rfl rfl (E.call Tryz.call141 (A2 rfl rfl)) (w_strings_Compare S23.sl a0 a1) ?_
 rintro e w24 ⟨rfl, r25⟩
 refine ⟨_, rfl, ?_⟩
 have S26 := S23.call r25
 obtain ⟨v27, w28, run29, S30, els31⟩ := S26.ints (P := Tryz.prog) te39 (up wa.heap.size Ha) 2 [(PF.cmp_Compare_int (a0.size : Int) (a1.size : Int)), (PF.strings_Compare a0 a1)]
 refine FL.v (E.buildSlice (B2 rfl rfl) run29) ?_
 obtain ⟨H32, S33, i34, h35, nv36⟩ := S30.sealRowU (i := 0) (l' := []) rfl els31 (by decide) rfl
 obtain ⟨r37, hr38, hp⟩ := bnd hp
 refine FL.call rfl rfl rfl (E.call Tryz.call139 (A1 rfl)) (w_cmp_Or_int S33.sl v27 [(PF.cmp_Compare_int (a0.size : Int) (a1.size : Int)), (PF.strings_Compare a0 a1)] (h35.mono upI) hr38) ?_
 rintro e w39 ⟨rfl, r40⟩
 refine ⟨_, rfl, ?_⟩
 have r40 := Run.lend i34 S30.sl r40
 have S41 := S30.call r40
 refine FL.v (E.assign (v := Value.int .i64 r37) rfl) ?_
 refine FL.nil ?_
 refine FW.ret ?_
 obtain rfl := Option.some.inj hp
 exact ⟨.inr rfl, res1 rfl rfl ⟨rfl, S41.back⟩⟩

@[reducible] def p_slices_Compact_string_string (H0 : GH) (w0 : World) (Ha : GH) (L : List MO) (r : (List ByteArray)) : Ending → World → Prop :=
 fun e w' => ∃ H' : GH, ∃ v0r : Value, ∃ n0r : Nat, ∃ c0r : List Value, e = .returned (v0r) ∧ (St H0 w0 H' w' (.row 9 1 v0r n0r c0r :: L) ∧ Inc Ha H') ∧ Els (up w0.heap.size H') eS 1 c0r r
theorem w_slices_Compact_string_string {H0 Ha : GH} {w0 wa : World} {L : List MO} {v0 : Value} {n0 : Nat} {k0 : List Value} (S0 : St H0 w0 Ha wa (.row 9 1 v0 n0 k0 :: L)) (a0 : List ByteArray) (p0 : Els (up w0.heap.size Ha) eS 1 k0 a0) {r : (List ByteArray)} (hp : (PF.slices_Compact_string_string a0) = some r) :
  Calls Tryz.prog 102 #[v0] wa (p_slices_Compact_string_string H0 w0 Ha L r) := by
 cases hp
 refine (St.compactF (l := .row 9 1 v0 n0 k0 :: L) (i := 0) S0 rfl p0 (enc := Value.string) (fun _ => rfl) (fun _ _ _ h => by cases eS_open h; rfl) (fun _ _ => rfl) ByteArray.empty (fun w => compact_none Tryz.comp102 w) (fun blk off cap d w hH hs hc => AnyE.slices_Compact Tryz.comp102 Value.string (fun _ => rfl) (EqlAt.stringD _ _) (NeqAt.stringD _ _) ByteArray.empty (fun w => Tryz.zeroValue9 w) blk off cap d w hH hs hc)).mono ?_
 rintro e w' ⟨v', n', c', rfl, h1, h2⟩
 exact ⟨_, _, _, _, rfl, ⟨h1, Inc.rfl _⟩, h2⟩

@[reducible] def p_impl_with (Ha : GH) (wa : World) (r : (List ByteArray)) : Ending → World → Prop :=
 fun e w' => ∃ H' : GH, ∃ v0 : Value, ∃ n0 : Nat, ∃ c0 : List Value, e = .returned (v0) ∧ St Ha wa H' w' [.row 9 1 v0 n0 c0] ∧ Els (up wa.heap.size H') eS 1 c0 r
theorem w_impl_with {Ha : GH} {wa : World} (hs : Sl Ha wa) (v0 : Value) (a0 : List ByteArray) (p0 : RSl Ha eS 1 v0 a0) (v1 : Value) (a1 : List ByteArray) (p1 : RSl Ha eS 1 v1 a1) {r : (List ByteArray)} (hp : (PF.impl_with a0 a1) = some r) :
  Calls Tryz.prog 65 #[v0, v1] wa (p_impl_with Ha wa r) := by
 unfold PF.impl_with at hp
 have S0 := St.init hs
 refine calls_go (N := 14) (args := [v0, v1]) Tryz.func65 rfl rfl rfl ?_
 refine FW.seq (FW.region ?_)
 refine FL.v (E.assign (v := Value.slice none 0 0) rfl) ?_
 refine FL.nil (FW.seq (FW.region ?_))
 refine FL.v (E.move (v := v0) rfl) ?_
 refine FL.v (E.move (v := v1) rfl) ?_
 obtain ⟨v21, w22, run23, S24⟩ := S0.buildSlice (P := Tryz.prog) te162 [v0, v1] (parts := #[(0, v0), (1, v1)]) (cells := [v0, v1]) rfl (szs_cons (cells_size p0.cells) (szs_cons (cells_size p1.cells) szs_nil)) (fc_cons p0.cells (fc_cons p1.cells fc_nil)) (ones_cons p0.one (ones_cons p1.one ones_nil)) (Nat.le_of_ble_eq_true rfl)
 have els25 : Els Ha (eL eS 1) 1 [v0, v1] [a0, a1] := (Els.snoc (H := Ha) (E := (eL eS 1)) (k := 1) (c := [v1]) (x := a1) (Els.snoc (H := Ha) (E := (eL eS 1)) (k := 1) (c := [v0]) (x := a0) Els.nil rfl ⟨_, rfl, p0⟩) rfl ⟨_, rfl, p1⟩)
 refine FL.v (E.buildSlice (B2 rfl rfl) run23) ?_
 obtain ⟨H26, S27, i28, h29⟩ := S24.sealRow (i := 0) (l' := []) rfl els25 (by decide) rfl
 obtain ⟨r31, hr32, hp⟩ := bnd hp
 refine FL.call rfl rfl rfl (E.call Tryz.call99 (A1 rfl)) (w_slices_Concat_string_string S27.sl v21 [a0, a1] h29 hr32) ?_
 rintro e w34 ⟨H33, v39, n40, cs41, rfl, r36, els42⟩
 refine ⟨_, rfl, ?_⟩
 obtain ⟨H37, r36, hU38⟩ := St.lendX i28 S24.sl r36
 have els42 := els42.mono (hU38.tr (up_le S24.size))
 have S35 := S24.join (l' := [.row 9 1 v39 n40 cs41, .row 30 1 v21 2 [v0, v1]]) r36 rfl
 refine FL.v (E.assign (v := v39) rfl) ?_
 refine FL.nil (FW.seq (FW.region ?_))
 refine FL.v (E.move (v := v39) rfl) ?_
 obtain ⟨r43, hr44, hp⟩ := bnd hp
 refine FL.call rfl rfl rfl (E.call Tryz.call100 (A2 rfl rfl)) (w_slices_SortFunc_string_string (L := [.row 30 1 v21 2 [v0, v1]]) S35 r31 els42 (Value.func (.func 101) #[] #[]) (fun x0 x1 => PF.impl_compareFormulas x0 x1) (fun H2 w2 hi2 hs2 x0 x1 r hr => ⟨101, #[], rfl, Tryz.call101, w_impl_compareFormulas hs2 x0 x1  hr⟩) hr44) ?_
 rintro e w46 ⟨H45, cs49, rfl, ⟨S47, i48⟩, els50⟩
 refine ⟨_, rfl, ?_⟩
 have S47 : St Ha wa H45 w46 [.row 9 1 v39 n40 cs49, .row 30 1 v21 2 [v0, v1]] := S47
 refine FL.nil (FW.seq (FW.region ?_))
 refine FL.v (E.move (v := v39) rfl) ?_
 obtain ⟨r51, hr52, hp⟩ := bnd hp
 refine FL.call rfl rfl rfl (E.call Tryz.call102 (A1 rfl)) (w_slices_Compact_string_string (L := [.row 30 1 v21 2 [v0, v1]]) S47 r43 els50 hr52) ?_
 rintro e w54 ⟨H53, v57, n58, cs59, rfl, ⟨S55, i56⟩, els60⟩
 refine ⟨_, rfl, ?_⟩
 have S55 : St Ha wa H53 w54 [.row 9 1 v57 n58 cs59, .row 30 1 v21 2 [v0, v1]] := S55
 refine FL.v (E.assign (v := v57) rfl) ?_
 refine FL.nil ?_
 refine FW.ret ?_
 obtain rfl := Option.some.inj hp
 exact ⟨.inr rfl, res1 rfl rfl ⟨_, _, _, _, rfl, (S55.sel [0] (by decide) rfl), els60⟩⟩

@[reducible] def p_impl_givenSequent (Ha : GH) (wa : World) (r : Sequent) : Ending → World → Prop :=
 fun e w' => ∃ H' : GH, ∃ v0_0 : Value, ∃ v0_1 : Value, e = .returned (Value.agg #[v0_0, v0_1]) ∧ Run wa.heap.size Ha wa H' w' ∧ (∃ c0 c1, Nest (up wa.heap.size H') eS 1 v0_0 r.left c0 ∧ Nest (up wa.heap.size H') eS 1 v0_1 r.right c1 ∧ Ap v0_0 c0 v0_1 c1)
theorem w_impl_givenSequent {Ha : GH} {wa : World} (hs : Sl Ha wa) (v0 : Value) (a0 : List ByteArray) (p0 : RSl Ha eS 1 v0 a0) (a1 : ByteArray) {r : Sequent} (hp : (PF.impl_givenSequent a0 a1) = some r) :
  Calls Tryz.prog 27 #[v0, Value.string a1] wa (p_impl_givenSequent Ha wa r) := by
 unfold PF.impl_givenSequent at hp
 have S0 := St.init hs
 refine calls_go (N := 10) (args := [v0, Value.string a1]) Tryz.func27 rfl rfl rfl ?_
 refine FW.seq (FW.region ?_)
 obtain ⟨b21, w22, run23, S24⟩ := S0.alloc (P := Tryz.prog) 51 [Value.slice none 0 0, Value.slice none 0 0] Tryz.zeroValue51 rfl (ones_cons rfl (ones_cons rfl ones_nil))
 refine FL.v (E.alloc run23) ?_
 refine FL.nil (FW.seq (FW.region ?_))
 refine FL.v (E.move (v := v0) rfl) ?_
 obtain ⟨r25, hr26, hp⟩ := bnd hp
 refine FL.call rfl rfl rfl (E.call Tryz.call65 (A2 rfl rfl)) (w_impl_with S24.sl _ [] (RSl.nil _ _ _) v0 a0 p0 hr26) ?_
 rintro e w28 ⟨H27, v31, n32, cs33, rfl, r30, els34⟩
 refine ⟨_, rfl, ?_⟩
 have els34 := els34.mono (up_le S24.size)
 have S29 := S24.join (l' := [.row 9 1 v31 n32 cs33, .box b21 51 [Value.slice none 0 0, Value.slice none 0 0]]) r30 rfl
 refine FL.v (E.move (v := Value.string a1) rfl) ?_
 obtain ⟨v35, w36, run37, S38⟩ := S29.buildSlice (P := Tryz.prog) te30 [Value.string a1] (parts := #[(0, Value.string a1)]) (cells := [Value.string a1]) rfl (szs_cons rfl szs_nil) (fc_cons rfl fc_nil) (ones_cons rfl ones_nil) (Nat.le_of_ble_eq_true rfl)
 have els39 : Els (up wa.heap.size H27) eS 1 [Value.string a1] [a1] := (Els.snoc (H := (up wa.heap.size H27)) (E := eS) (k := 1) (c := [Value.string a1]) (x := a1) Els.nil rfl rfl)
 refine FL.v (E.buildSlice (B1 rfl) run37) ?_
 refine FL.v (E.build (B2 rfl rfl) (run_build _ 51 #[(0, v31), (1, v35)] #[v31, v35] (by obtain ⟨_, _, rfl⟩ := S38.row_ln (i := 1) rfl; obtain ⟨_, _, rfl⟩ := S38.row_ln (i := 0) rfl; rfl))) ?_
 obtain ⟨w40, run41, S42⟩ := S38.store0 (P := Tryz.prog) (t := 51) (i := 2) (cs' := [v31, v35]) (l' := [.row 9 1 v35 1 [Value.string a1], .row 9 1 v31 n32 cs33, .box b21 51 [v31, v35]]) (v := Value.agg #[v31, v35]) (c := [v31, v35]) rfl Tryz.sizeOf51 rfl rfl (ones_cons (Ln.one (S38.row_ln (i := 1) rfl)) (ones_cons (Ln.one (S38.row_ln (i := 0) rfl)) ones_nil)) (Nat.le_of_ble_eq_true rfl) rfl rfl
 refine FL.act rfl rfl (E.store rfl rfl run41) ?_
 obtain ⟨H43, S44, i45, h46, nv47⟩ := S42.sealRowU (i := 1) (l' := [.row 9 1 v35 1 [Value.string a1], .box b21 51 [v31, v35]]) rfl els34 (by decide) rfl
 obtain ⟨H48, S49, i50, h51, nv52⟩ := S44.sealRowU (i := 0) (l' := [.box b21 51 [v31, v35]]) rfl (els39.mono (up_mono i45)) (by decide) rfl
 obtain ⟨H53, S54, i55, at56⟩ := S49.sealBox (i := 0) (l' := []) rfl rfl
 refine FL.nil ?_
 refine FW.ret ?_
 obtain rfl := Option.some.inj hp
 exact ⟨.inr rfl, resC rfl rfl (loadVar_A Tryz.isAgg51 Tryz.sizeOf51 (at56.now S54.sl) rfl) ⟨_, _, _, rfl, S54.run, (Ap.flat2 (h46.mono (up_mono (i50.tr i55))) eS_flat (by decide) (h51.mono (up_mono i55)) eS_flat (by decide) (New.apart (h46.mono (up_mono (Inc.rfl _))) nv52))⟩⟩

theorem w_impl_IsFormula {Ha : GH} {wa : World} (hs : Sl Ha wa) (a0 : ByteArray) {r : Bool} (hp : (PF.impl_IsFormula a0) = some r) :
  Calls Tryz.prog 106 #[Value.string a0] wa (Sc Ha wa (Value.bool r)) := by
 unfold PF.impl_IsFormula at hp
 have S0 := St.init hs
 refine calls_go (N := 11) (args := [Value.string a0]) Tryz.func106 rfl rfl rfl ?_
 refine FW.seq (FW.region ?_)
 refine FL.v (E.assign (v := Value.bool false) rfl) ?_
 refine FL.nil (FW.seq (FW.region ?_))
 refine FL.v (E.move (v := Value.string a0) rfl) ?_
 obtain ⟨r21, hr22, hp⟩ := bnd hp
 refine FL.call rfl rfl rfl (E.call Tryz.call37 (A1 rfl)) (w_impl_parse S0.sl a0 hr22) ?_
 rintro e w24 ⟨H23, v27, rfl, r26, h28⟩
 refine ⟨_, rfl, ?_⟩
 have S25 := S0.call r26
 refine FL.v (E.move (v := Value.tuple #[v27, Value.bool r21.2]) rfl) ?_
 refine FL.v (E.extract (i := 0) rfl rfl) ?_
 refine FL.v (E.extract (i := 1) rfl rfl) ?_
 refine FL.v (E.assign (v := v27) rfl) ?_
 refine FL.v (E.assign (v := Value.bool r21.2) rfl) ?_
 refine FL.nil (FW.seq (FW.region ?_))
 refine FL.v (E.move (v := Value.bool r21.2) rfl) ?_
 refine FL.v (E.assign (v := Value.bool r21.2) rfl) ?_
 refine FL.nil ?_
 refine FW.ret ?_
 obtain rfl := Option.some.inj hp
 exact ⟨.inr rfl, res1 rfl rfl ⟨rfl, S25.back⟩⟩

set_option maxHeartbeats 4000000 in
theorem w_impl_sideOk {Ha : GH} {wa : World} (hs : Sl Ha wa) (v0 : Value) (a0 : List ByteArray) (p0 : RSl Ha eS 1 v0 a0) {r : Bool} (hp : (PF.impl_sideOk a0) = some r) :
  Calls Tryz.prog 131 #[v0] wa (Sc Ha wa (Value.bool r)) := by
 unfold PF.impl_sideOk at hp
 have S0 := St.init hs
 refine calls_go (N := 33) (args := [v0]) Tryz.func131 rfl rfl rfl ?_
 refine FW.seq (FW.region ?_)
 refine FL.v (E.assign (v := Value.bool false) rfl) ?_
 refine FL.nil (FW.seq (FW.seq (FW.region ?_)))
 refine FL.v (E.move (v := v0) rfl) ?_
 refine FL.v (E.lenP te30 rfl p0) ?_
 refine FL.v (E.move (v := Value.int .i64 0) rfl) ?_
 refine FL.nil ?_
 obtain ⟨q22, hq, hp⟩ := bndR hp
 refine FW.block ?_
 refine FW.mono (FW.forL (S := Unit) (X := Bool) (fun (i22 : Nat) (s22 : Unit) f w => ∃ H : GH, St Ha wa H w [] ∧ Inc Ha H ∧ f 7 = Value.int .i64 ((i22 : Nat) : Int) ∧ f 0 = v0 ∧ f 5 = v0 ∧ f 6 = Value.int .i64 (len a0)) (fun q e f w => match q with | .go s22 => e = Exit.exit 0 ∧ (∃ H : GH, St Ha wa H w [] ∧ Inc Ha H ∧ f 0 = v0) | .rt x => ((e = Exit.ret) ∧ (fun e f w => (e = Exit.normal ∨ e = Exit.ret) ∧ ∀ a, Fr (δ := []) 33 a f → ∃ v, (results Tryz.f131 a.tmps).run Tryz.prog w = .ok v w ∧ (Sc Ha wa (Value.bool x)) (.returned v) w) e f w)) hq ⟨_, S0, (Inc.rfl _), rfl, rfl, rfl, rfl⟩ ?_ ?_) ?_
 ·
  clear hp hq
  rintro i22 y21 s22 f138 w137 ⟨H134, S135, i136, k139, k140, k141, k142⟩ hx22 o245 hp
  refine FW.seq (FW.region ?_)
  refine FL.v (E.lssT k139 k142 (lss_len hx22)) ?_
  refine FL.nil (FW.seq ?_)
  refine FW.condT rfl rfl ?_
  refine FW.skip (FW.seq (FW.block (FW.seq (FW.region ?_))))
  refine FL.v (E.move k139) ?_
  obtain ⟨p143, cs144, pt145, l146, at147, rel148⟩ := p0.at (ix_nat hx22)
  obtain rfl := eS_open rel148
  refine FL.v (E.indexAddr te30 k141 k139 pt145) ?_
  refine FL.v (E.load rfl (run_load0 Tryz.isAgg9 ((at147.mono i136).now S135.sl) rfl)) ?_
  refine FL.v (E.assign (v := Value.int .i64 ((i22 : Nat) : Int)) rfl) ?_
  refine FL.v (E.assign (v := Value.string y21) rfl) ?_
  refine FL.nil (FW.seq (FW.region ?_))
  refine FL.v (E.move (v := Value.string y21) rfl) ?_
  obtain ⟨r149, hr150, hp⟩ := bnd hp
  refine FL.call rfl rfl rfl (E.call Tryz.call106 (A1 rfl)) (w_impl_IsFormula S135.sl y21 hr150) ?_
  rintro e w151 ⟨rfl, r152⟩
  refine ⟨_, rfl, ?_⟩
  have S153 := S135.call r152
  refine FL.v (E.not rfl) ?_
  refine FL.v (E.move (v := Value.bool (!r149)) rfl) ?_
  obtain ⟨t193, hqt193, hp⟩ := bnd hp
  refine FL.cut 13 (fun f w => ∃ H : GH, St Ha wa H w [] ∧ Inc H134 H ∧ f 0 = v0 ∧ f 5 = v0 ∧ f 6 = Value.int .i64 (len a0) ∧ f 7 = Value.int .i64 ((i22 : Nat) : Int) ∧ f 28 = Value.bool t193) ?_ ?_
  ·
   clear hp; have hp := hqt193; clear hqt193
   rcases ifB hp with ⟨c199, hp⟩ | ⟨c199, hp⟩
   ·
    refine FL.skip (wF_no rfl rfl rfl c199) rfl ?_
    refine FL.skip (wF_no rfl rfl rfl c199) rfl ?_
    refine FL.skip (wF_no rfl rfl rfl c199) rfl ?_
    refine FL.skip (wF_undef rfl rfl rfl) rfl ?_
    refine FL.skip (wF_undef rfl rfl rfl) rfl ?_
    refine FL.skip (wF_undef rfl rfl rfl) rfl ?_
    refine FL.skip (wF_undef rfl rfl rfl) rfl ?_
    refine FL.skip (wF_undef rfl rfl rfl) rfl ?_
    refine FL.skip (wF_undef rfl rfl rfl) rfl ?_
    refine FL.skip (wF_undef rfl rfl rfl) rfl ?_
    refine FL.skip (wF_undef rfl rfl rfl) rfl ?_
    refine FL.skip (wF_no rfl rfl rfl c199) rfl ?_
    obtain rfl := Option.some.inj hp
    refine FL.v (E.pickT rfl c199 rfl) ?_
    exact FL.nil ⟨rfl, _, S153, (Inc.rfl _), k140, k141, k142, k139, rfl⟩
   ·
    refine FL.val (wF_yes rfl rfl rfl c199) rfl rfl (E.move (v := Value.int .i64 ((i22 : Nat) : Int)) rfl) ?_
    refine FL.val (wF_yes rfl rfl rfl c199) rfl rfl (E.gtr rfl rfl) ?_
    refine FL.val (wF_yes rfl rfl rfl c199) rfl rfl (E.move (v := Value.bool (decide (0 < ((i22 : Nat) : Int)))) rfl) ?_
    obtain ⟨t213, hqt213, hp⟩ := bnd hp
    refine FL.cut 9 (fun f w => ∃ H : GH, St Ha wa H w [] ∧ Inc H134 H ∧ f 0 = v0 ∧ f 5 = v0 ∧ f 6 = Value.int .i64 (len a0) ∧ f 7 = Value.int .i64 ((i22 : Nat) : Int) ∧ f 15 = Value.bool (!r149) ∧ f 27 = Value.bool t213) ?_ ?_
    ·
     clear hp; have hp := hqt213; clear hqt213
     rcases ifB hp with ⟨c219, hp⟩ | ⟨c219, hp⟩
     ·
      refine FL.val (wF_yes rfl rfl rfl c219) rfl rfl (E.move k140) ?_
      refine FL.val (wF_yes rfl rfl rfl c219) rfl rfl (E.move (v := Value.int .i64 ((i22 : Nat) : Int)) rfl) ?_
      refine FL.val (wF_yes rfl rfl rfl c219) rfl rfl (E.sub rfl rfl) ?_
      obtain ⟨x226, hx227, hp⟩ := bnd hp
      obtain ⟨p220, cs221, pt222, l223, at224, rel225⟩ := p0.at hx227
      obtain rfl := eS_open rel225
      refine FL.val (wF_yes rfl rfl rfl c219) rfl rfl (E.indexAddr te30 rfl rfl pt222) ?_
      refine FL.val (wF_yes rfl rfl rfl c219) rfl rfl (E.load rfl (run_load0 Tryz.isAgg9 ((at224.mono i136).now S153.sl) rfl)) ?_
      refine FL.val (wF_yes rfl rfl rfl c219) rfl rfl (E.move (v := Value.string y21) rfl) ?_
      obtain ⟨r228, hr229, hp⟩ := bnd hp
      refine FL.call (wF_yes rfl rfl rfl c219) rfl rfl (E.call Tryz.call101 (A2 rfl rfl)) (w_impl_compareFormulas S153.sl x226 y21 hr229) ?_
      rintro e w230 ⟨rfl, r231⟩
      refine ⟨_, rfl, ?_⟩
      have S232 := S153.call r231
      refine FL.val (wF_yes rfl rfl rfl c219) rfl rfl (E.geq rfl rfl) ?_
      obtain rfl := Option.some.inj hp
      refine FL.val (wF_yes rfl rfl rfl c199) rfl rfl (E.pickT rfl c219 rfl) ?_
      exact FL.nil ⟨rfl, _, S232, (Inc.rfl _), k140, k141, k142, k139, rfl, rfl⟩
     ·
      refine FL.skip (wF_no rfl rfl rfl c219) rfl ?_
      refine FL.skip (wF_no rfl rfl rfl c219) rfl ?_
      refine FL.skip (wF_no rfl rfl rfl c219) rfl ?_
      refine FL.skip (wF_no rfl rfl rfl c219) rfl ?_
      refine FL.skip (wF_no rfl rfl rfl c219) rfl ?_
      refine FL.skip (wF_no rfl rfl rfl c219) rfl ?_
      refine FL.skip (wF_no rfl rfl rfl c219) rfl ?_
      refine FL.skip (wF_no rfl rfl rfl c219) rfl ?_
      obtain rfl := Option.some.inj hp
      refine FL.val (wF_yes rfl rfl rfl c199) rfl rfl (E.pickF rfl c219 rfl) ?_
      exact FL.nil ⟨rfl, _, S153, (Inc.rfl _), k140, k141, k142, k139, rfl, rfl⟩
    rintro f218 w217 ⟨H214, S215, i216, k233, k234, k235, k236, k237, k238⟩
    obtain rfl := Option.some.inj hp
    refine FL.v (E.pickF k237 c199 k238) ?_
    exact FL.nil ⟨rfl, _, S215, i216, k233, k234, k235, k236, rfl⟩
  rintro f198 w197 ⟨H194, S195, i196, k239, k240, k241, k242, k243⟩
  refine FL.nil ?_
  rcases ifB hp with ⟨c244, hp⟩ | ⟨c244, hp⟩
  ·
   refine FW.condT k243 c244 ?_
   refine FW.seq (FW.region ?_)
   refine FL.v (E.assign (v := Value.bool false) rfl) ?_
   refine FL.nil ?_
   refine FW.ret ?_
   obtain rfl := Option.some.inj hp
   exact ⟨nofun, rfl, ⟨.inr rfl, res1 rfl rfl ⟨rfl, S195.back⟩⟩⟩
  ·
   refine FW.condF k243 c244 ?_
   refine FW.skip (FW.region ?_)
   refine FL.v (E.add k242 rfl) ?_
   refine FL.v (E.move (v := Value.int .i64 (wr (((i22 : Nat) : Int) + 1))) rfl) ?_
   refine FL.nil ?_
   obtain rfl := Option.some.inj hp
   exact ⟨rfl, ⟨_, S195, (i136.tr i196), (nat_succ rfl (lt_of_get hx22) (p0.mono (i136.tr i196)).le), k239, k240, k241⟩⟩
 ·
  clear hp hq
  rintro s22 f256 w255 ⟨H252, S253, i254, k257, k258, k259, k260⟩
  refine FW.seq (FW.region ?_)
  refine FL.v (E.lss k257 k260) ?_
  refine FL.nil (FW.seq ?_)
  refine FW.condF rfl dlt_len ?_
  refine FW.exit ?_
  exact ⟨nofun, rfl, ⟨_, S253, i254, k258⟩⟩
 ·
  clear hq
  intro e f250 w249 hD
  rcases q22 with s22 | x22
  ·
   obtain ⟨rfl, hD⟩ := hD
   obtain ⟨H246, S247, i248, k251⟩ := hD
   replace hp := el_go hp
   refine FW.seq (FW.region ?_)
   refine FL.v (E.move k251) ?_
   refine FL.v (E.lenP te30 rfl p0) ?_
   refine FL.v (E.leq rfl rfl) ?_
   refine FL.v (E.assign (v := Value.bool (decide ((len a0) ≤ 12))) rfl) ?_
   refine FL.nil ?_
   refine FW.ret ?_
   obtain rfl := Option.some.inj hp
   exact ⟨.inr rfl, res1 rfl rfl ⟨rfl, S247.back⟩⟩
  ·
   obtain ⟨he, hL⟩ := hD
   replace hp := el_rt hp
   obtain rfl := Option.some.inj hp
   subst he
   exact hL

theorem w_impl_IsSequent {Ha : GH} {wa : World} (hs : Sl Ha wa) (a0 : Sequent) (v0_0 : Value) (p0_0 : RSl Ha eS 1 v0_0 a0.left) (v0_1 : Value) (p0_1 : RSl Ha eS 1 v0_1 a0.right) {r : Bool} (hp : (PF.impl_IsSequent a0) = some r) :
  Calls Tryz.prog 94 #[Value.agg #[v0_0, v0_1]] wa (Sc Ha wa (Value.bool r)) := by
 unfold PF.impl_IsSequent at hp
 have S0 := St.init hs
 refine calls_go (N := 11) (args := [Value.agg #[v0_0, v0_1]]) Tryz.func94 rfl rfl rfl ?_
 refine FW.seq (FW.region ?_)
 obtain ⟨b21, w22, run23, S24⟩ := S0.box (P := Tryz.prog) 51 [v0_0, v0_1] (v := Value.agg #[v0_0, v0_1]) rfl (ones_cons p0_0.one (ones_cons p0_1.one ones_nil))
 refine FL.v (E.box rfl run23) ?_
 obtain ⟨H25, S26, i27, at28⟩ := S24.sealBox (i := 0) (l' := []) rfl rfl
 refine FL.v (E.assign (v := Value.bool false) rfl) ?_
 refine FL.nil (FW.seq (FW.region ?_))
 refine FL.v (E.fieldAddr tf51_0 rfl) ?_
 refine FL.v (E.load rfl (run_load1 Tryz.isAgg30 (at28.now S26.sl) rfl)) ?_
 obtain ⟨r29, hr30, hp⟩ := bnd hp
 refine FL.call rfl rfl rfl (E.call Tryz.call131 (A1 rfl)) (w_impl_sideOk S26.sl v0_0 a0.left (p0_0.mono i27) hr30) ?_
 rintro e w31 ⟨rfl, r32⟩
 refine ⟨_, rfl, ?_⟩
 have S33 := S26.call r32
 refine FL.v (E.move (v := Value.bool r29) rfl) ?_
 obtain ⟨t39, hqt39, hp⟩ := bnd hp
 refine FL.cut 4 (fun f w => ∃ H : GH, St Ha wa H w [] ∧ Inc H25 H ∧ f 10 = Value.bool t39) ?_ ?_
 ·
  clear hp; have hp := hqt39; clear hqt39
  rcases ifB hp with ⟨c45, hp⟩ | ⟨c45, hp⟩
  ·
   refine FL.val (wF_yes rfl rfl rfl c45) rfl rfl (E.fieldAddr tf51_1 rfl) ?_
   refine FL.val (wF_yes rfl rfl rfl c45) rfl rfl (E.load rfl (run_load1 Tryz.isAgg30 (at28.now S33.sl) rfl)) ?_
   obtain ⟨r46, hr47, hp⟩ := bnd hp
   refine FL.call (wF_yes rfl rfl rfl c45) rfl rfl (E.call Tryz.call131 (A1 rfl)) (w_impl_sideOk S33.sl v0_1 a0.right (p0_1.mono i27) hr47) ?_
   rintro e w48 ⟨rfl, r49⟩
   refine ⟨_, rfl, ?_⟩
   have S50 := S33.call r49
   obtain rfl := Option.some.inj hp
   refine FL.v (E.pickT rfl c45 rfl) ?_
   exact FL.nil ⟨rfl, _, S50, (Inc.rfl _), rfl⟩
  ·
   refine FL.skip (wF_no rfl rfl rfl c45) rfl ?_
   refine FL.skip (wF_no rfl rfl rfl c45) rfl ?_
   refine FL.skip (wF_no rfl rfl rfl c45) rfl ?_
   obtain rfl := Option.some.inj hp
   refine FL.v (E.pickF rfl c45 rfl) ?_
   exact FL.nil ⟨rfl, _, S33, (Inc.rfl _), rfl⟩
 rintro f44 w43 ⟨H40, S41, i42, k51⟩
 refine FL.v (E.assign k51) ?_
 refine FL.nil ?_
 refine FW.ret ?_
 obtain rfl := Option.some.inj hp
 exact ⟨.inr rfl, res1 rfl rfl ⟨rfl, S41.back⟩⟩

@[reducible] def p_slices_Clone_string_string (Ha : GH) (wa : World) (r : (List ByteArray)) : Ending → World → Prop :=
 fun e w' => ∃ H' : GH, ∃ v0 : Value, ∃ n0 : Nat, ∃ c0 : List Value, e = .returned (v0) ∧ St Ha wa H' w' [.row 9 1 v0 n0 c0] ∧ Els (up wa.heap.size H') eS 1 c0 r
theorem w_slices_Clone_string_string {Ha : GH} {wa : World} (hs : Sl Ha wa) (v0 : Value) (a0 : List ByteArray) (p0 : RSl Ha eS 1 v0 a0) {r : (List ByteArray)} (hp : (PF.slices_Clone_string_string a0) = some r) :
  Calls Tryz.prog 132 #[v0] wa (p_slices_Clone_string_string Ha wa r) := by
 unfold PF.slices_Clone_string_string at hp
 have S0 := St.init hs
 refine calls_go (N := 8) (args := [v0]) Tryz.func132 rfl rfl rfl ?_
 refine FW.seq (FW.region ?_)
 refine FL.v (E.assign (v := Value.slice none 0 0) rfl) ?_
 refine FL.nil (FW.seq (FW.seq (FW.region ?_)))
 refine FL.v (E.move (v := v0) rfl) ?_
 obtain ⟨nb21, run22, hn23⟩ := RSl.nilTest te30 p0
 refine FL.v (run22 _ _ _ _ _ _ _ _ _ _ _ _ rfl rfl) ?_
 refine FL.nil ?_
 rcases bcase nb21 with c24 | c24
 ·
  refine FW.condT (b := nb21) rfl c24 ?_
  rw [hn23 c24, app_nil2] at hp
  refine FW.seq (FW.region ?_)
  refine FL.v (E.assign (v := Value.slice none 0 0) rfl) ?_
  refine FL.nil ?_
  refine FW.ret ?_
  obtain rfl := Option.some.inj hp
  exact ⟨.inr rfl, res1 rfl rfl ⟨_, _, _, _, rfl, (S0.nil 9 1), Els.nil⟩⟩
 ·
  refine FW.condF (b := nb21) rfl c24 ?_
  refine FW.skip (FW.seq (FW.region ?_))
  obtain ⟨v25, w26, run27, S28⟩ := S0.buildSlice (P := Tryz.prog) te30 [] (parts := #[]) (cells := []) rfl szs_nil fc_nil ones_nil (Nat.le_of_ble_eq_true rfl)
  have els29 : Els (up wa.heap.size Ha) eS 1 [] [] := Els.nil
  refine FL.v (E.buildSlice (B0) run27) ?_
  refine FL.v (E.move (v := v0) rfl) ?_
  obtain ⟨xs30, hz31, hp⟩ := bnd hp
  obtain ⟨v32, w35, n33, cs34, run36, S37, els38⟩ := S28.appendP (P := Tryz.prog) (Inc.rfl _) te30 (i := 0) rfl (els29.mono upI) p0 hz31
  have S37 : St Ha wa Ha w35 [.row 9 1 v32 n33 cs34] := S37
  have els38 : Els (up wa.heap.size Ha) eS 1 cs34 xs30 := els38.any (fun _ _ _ _ h => h)
  refine FL.v (E.append rfl rfl run36) ?_
  refine FL.v (E.assign (v := v32) rfl) ?_
  refine FL.nil ?_
  refine FW.ret ?_
  obtain rfl := Option.some.inj hp
  exact ⟨.inr rfl, res1 rfl rfl ⟨_, _, _, _, rfl, S37, els38⟩⟩

@[reducible] def p_impl_Sequent_clone (Ha : GH) (wa : World) (r : Sequent) : Ending → World → Prop :=
 fun e w' => ∃ H' : GH, ∃ v0_0 : Value, ∃ v0_1 : Value, e = .returned (Value.agg #[v0_0, v0_1]) ∧ Run wa.heap.size Ha wa H' w' ∧ (∃ c0 c1, Nest (up wa.heap.size H') eS 1 v0_0 r.left c0 ∧ Nest (up wa.heap.size H') eS 1 v0_1 r.right c1 ∧ Ap v0_0 c0 v0_1 c1)
theorem w_impl_Sequent_clone {Ha : GH} {wa : World} (hs : Sl Ha wa) (a0 : Sequent) (v0_0 : Value) (p0_0 : RSl Ha eS 1 v0_0 a0.left) (v0_1 : Value) (p0_1 : RSl Ha eS 1 v0_1 a0.right) {r : Sequent} (hp : (PF.impl_Sequent_clone a0) = some r) :
  Calls Tryz.prog 95 #[Value.agg #[v0_0, v0_1]] wa (p_impl_Sequent_clone Ha wa r) := by
 unfold PF.impl_Sequent_clone at hp
 have S0 := St.init hs
 refine calls_go (N := 10) (args := [Value.agg #[v0_0, v0_1]]) Tryz.func95 rfl rfl rfl ?_
 refine FW.seq (FW.region ?_)
 obtain ⟨b21, w22, run23, S24⟩ := S0.box (P := Tryz.prog) 51 [v0_0, v0_1] (v := Value.agg #[v0_0, v0_1]) rfl (ones_cons p0_0.one (ones_cons p0_1.one ones_nil))
 refine FL.v (E.box rfl run23) ?_
 obtain ⟨H25, S26, i27, at28⟩ := S24.sealBox (i := 0) (l' := []) rfl rfl
 obtain ⟨b29, w30, run31, S32⟩ := S26.alloc (P := Tryz.prog) 51 [Value.slice none 0 0, Value.slice none 0 0] Tryz.zeroValue51 rfl (ones_cons rfl (ones_cons rfl ones_nil))
 refine FL.v (E.alloc run31) ?_
 refine FL.nil (FW.seq ?_)
 obtain ⟨r36, hr37, hp⟩ := bnd hp
 obtain ⟨r46, hr47, hp⟩ := bnd hp
 refine FW.drawB (Sl H25) (fun f w => ∃ H : GH, ∃ v70 : Value, ∃ v73 : Value, St Ha wa H w [.box b29 51 [v70, v73]] ∧ Inc H25 H ∧ RSl (up wa.heap.size H) eS 1 v70 r36 ∧ RSl (up wa.heap.size H) eS 1 v73 r46 ∧ New H25 [v70] ∧ New H25 [v73] ∧ (∀ b ∈ bl [v70], b ∉ bl [v73]) ∧ f 2 = Value.pointer (some (⟨b29, 0, none⟩ : Addr))) (by kernel_rfl) S32.sl ?_ ?_
 ·
  intro w33 r34
  have S35 := S32.call r34
  refine FB.t (i := 0) (bs 8 1) rfl (SP.nil S35.sl) rfl (fun w' hw' => (E.fieldAddr tf51_0 rfl)) ?_
  refine FB.t (i := 1) (bs 8 3) rfl (SP.nil S35.sl) rfl (fun w' hw' => (E.load rfl (run_load1 Tryz.isAgg30 (at28.now hw') rfl))) ?_
  refine FB.t (i := 3) (bs 8 11) rfl (SP.nil S35.sl) rfl (fun w' hw' => (E.fieldAddr tf51_1 rfl)) ?_
  refine FB.t (i := 4) (bs 8 27) rfl (SP.nil S35.sl) rfl (fun w' hw' => (E.load rfl (run_load1 Tryz.isAgg30 (at28.now hw') rfl))) ?_
  refine FB.all1 (i := 2) (by kernel_rfl) ?_
  ·
   refine FC.call (l' := (bs 8 31)) rfl (by kernel_rfl) rfl rfl rfl (E.call Tryz.call132 (A1 rfl)) (w_slices_Clone_string_string S35.sl v0_0 a0.left (p0_0.mono i27) hr37) ?_
   rintro e w39 ⟨H38, v42, n43, cs44, rfl, r41, els45⟩
   refine ⟨_, rfl, ?_⟩
   have els45 := els45.mono (up_le S35.size)
   have S40 := S35.join (l' := [.row 9 1 v42 n43 cs44, .box b29 51 [Value.slice none 0 0, Value.slice none 0 0]]) r41 rfl
   refine ⟨(SP.nil (Sl.of_inc r41.run.inc S40.sl)), ?_⟩
   refine FB.all1 (i := 5) (by kernel_rfl) ?_
   ·
    refine FC.call (l' := (bs 8 63)) rfl (by kernel_rfl) rfl rfl rfl (E.call Tryz.call132 (A1 rfl)) (w_slices_Clone_string_string S40.sl v0_1 a0.right (p0_1.mono (i27.tr r41.run.inc)) hr47) ?_
    rintro e w49 ⟨H48, v53, n54, cs55, rfl, r52, els56⟩
    refine ⟨_, rfl, ?_⟩
    have els56 := els56.mono (up_le S40.size)
    have S50 := S40.join (l' := [.row 9 1 v53 n54 cs55, .row 9 1 v42 n43 cs44, .box b29 51 [Value.slice none 0 0, Value.slice none 0 0]]) r52 rfl
    refine ⟨(SP.nil (Sl.of_inc (r41.run.inc.tr r52.run.inc) S50.sl)), ?_⟩
    obtain ⟨H57, S58, i59, h60, nv61⟩ := S50.sealRowU (i := 1) (l' := [.row 9 1 v53 n54 cs55, .box b29 51 [Value.slice none 0 0, Value.slice none 0 0]]) rfl (els45.mono (up_mono r52.run.inc)) (by decide) rfl
    obtain ⟨H62, S63, i64, h65, nv66⟩ := S58.sealRowU (i := 0) (l' := [.box b29 51 [Value.slice none 0 0, Value.slice none 0 0]]) rfl (els56.mono (up_mono i59)) (by decide) rfl
    refine FB.t (i := 6) (bs 8 127) rfl (SP.nil (Sl.of_inc (r41.run.inc.tr r52.run.inc) S50.sl)) rfl (fun w' hw' => (E.build (B2 rfl rfl) (run_build _ 51 #[(0, v42), (1, v53)] #[v42, v53] (by obtain ⟨_, _, rfl⟩ := RSl.ln (h60.mono (upI.tr i64)); obtain ⟨_, _, rfl⟩ := RSl.ln (h65.mono upI); rfl)))) ?_
    refine FB.all1 (i := 7) (by kernel_rfl) ?_
    ·
     obtain ⟨w67, run68, S69⟩ := S63.store0 (P := Tryz.prog) (t := 51) (i := 0) (cs' := [v42, v53]) (l' := [.box b29 51 [v42, v53]]) (v := Value.agg #[v42, v53]) (c := [v42, v53]) rfl Tryz.sizeOf51 rfl rfl (ones_cons h60.one (ones_cons h65.one ones_nil)) (Nat.le_of_ble_eq_true rfl) rfl rfl
     refine FC.act (l' := (bs 8 255)) rfl (by kernel_rfl) rfl rfl (E.store rfl rfl run68) ?_
     refine ⟨(SP.nil (Sl.of_inc (((r41.run.inc.tr r52.run.inc).tr i59).tr i64) S69.sl)), ?_⟩
     exact FB.done (by kernel_rfl) ⟨_, _, _, S69, (((r41.run.inc.tr r52.run.inc).tr i59).tr i64), (h60.mono (up_mono i64)), h65, (nv61.anti (r41.run.inc.tr r52.run.inc)), (nv66.anti ((r41.run.inc.tr r52.run.inc).tr i59)), (New.apart (h60.mono (up_mono (Inc.rfl _))) nv66), rfl⟩
 ·
  rintro f81 w80 ⟨H77, v70, v73, S78, i79, h71, h74, nv72, nv75, hd76, k82⟩
  refine FW.ret ?_
  obtain rfl := Option.some.inj hp
  exact ⟨.inr rfl, resC rfl k82 (loadVar_A Tryz.isAgg51 Tryz.sizeOf51 (S78.box_now (i := 0) rfl) rfl) ⟨_, _, _, rfl, S78.run, (Ap.flat2 h71 eS_flat (by decide) h74 eS_flat (by decide) hd76)⟩⟩

theorem w_slices_Index_string_string {Ha : GH} {wa : World} (hs : Sl Ha wa) (v0 : Value) (a0 : List ByteArray) (p0 : RSl Ha eS 1 v0 a0) (a1 : ByteArray) {r : Int} (hp : (PF.slices_Index_string_string a0 a1) = some r) :
  Calls Tryz.prog 154 #[v0, Value.string a1] wa (Sc Ha wa (Value.int .i64 r)) := by
 unfold PF.slices_Index_string_string at hp
 have S0 := St.init hs
 refine calls_go (N := 19) (args := [v0, Value.string a1]) Tryz.func154 rfl rfl rfl ?_
 refine FW.seq (FW.region ?_)
 refine FL.v (E.assign (v := Value.int .i64 0) rfl) ?_
 refine FL.nil (FW.seq (FW.seq (FW.region ?_)))
 refine FL.v (E.move (v := v0) rfl) ?_
 refine FL.v (E.lenP te30 rfl p0) ?_
 refine FL.v (E.move (v := Value.int .i64 0) rfl) ?_
 refine FL.nil ?_
 obtain ⟨q22, hq, hp⟩ := bndR hp
 refine FW.block ?_
 refine FW.mono (FW.forL (S := Unit) (X := Int) (fun (i22 : Nat) (s22 : Unit) f w => ∃ H : GH, St Ha wa H w [] ∧ Inc Ha H ∧ f 8 = Value.int .i64 ((i22 : Nat) : Int) ∧ f 0 = v0 ∧ f 1 = Value.string a1 ∧ f 7 = Value.int .i64 (len a0)) (fun q e f w => match q with | .go s22 => e = Exit.exit 0 ∧ (∃ H : GH, St Ha wa H w [] ∧ Inc Ha H) | .rt x => ((e = Exit.ret) ∧ (fun e f w => (e = Exit.normal ∨ e = Exit.ret) ∧ ∀ a, Fr (δ := []) 19 a f → ∃ v, (results Tryz.f154 a.tmps).run Tryz.prog w = .ok v w ∧ (Sc Ha wa (Value.int .i64 x)) (.returned v) w) e f w)) hq ⟨_, S0, (Inc.rfl _), rfl, rfl, rfl, rfl⟩ ?_ ?_) ?_
 ·
  clear hp hq
  rintro i22 y21 s22 f43 w42 ⟨H39, S40, i41, k44, k45, k46, k47⟩ hx22 o55 hp
  refine FW.seq (FW.region ?_)
  refine FL.v (E.lssT k44 k47 (lss_len hx22)) ?_
  refine FL.nil (FW.seq ?_)
  refine FW.condT rfl rfl ?_
  refine FW.skip (FW.seq (FW.block (FW.seq (FW.region ?_))))
  refine FL.v (E.move k44) ?_
  refine FL.v (E.assign (v := Value.int .i64 ((i22 : Nat) : Int)) rfl) ?_
  refine FL.nil (FW.seq (FW.region ?_))
  refine FL.v (E.move k46) ?_
  refine FL.v (E.move k45) ?_
  refine FL.v (E.move (v := Value.int .i64 ((i22 : Nat) : Int)) rfl) ?_
  obtain ⟨p48, cs49, pt50, l51, at52, rel53⟩ := p0.at (ix_nat hx22)
  obtain rfl := eS_open rel53
  refine FL.v (E.indexAddr te30 rfl rfl pt50) ?_
  refine FL.v (E.load rfl (run_load0 Tryz.isAgg9 ((at52.mono i41).now S40.sl) rfl)) ?_
  refine FL.v (E.eqlS rfl rfl) ?_
  refine FL.nil ?_
  rcases ifB hp with ⟨c54, hp⟩ | ⟨c54, hp⟩
  ·
   refine FW.condT rfl c54 ?_
   refine FW.seq (FW.region ?_)
   refine FL.v (E.move (v := Value.int .i64 ((i22 : Nat) : Int)) rfl) ?_
   refine FL.v (E.assign (v := Value.int .i64 ((i22 : Nat) : Int)) rfl) ?_
   refine FL.nil ?_
   refine FW.ret ?_
   obtain rfl := Option.some.inj hp
   exact ⟨nofun, rfl, ⟨.inr rfl, res1 rfl rfl ⟨rfl, S40.back⟩⟩⟩
  ·
   refine FW.condF rfl c54 ?_
   refine FW.skip (FW.region ?_)
   refine FL.v (E.add k44 rfl) ?_
   refine FL.v (E.move (v := Value.int .i64 (wr (((i22 : Nat) : Int) + 1))) rfl) ?_
   refine FL.nil ?_
   obtain rfl := Option.some.inj hp
   exact ⟨rfl, ⟨_, S40, i41, (nat_succ rfl (lt_of_get hx22) (p0.mono i41).le), k45, k46, k47⟩⟩
 ·
  clear hp hq
  rintro s22 f65 w64 ⟨H61, S62, i63, k66, k67, k68, k69⟩
  refine FW.seq (FW.region ?_)
  refine FL.v (E.lss k66 k69) ?_
  refine FL.nil (FW.seq ?_)
  refine FW.condF rfl dlt_len ?_
  refine FW.exit ?_
  exact ⟨nofun, rfl, ⟨_, S62, i63⟩⟩
 ·
  clear hq
  intro e f60 w59 hD
  rcases q22 with s22 | x22
  ·
   obtain ⟨rfl, hD⟩ := hD
   obtain ⟨H56, S57, i58⟩ := hD
   replace hp := el_go hp
   refine FW.seq (FW.region ?_)
   refine FL.v (E.assign (v := Value.int .i64 (-1)) rfl) ?_
   refine FL.nil ?_
   refine FW.ret ?_
   obtain rfl := Option.some.inj hp
   exact ⟨.inr rfl, res1 rfl rfl ⟨rfl, S57.back⟩⟩
  ·
   obtain ⟨he, hL⟩ := hD
   replace hp := el_rt hp
   obtain rfl := Option.some.inj hp
   subst he
   exact hL

theorem w_slices_Contains_string_string {Ha : GH} {wa : World} (hs : Sl Ha wa) (v0 : Value) (a0 : List ByteArray) (p0 : RSl Ha eS 1 v0 a0) (a1 : ByteArray) {r : Bool} (hp : (PF.slices_Contains_string_string a0 a1) = some r) :
  Calls Tryz.prog 133 #[v0, Value.string a1] wa (Sc Ha wa (Value.bool r)) := by
 unfold PF.slices_Contains_string_string at hp
 have S0 := St.init hs
 refine calls_go (N := 9) (args := [v0, Value.string a1]) Tryz.func133 rfl rfl rfl ?_
 refine FW.seq (FW.region ?_)
 refine FL.v (E.assign (v := Value.bool false) rfl) ?_
 refine FL.nil (FW.seq (FW.region ?_))
 refine FL.v (E.move (v := v0) rfl) ?_
 refine FL.v (E.move (v := Value.string a1) rfl) ?_
 obtain ⟨r21, hr22, hp⟩ := bnd hp
 refine FL.call rfl rfl rfl (E.call Tryz.call154 (A2 rfl rfl)) (w_slices_Index_string_string S0.sl v0 a0 p0 a1 hr22) ?_
 rintro e w23 ⟨rfl, r24⟩
 refine ⟨_, rfl, ?_⟩
 have S25 := S0.call r24
 refine FL.v (E.geq rfl rfl) ?_
 refine FL.v (E.assign (v := Value.bool (decide (0 ≤ r21))) rfl) ?_
 refine FL.nil ?_
 refine FW.ret ?_
 obtain rfl := Option.some.inj hp
 exact ⟨.inr rfl, res1 rfl rfl ⟨rfl, S25.back⟩⟩

theorem w_slices_IndexFunc_string_string {Ha : GH} {wa : World} (hs : Sl Ha wa) (v0 : Value) (a0 : List ByteArray) (p0 : RSl Ha eS 1 v0 a0) (v1 : Value) (a1 : ByteArray → Option Bool) (p1 : Fn_S_to_B Tryz.prog Ha v1 a1) {r : Int} (hp : (PF.slices_IndexFunc_string_string a0 a1) = some r) :
  Calls Tryz.prog 142 #[v0, v1] wa (Sc Ha wa (Value.int .i64 r)) := by
 unfold PF.slices_IndexFunc_string_string at hp
 have S0 := St.init hs
 refine calls_go (N := 19) (args := [v0, v1]) Tryz.func142 rfl rfl rfl ?_
 refine FW.seq (FW.region ?_)
 refine FL.v (E.assign (v := Value.int .i64 0) rfl) ?_
 refine FL.nil (FW.seq (FW.seq (FW.region ?_)))
 refine FL.v (E.move (v := v0) rfl) ?_
 refine FL.v (E.lenP te30 rfl p0) ?_
 refine FL.v (E.move (v := Value.int .i64 0) rfl) ?_
 refine FL.nil ?_
 obtain ⟨q22, hq, hp⟩ := bndR hp
 refine FW.block ?_
 refine FW.mono (FW.forL (S := Unit) (X := Int) (fun (i22 : Nat) (s22 : Unit) f w => ∃ H : GH, St Ha wa H w [] ∧ Inc Ha H ∧ f 8 = Value.int .i64 ((i22 : Nat) : Int) ∧ f 0 = v0 ∧ f 1 = v1 ∧ f 7 = Value.int .i64 (len a0)) (fun q e f w => match q with | .go s22 => e = Exit.exit 0 ∧ (∃ H : GH, St Ha wa H w [] ∧ Inc Ha H) | .rt x => ((e = Exit.ret) ∧ (fun e f w => (e = Exit.normal ∨ e = Exit.ret) ∧ ∀ a, Fr (δ := []) 19 a f → ∃ v, (results Tryz.f142 a.tmps).run Tryz.prog w = .ok v w ∧ (Sc Ha wa (Value.int .i64 x)) (.returned v) w) e f w)) hq ⟨_, S0, (Inc.rfl _), rfl, rfl, rfl, rfl⟩ ?_ ?_) ?_
 ·
  clear hp hq
  rintro i22 y21 s22 f53 w52 ⟨H49, S50, i51, k54, k55, k56, k57⟩ hx22 o75 hp
  refine FW.seq (FW.region ?_)
  refine FL.v (E.lssT k54 k57 (lss_len hx22)) ?_
  refine FL.nil (FW.seq ?_)
  refine FW.condT rfl rfl ?_
  refine FW.skip (FW.seq (FW.block (FW.seq (FW.region ?_))))
  refine FL.v (E.move k54) ?_
  refine FL.v (E.assign (v := Value.int .i64 ((i22 : Nat) : Int)) rfl) ?_
  refine FL.nil (FW.seq (FW.region ?_))
  refine FL.v (E.move k56) ?_
  refine FL.v (E.move k55) ?_
  refine FL.v (E.move (v := Value.int .i64 ((i22 : Nat) : Int)) rfl) ?_
  obtain ⟨p58, cs59, pt60, l61, at62, rel63⟩ := p0.at (ix_nat hx22)
  obtain rfl := eS_open rel63
  refine FL.v (E.indexAddr te30 rfl rfl pt60) ?_
  refine FL.v (E.load rfl (run_load0 Tryz.isAgg9 ((at62.mono i51).now S50.sl) rfl)) ?_
  obtain ⟨r64, hr65, hp⟩ := bnd hp
  obtain ⟨fi69, cs70, hv71, he72, hc73⟩ := (p1.mono i51) H49 w52 (Inc.rfl _) S50.sl y21 r64 hr65
  refine FL.call rfl rfl rfl (E.callV he72 (Eq.trans rfl hv71) (appA (A1 rfl) cs70)) hc73 ?_
  rintro e w66 ⟨rfl, r67⟩
  refine ⟨_, rfl, ?_⟩
  have S68 := S50.call r67
  refine FL.nil ?_
  rcases ifB hp with ⟨c74, hp⟩ | ⟨c74, hp⟩
  ·
   refine FW.condT rfl c74 ?_
   refine FW.seq (FW.region ?_)
   refine FL.v (E.move (v := Value.int .i64 ((i22 : Nat) : Int)) rfl) ?_
   refine FL.v (E.assign (v := Value.int .i64 ((i22 : Nat) : Int)) rfl) ?_
   refine FL.nil ?_
   refine FW.ret ?_
   obtain rfl := Option.some.inj hp
   exact ⟨nofun, rfl, ⟨.inr rfl, res1 rfl rfl ⟨rfl, S68.back⟩⟩⟩
  ·
   refine FW.condF rfl c74 ?_
   refine FW.skip (FW.region ?_)
   refine FL.v (E.add k54 rfl) ?_
   refine FL.v (E.move (v := Value.int .i64 (wr (((i22 : Nat) : Int) + 1))) rfl) ?_
   refine FL.nil ?_
   obtain rfl := Option.some.inj hp
   exact ⟨rfl, ⟨_, S68, i51, (nat_succ rfl (lt_of_get hx22) (p0.mono i51).le), k55, k56, k57⟩⟩
 ·
  clear hp hq
  rintro s22 f85 w84 ⟨H81, S82, i83, k86, k87, k88, k89⟩
  refine FW.seq (FW.region ?_)
  refine FL.v (E.lss k86 k89) ?_
  refine FL.nil (FW.seq ?_)
  refine FW.condF rfl dlt_len ?_
  refine FW.exit ?_
  exact ⟨nofun, rfl, ⟨_, S82, i83⟩⟩
 ·
  clear hq
  intro e f80 w79 hD
  rcases q22 with s22 | x22
  ·
   obtain ⟨rfl, hD⟩ := hD
   obtain ⟨H76, S77, i78⟩ := hD
   replace hp := el_go hp
   refine FW.seq (FW.region ?_)
   refine FL.v (E.assign (v := Value.int .i64 (-1)) rfl) ?_
   refine FL.nil ?_
   refine FW.ret ?_
   obtain rfl := Option.some.inj hp
   exact ⟨.inr rfl, res1 rfl rfl ⟨rfl, S77.back⟩⟩
  ·
   obtain ⟨he, hL⟩ := hD
   replace hp := el_rt hp
   obtain rfl := Option.some.inj hp
   subst he
   exact hL

theorem w_slices_ContainsFunc_string_string {Ha : GH} {wa : World} (hs : Sl Ha wa) (v0 : Value) (a0 : List ByteArray) (p0 : RSl Ha eS 1 v0 a0) (v1 : Value) (a1 : ByteArray → Option Bool) (p1 : Fn_S_to_B Tryz.prog Ha v1 a1) {r : Bool} (hp : (PF.slices_ContainsFunc_string_string a0 a1) = some r) :
  Calls Tryz.prog 104 #[v0, v1] wa (Sc Ha wa (Value.bool r)) := by
 unfold PF.slices_ContainsFunc_string_string at hp
 have S0 := St.init hs
 refine calls_go (N := 9) (args := [v0, v1]) Tryz.func104 rfl rfl rfl ?_
 refine FW.seq (FW.region ?_)
 refine FL.v (E.assign (v := Value.bool false) rfl) ?_
 refine FL.nil (FW.seq (FW.region ?_))
 refine FL.v (E.move (v := v0) rfl) ?_
 refine FL.v (E.move (v := v1) rfl) ?_
 obtain ⟨r21, hr22, hp⟩ := bnd hp
 refine FL.call rfl rfl rfl (E.call Tryz.call142 (A2 rfl rfl)) (w_slices_IndexFunc_string_string S0.sl v0 a0 p0 v1 a1 p1 hr22) ?_
 rintro e w23 ⟨rfl, r24⟩
 refine ⟨_, rfl, ?_⟩
 have S25 := S0.call r24
 refine FL.v (E.geq rfl rfl) ?_
 refine FL.v (E.assign (v := Value.bool (decide (0 ≤ r21))) rfl) ?_
 refine FL.nil ?_
 refine FW.ret ?_
 obtain rfl := Option.some.inj hp
 exact ⟨.inr rfl, res1 rfl rfl ⟨rfl, S25.back⟩⟩

theorem w_impl_isSeqAxiom_1 {Ha : GH} {wa : World} (hs : Sl Ha wa) (a0 : ByteArray) (q0 : Addr) (b0 : Sequent) (u0_0 : Value) (g0_0 : RSl Ha eS 1 u0_0 b0.left) (u0_1 : Value) (g0_1 : RSl Ha eS 1 u0_1 b0.right) (c0 : CAt Ha q0 [u0_0, u0_1]) {r : Bool} (hp : (PF.impl_isSeqAxiom_1 a0 b0) = some r) :
  Calls Tryz.prog 134 #[Value.string a0, Value.pointer (some q0)] wa (Sc Ha wa (Value.bool r)) := by
 unfold PF.impl_isSeqAxiom_1 at hp
 have S0 := St.init hs
 refine calls_go (N := 8) (args := [Value.string a0, Value.pointer (some q0)]) Tryz.func134 rfl rfl rfl ?_
 refine FW.seq (FW.region ?_)
 refine FL.v (E.assign (v := Value.bool false) rfl) ?_
 refine FL.nil (FW.seq (FW.region ?_))
 refine FL.v (E.fieldAddr tf51_1 rfl) ?_
 refine FL.v (E.load rfl (run_load1 Tryz.isAgg30 (c0.now S0.sl) rfl)) ?_
 refine FL.v (E.move (v := Value.string a0) rfl) ?_
 obtain ⟨r21, hr22, hp⟩ := bnd hp
 refine FL.call rfl rfl rfl (E.call Tryz.call133 (A2 rfl rfl)) (w_slices_Contains_string_string S0.sl u0_1 b0.right g0_1 a0 hr22) ?_
 rintro e w23 ⟨rfl, r24⟩
 refine ⟨_, rfl, ?_⟩
 have S25 := S0.call r24
 refine FL.v (E.assign (v := Value.bool r21) rfl) ?_
 refine FL.nil ?_
 refine FW.ret ?_
 obtain rfl := Option.some.inj hp
 exact ⟨.inr rfl, res1 rfl rfl ⟨rfl, S25.back⟩⟩

theorem w_impl_isSeqAxiom {Ha : GH} {wa : World} (hs : Sl Ha wa) (a0 : Sequent) (v0_0 : Value) (p0_0 : RSl Ha eS 1 v0_0 a0.left) (v0_1 : Value) (p0_1 : RSl Ha eS 1 v0_1 a0.right) {r : Bool} (hp : (PF.impl_isSeqAxiom a0) = some r) :
  Calls Tryz.prog 96 #[Value.agg #[v0_0, v0_1]] wa (Sc Ha wa (Value.bool r)) := by
 unfold PF.impl_isSeqAxiom at hp
 have S0 := St.init hs
 refine calls_go (N := 17) (args := [Value.agg #[v0_0, v0_1]]) Tryz.func96 rfl rfl rfl ?_
 refine FW.seq (FW.region ?_)
 obtain ⟨b21, w22, run23, S24⟩ := S0.box (P := Tryz.prog) 51 [v0_0, v0_1] (v := Value.agg #[v0_0, v0_1]) rfl (ones_cons p0_0.one (ones_cons p0_1.one ones_nil))
 refine FL.v (E.box rfl run23) ?_
 obtain ⟨H25, S26, i27, at28⟩ := S24.sealBox (i := 0) (l' := []) rfl rfl
 refine FL.v (E.assign (v := Value.bool false) rfl) ?_
 refine FL.nil (FW.seq (FW.region ?_))
 refine FL.v (E.fieldAddr tf51_0 rfl) ?_
 refine FL.v (E.load rfl (run_load1 Tryz.isAgg30 (at28.now S26.sl) rfl)) ?_
 obtain ⟨r29, hr30, hp⟩ := bnd hp
 refine FL.call rfl rfl rfl (E.call Tryz.call133 (A2 rfl rfl)) (w_slices_Contains_string_string S26.sl v0_0 a0.left (p0_0.mono i27) (ByteArray.mk #[48]) hr30) ?_
 rintro e w31 ⟨rfl, r32⟩
 refine ⟨_, rfl, ?_⟩
 have S33 := S26.call r32
 refine FL.v (E.move (v := Value.bool r29) rfl) ?_
 obtain ⟨t39, hqt39, hp⟩ := bnd hp
 refine FL.cut 4 (fun f w => ∃ H : GH, St Ha wa H w [] ∧ Inc H25 H ∧ f 1 = Value.pointer (some ⟨b21, 0, none⟩) ∧ f 10 = Value.bool t39) ?_ ?_
 ·
  clear hp; have hp := hqt39; clear hqt39
  rcases ifB hp with ⟨c45, hp⟩ | ⟨c45, hp⟩
  ·
   refine FL.skip (wF_no rfl rfl rfl c45) rfl ?_
   refine FL.skip (wF_no rfl rfl rfl c45) rfl ?_
   refine FL.skip (wF_no rfl rfl rfl c45) rfl ?_
   obtain rfl := Option.some.inj hp
   refine FL.v (E.pickT rfl c45 rfl) ?_
   exact FL.nil ⟨rfl, _, S33, (Inc.rfl _), rfl, rfl⟩
  ·
   refine FL.val (wF_yes rfl rfl rfl c45) rfl rfl (E.fieldAddr tf51_1 rfl) ?_
   refine FL.val (wF_yes rfl rfl rfl c45) rfl rfl (E.load rfl (run_load1 Tryz.isAgg30 (at28.now S33.sl) rfl)) ?_
   obtain ⟨r46, hr47, hp⟩ := bnd hp
   refine FL.call (wF_yes rfl rfl rfl c45) rfl rfl (E.call Tryz.call133 (A2 rfl rfl)) (w_slices_Contains_string_string S33.sl v0_1 a0.right (p0_1.mono i27) (ByteArray.mk #[49]) hr47) ?_
   rintro e w48 ⟨rfl, r49⟩
   refine ⟨_, rfl, ?_⟩
   have S50 := S33.call r49
   obtain rfl := Option.some.inj hp
   refine FL.v (E.pickF rfl c45 rfl) ?_
   exact FL.nil ⟨rfl, _, S50, (Inc.rfl _), rfl, rfl⟩
 rintro f44 w43 ⟨H40, S41, i42, k51, k52⟩
 refine FL.v (E.move k52) ?_
 obtain ⟨t58, hqt58, hp⟩ := bnd hp
 refine FL.cut 5 (fun f w => ∃ H : GH, St Ha wa H w [] ∧ Inc H40 H ∧ f 16 = Value.bool t58) ?_ ?_
 ·
  clear hp; have hp := hqt58; clear hqt58
  rcases ifB hp with ⟨c64, hp⟩ | ⟨c64, hp⟩
  ·
   refine FL.skip (wF_no rfl rfl rfl c64) rfl ?_
   refine FL.skip (wF_no rfl rfl rfl c64) rfl ?_
   refine FL.skip (wF_no rfl rfl rfl c64) rfl ?_
   refine FL.skip (wF_no rfl rfl rfl c64) rfl ?_
   obtain rfl := Option.some.inj hp
   refine FL.v (E.pickT rfl c64 rfl) ?_
   exact FL.nil ⟨rfl, _, S41, (Inc.rfl _), rfl⟩
  ·
   refine FL.val (wF_yes rfl rfl rfl c64) rfl rfl (E.fieldAddr tf51_0 k51) ?_
   refine FL.val (wF_yes rfl rfl rfl c64) rfl rfl (E.load rfl (run_load1 Tryz.isAgg30 ((at28.mono i42).now S41.sl) rfl)) ?_
   refine FL.val (wF_yes rfl rfl rfl c64) rfl rfl (E.makeFunc A0 (A1 k51)) ?_
   obtain ⟨r65, hr66, hp⟩ := bnd hp
   refine FL.call (wF_yes rfl rfl rfl c64) rfl rfl (E.call Tryz.call104 (A2 rfl rfl)) (w_slices_ContainsFunc_string_string S41.sl v0_0 a0.left (p0_0.mono (i27.tr i42)) (Value.func (.func 134) #[] #[Value.pointer (some ⟨b21, 0, none⟩)]) (fun x0 => PF.impl_isSeqAxiom_1 x0 a0) (fun H2 w2 hi2 hs2 x0 r hr => ⟨134, #[Value.pointer (some ⟨b21, 0, none⟩)], rfl, Tryz.call134, w_impl_isSeqAxiom_1 hs2 x0 ⟨b21, 0, none⟩ a0 v0_0 ((p0_0.mono (i27.tr i42)).mono hi2) v0_1 ((p0_1.mono (i27.tr i42)).mono hi2) ((at28.mono i42).mono hi2) hr⟩) hr66) ?_
   rintro e w67 ⟨rfl, r68⟩
   refine ⟨_, rfl, ?_⟩
   have S69 := S41.call r68
   obtain rfl := Option.some.inj hp
   refine FL.v (E.pickF rfl c64 rfl) ?_
   exact FL.nil ⟨rfl, _, S69, (Inc.rfl _), rfl⟩
 rintro f63 w62 ⟨H59, S60, i61, k70⟩
 refine FL.v (E.assign k70) ?_
 refine FL.nil ?_
 refine FW.ret ?_
 obtain rfl := Option.some.inj hp
 exact ⟨.inr rfl, res1 rfl rfl ⟨rfl, S60.back⟩⟩

theorem w_impl_ruleFor {Ha : GH} {wa : World} (hs : Sl Ha wa) (a0 : Int) (a1 : Bool) :
  Calls Tryz.prog 135 #[Value.int .u8 a0, Value.bool a1] wa (Sc Ha wa (Value.int .i64 (PF.impl_ruleFor a0 a1))) := by
 obtain ⟨r, hp⟩ : ∃ r, (PF.impl_ruleFor a0 a1) = r := ⟨_, rfl⟩
 rw [hp]
 unfold PF.impl_ruleFor at hp
 have S0 := St.init hs
 refine calls_go (N := 24) (args := [Value.int .u8 a0, Value.bool a1]) Tryz.func135 rfl rfl rfl ?_
 refine FW.seq (FW.region ?_)
 refine FL.v (E.assign (v := Value.int .i64 0) rfl) ?_
 refine FL.nil (FW.seq (FW.region ?_))
 obtain ⟨b21, o22, w23, run24, S25, hm26⟩ := S0.makeMap (P := Tryz.prog) (K := Int) (V := Int) 179 (Value.int .u8) (Value.int .i64)
 refine FL.v (E.makeMap run24) ?_
 obtain ⟨o27, w28, run29, S30, hm31⟩ := S25.mapPut (P := Tryz.prog) (i := 0) rfl hm26 Tryz.runUnderlying179 (KeyNow.intk Tryz.runUnderlying5) 126 2
 have S30 : St Ha wa Ha w28 [.raw b21 o27] := S30
 refine FL.act rfl rfl (E.insert rfl rfl rfl run29) ?_
 obtain ⟨o32, w33, run34, S35, hm36⟩ := S30.mapPut (P := Tryz.prog) (i := 0) rfl hm31 Tryz.runUnderlying179 (KeyNow.intk Tryz.runUnderlying5) 38 4
 have S35 : St Ha wa Ha w33 [.raw b21 o32] := S35
 refine FL.act rfl rfl (E.insert rfl rfl rfl run34) ?_
 obtain ⟨o37, w38, run39, S40, hm41⟩ := S35.mapPut (P := Tryz.prog) (i := 0) rfl hm36 Tryz.runUnderlying179 (KeyNow.intk Tryz.runUnderlying5) 124 6
 have S40 : St Ha wa Ha w38 [.raw b21 o37] := S40
 refine FL.act rfl rfl (E.insert rfl rfl rfl run39) ?_
 obtain ⟨o42, w43, run44, S45, hm46⟩ := S40.mapPut (P := Tryz.prog) (i := 0) rfl hm41 Tryz.runUnderlying179 (KeyNow.intk Tryz.runUnderlying5) 62 8
 have S45 : St Ha wa Ha w43 [.raw b21 o42] := S45
 refine FL.act rfl rfl (E.insert rfl rfl rfl run44) ?_
 refine FL.v (E.move (v := Value.map (some b21)) rfl) ?_
 refine FL.v (E.assign (v := Value.map (some b21)) rfl) ?_
 refine FL.nil (FW.seq (FW.region ?_))
 refine FL.v (E.move (v := Value.map (some b21)) rfl) ?_
 refine FL.v (E.move (v := Value.int .u8 a0) rfl) ?_
 refine FL.v (E.lookup rfl rfl (S45.mapGetOk (P := Tryz.prog) (i := 0) rfl hm46 Tryz.runUnderlying179 (KeyNow.intk Tryz.runUnderlying5) (z := 0) Tryz.zeroValue3 a0)) ?_
 refine FL.v (E.move (v := Value.tuple #[Value.int .i64 ((mget (mput (mput (mput (mput ([] : List (Int × Int)) 126 2) 38 4) 124 6) 62 8) a0).getD 0), Value.bool ((mget (mput (mput (mput (mput ([] : List (Int × Int)) 126 2) 38 4) 124 6) 62 8) a0).isSome)]) rfl) ?_
 refine FL.v (E.extract (i := 0) rfl rfl) ?_
 refine FL.v (E.extract (i := 1) rfl rfl) ?_
 refine FL.v (E.assign (v := Value.int .i64 ((mget (mput (mput (mput (mput ([] : List (Int × Int)) 126 2) 38 4) 124 6) 62 8) a0).getD 0)) rfl) ?_
 refine FL.v (E.assign (v := Value.bool ((mget (mput (mput (mput (mput ([] : List (Int × Int)) 126 2) 38 4) 124 6) 62 8) a0).isSome)) rfl) ?_
 refine FL.nil (FW.seq (FW.seq (FW.region ?_)))
 refine FL.v (E.move (v := Value.bool ((mget (mput (mput (mput (mput ([] : List (Int × Int)) 126 2) 38 4) 124 6) 62 8) a0).isSome)) rfl) ?_
 refine FL.v (E.move (v := Value.bool ((mget (mput (mput (mput (mput ([] : List (Int × Int)) 126 2) 38 4) 124 6) 62 8) a0).isSome)) rfl) ?_
 refine FL.cut 3 (fun f w => ∃ H : GH, St Ha wa H w [.raw b21 o42] ∧ Inc Ha H ∧ f 6 = Value.int .i64 ((mget (mput (mput (mput (mput ([] : List (Int × Int)) 126 2) 38 4) 124 6) 62 8) a0).getD 0) ∧ f 20 = Value.bool (bif (mget (mput (mput (mput (mput ([] : List (Int × Int)) 126 2) 38 4) 124 6) 62 8) a0).isSome then (!a1) else false)) ?_ ?_
 ·
  rcases bcase ((mget (mput (mput (mput (mput ([] : List (Int × Int)) 126 2) 38 4) 124 6) 62 8) a0).isSome) with c53 | c53
  ·
   refine FL.val (wF_yes rfl rfl rfl c53) rfl rfl (E.move (v := Value.bool a1) rfl) ?_
   refine FL.val (wF_yes rfl rfl rfl c53) rfl rfl (E.not rfl) ?_
   refine FL.v (E.pickT rfl c53 rfl) ?_
   exact FL.nil ⟨rfl, _, S45, (Inc.rfl _), rfl, (congrArg Value.bool (bifT c53).symm)⟩
  ·
   refine FL.skip (wF_no rfl rfl rfl c53) rfl ?_
   refine FL.skip (wF_no rfl rfl rfl c53) rfl ?_
   refine FL.v (E.pickF rfl c53 rfl) ?_
   exact FL.nil ⟨rfl, _, S45, (Inc.rfl _), rfl, (congrArg Value.bool (bifF c53).symm)⟩
 rintro f52 w51 ⟨H48, S49, i50, k54, k55⟩
 refine FL.nil ?_
 rcases ifT hp with ⟨c56, hp⟩ | ⟨c56, hp⟩
 ·
  refine FW.condT k55 c56 ?_
  refine FW.region ?_
  refine FL.v (E.move k54) ?_
  refine FL.v (E.add rfl rfl) ?_
  refine FL.v (E.assign (v := Value.int .i64 (wr (((mget (mput (mput (mput (mput ([] : List (Int × Int)) 126 2) 38 4) 124 6) 62 8) a0).getD 0) + 1))) rfl) ?_
  refine FL.nil (FW.seq (FW.region ?_))
  refine FL.v (E.move (v := Value.int .i64 (wr (((mget (mput (mput (mput (mput ([] : List (Int × Int)) 126 2) 38 4) 124 6) 62 8) a0).getD 0) + 1))) rfl) ?_
  refine FL.v (E.assign (v := Value.int .i64 (wr (((mget (mput (mput (mput (mput ([] : List (Int × Int)) 126 2) 38 4) 124 6) 62 8) a0).getD 0) + 1))) rfl) ?_
  refine FL.nil ?_
  refine FW.ret ?_
  obtain rfl := hp
  exact ⟨.inr rfl, res1 rfl rfl ⟨rfl, S49.back⟩⟩
 ·
  refine FW.condF k55 c56 ?_
  refine FW.skip (FW.seq (FW.region ?_))
  refine FL.v (E.move k54) ?_
  refine FL.v (E.assign (v := Value.int .i64 ((mget (mput (mput (mput (mput ([] : List (Int × Int)) 126 2) 38 4) 124 6) 62 8) a0).getD 0)) rfl) ?_
  refine FL.nil ?_
  refine FW.ret ?_
  obtain rfl := hp
  exact ⟨.inr rfl, res1 rfl rfl ⟨rfl, S49.back⟩⟩

@[reducible] def p_impl_mainOf (Ha : GH) (wa : World) (r : (Fo × Int)) : Ending → World → Prop :=
 fun e w' => ∃ H' : GH, ∃ v0 : Value, e = .returned (Value.tuple #[v0, Value.int .i64 r.2]) ∧ Run wa.heap.size Ha wa H' w' ∧ FAt H' v0 r.1
set_option maxHeartbeats 4000000 in
theorem w_impl_mainOf {Ha : GH} {wa : World} (hs : Sl Ha wa) (a0 : Sequent) (v0_0 : Value) (p0_0 : RSl Ha eS 1 v0_0 a0.left) (v0_1 : Value) (p0_1 : RSl Ha eS 1 v0_1 a0.right) {r : (Fo × Int)} (hp : (PF.impl_mainOf a0) = some r) :
  Calls Tryz.prog 97 #[Value.agg #[v0_0, v0_1]] wa (p_impl_mainOf Ha wa r) := by
 unfold PF.impl_mainOf at hp
 have S0 := St.init hs
 refine calls_go (N := 46) (args := [Value.agg #[v0_0, v0_1]]) Tryz.func97 rfl rfl rfl ?_
 refine FW.seq (FW.region ?_)
 obtain ⟨b21, w22, run23, S24⟩ := S0.box (P := Tryz.prog) 51 [v0_0, v0_1] (v := Value.agg #[v0_0, v0_1]) rfl (ones_cons p0_0.one (ones_cons p0_1.one ones_nil))
 refine FL.v (E.box rfl run23) ?_
 obtain ⟨H25, S26, i27, at28⟩ := S24.sealBox (i := 0) (l' := []) rfl rfl
 refine FL.v (E.assign (v := Value.pointer none) rfl) ?_
 refine FL.v (E.assign (v := Value.int .i64 0) rfl) ?_
 refine FL.nil (FW.seq (FW.seq (FW.region ?_)))
 refine FL.v (E.fieldAddr tf51_0 rfl) ?_
 refine FL.v (E.load rfl (run_load1 Tryz.isAgg30 (at28.now S26.sl) rfl)) ?_
 refine FL.v (E.fieldAddr tf51_1 rfl) ?_
 refine FL.v (E.load rfl (run_load1 Tryz.isAgg30 (at28.now S26.sl) rfl)) ?_
 obtain ⟨v29, w30, run31, S32⟩ := S26.buildSlice (P := Tryz.prog) te162 [v0_0, v0_1] (parts := #[(0, v0_0), (1, v0_1)]) (cells := [v0_0, v0_1]) rfl (szs_cons (cells_size p0_0.cells) (szs_cons (cells_size p0_1.cells) szs_nil)) (fc_cons p0_0.cells (fc_cons p0_1.cells fc_nil)) (ones_cons p0_0.one (ones_cons p0_1.one ones_nil)) (Nat.le_of_ble_eq_true rfl)
 have els33 : Els H25 (eL eS 1) 1 [v0_0, v0_1] [a0.left, a0.right] := (Els.snoc (H := H25) (E := (eL eS 1)) (k := 1) (c := [v0_1]) (x := a0.right) (Els.snoc (H := H25) (E := (eL eS 1)) (k := 1) (c := [v0_0]) (x := a0.left) Els.nil rfl ⟨_, rfl, (p0_0.mono i27)⟩) rfl ⟨_, rfl, (p0_1.mono i27)⟩)
 refine FL.v (E.buildSlice (B2 rfl rfl) run31) ?_
 refine FL.v (E.lenO te162 rfl S32 (i := 0) rfl els33 (by decide)) ?_
 refine FL.v (E.move (v := Value.int .i64 0) rfl) ?_
 refine FL.nil ?_
 obtain ⟨m34, hchk35, hp⟩ := bnd hp
 obtain ⟨q35, hq, hp⟩ := bndR hp
 refine FW.block ?_
 refine FW.mono (FW.forR (S := Unit) (X := (Fo × Int)) (fun (i35 : Nat) (s35 : Unit) f w => ∃ H : GH, St Ha wa H w [.row 30 1 v29 2 [v0_0, v0_1]] ∧ Inc H25 H ∧ f 17 = Value.int .i64 ((i35 : Nat) : Int) ∧ f 15 = v29 ∧ f 16 = Value.int .i64 (len [a0.left, a0.right])) (fun q e f w => match q with | .go s35 => e = Exit.exit 0 ∧ (∃ H : GH, St Ha wa H w [.row 30 1 v29 2 [v0_0, v0_1]] ∧ Inc H25 H) | .rt x => ((e = Exit.ret) ∧ (fun e f w => (e = Exit.normal ∨ e = Exit.ret) ∧ ∀ a, Fr (δ := []) 46 a f → ∃ v, (results Tryz.f97 a.tmps).run Tryz.prog w = .ok v w ∧ (p_impl_mainOf Ha wa x) (.returned v) w) e f w)) hq ⟨_, S32, (Inc.rfl _), rfl, rfl, rfl⟩ ?_ ?_) ?_
 ·
  clear hp hq
  rintro i35 s35 f118 w117 ⟨H114, S115, i116, k119, k120, k121⟩ hi35 hj35 o231 hp
  refine FW.seq (FW.region ?_)
  refine FL.v (E.lssT k119 k121 (lss_chk hj35 hchk35)) ?_
  refine FL.nil (FW.seq ?_)
  refine FW.condT rfl rfl ?_
  refine FW.skip (FW.seq (FW.block (FW.seq (FW.region ?_))))
  refine FL.v (E.move k119) ?_
  obtain ⟨x128, hx129, hp⟩ := bnd hp
  obtain ⟨p122, cs123, pt124, l125, at126, rel127⟩ := S115.row_at (i := 0) rfl els33 (by decide) hx129
  obtain ⟨v130, rfl, h131⟩ := eL_open rel127
  refine FL.v (E.indexAddr te162 k120 k119 pt124) ?_
  refine FL.v (E.load rfl (run_load0 Tryz.isAgg30 at126 rfl)) ?_
  refine FL.v (E.assign (v := Value.int .i64 ((i35 : Nat) : Int)) rfl) ?_
  refine FL.v (E.assign (v := v130) rfl) ?_
  refine FL.nil (FW.seq (FW.region ?_))
  refine FL.v (E.move (v := v130) rfl) ?_
  refine FL.v (E.lenP te30 rfl h131) ?_
  refine FL.v (E.move (v := Value.int .i64 0) rfl) ?_
  refine FL.nil ?_
  obtain ⟨q133, hq, hp⟩ := bndR hp
  refine FW.block ?_
  refine FW.mono (FW.forL (S := Unit) (X := (Lp Unit (Fo × Int))) (fun (i133 : Nat) (s133 : Unit) f w => ∃ H : GH, St Ha wa H w [.row 30 1 v29 2 [v0_0, v0_1]] ∧ Inc H114 H ∧ f 24 = Value.int .i64 ((i133 : Nat) : Int) ∧ f 4 = Value.int .i64 ((i35 : Nat) : Int) ∧ f 15 = v29 ∧ f 16 = Value.int .i64 (len [a0.left, a0.right]) ∧ f 17 = Value.int .i64 ((i35 : Nat) : Int) ∧ f 22 = v130 ∧ f 23 = Value.int .i64 (len x128)) (fun q e f w => match q with | .go s133 => e = Exit.exit 2 ∧ (∃ H : GH, St Ha wa H w [.row 30 1 v29 2 [v0_0, v0_1]] ∧ Inc H114 H ∧ f 15 = v29 ∧ f 16 = Value.int .i64 (len [a0.left, a0.right]) ∧ f 17 = Value.int .i64 ((i35 : Nat) : Int)) | .rt x => ((e = Exit.ret) ∧ (Rd ((fun (i35 : Nat) (s35 : Unit) f w => ∃ H : GH, St Ha wa H w [.row 30 1 v29 2 [v0_0, v0_1]] ∧ Inc H25 H ∧ f 17 = Value.int .i64 ((i35 : Nat) : Int) ∧ f 15 = v29 ∧ f 16 = Value.int .i64 (len [a0.left, a0.right])) (i35 + 1)) (fun q e f w => match q with | .go s35 => e = Exit.exit 0 ∧ (∃ H : GH, St Ha wa H w [.row 30 1 v29 2 [v0_0, v0_1]] ∧ Inc H25 H) | .rt x => ((e = Exit.ret) ∧ (fun e f w => (e = Exit.normal ∨ e = Exit.ret) ∧ ∀ a, Fr (δ := []) 46 a f → ∃ v, (results Tryz.f97 a.tmps).run Tryz.prog w = .ok v w ∧ (p_impl_mainOf Ha wa x) (.returned v) w) e f w)) x) e f w)) hq ⟨_, S115, (Inc.rfl _), rfl, rfl, k120, k121, k119, rfl, rfl⟩ ?_ ?_) ?_
  ·
   clear hp hq
   rintro i133 y132 s133 f176 w175 ⟨H172, S173, i174, k177, k178, k179, k180, k181, k182, k183⟩ hx133 o210 hp
   refine FW.seq (FW.region ?_)
   refine FL.v (E.lssT k177 k183 (lss_len hx133)) ?_
   refine FL.nil (FW.seq ?_)
   refine FW.condT rfl rfl ?_
   refine FW.skip (FW.seq (FW.block (FW.seq (FW.region ?_))))
   obtain ⟨p184, cs185, pt186, l187, at188, rel189⟩ := h131.at (ix_nat hx133)
   obtain rfl := eS_open rel189
   refine FL.v (E.indexAddr te30 k182 k177 pt186) ?_
   refine FL.v (E.load rfl (run_load0 Tryz.isAgg9 ((at188.mono (i116.tr i174)).now S173.sl) rfl)) ?_
   refine FL.v (E.assign (v := Value.string y132) rfl) ?_
   refine FL.nil (FW.seq (FW.region ?_))
   refine FL.v (E.move (v := Value.string y132) rfl) ?_
   obtain ⟨r190, hr191, hp⟩ := bnd hp
   refine FL.call rfl rfl rfl (E.call Tryz.call37 (A1 rfl)) (w_impl_parse S173.sl y132 hr191) ?_
   rintro e w193 ⟨H192, v196, rfl, r195, h197⟩
   refine ⟨_, rfl, ?_⟩
   have S194 := S173.call r195
   refine FL.v (E.move (v := Value.tuple #[v196, Value.bool r190.2]) rfl) ?_
   refine FL.v (E.extract (i := 0) rfl rfl) ?_
   refine FL.v (E.extract (i := 1) rfl rfl) ?_
   refine FL.v (E.assign (v := v196) rfl) ?_
   refine FL.v (E.assign (v := Value.bool r190.2) rfl) ?_
   refine FL.nil (FW.seq (FW.region ?_))
   refine FL.v (E.move (v := v196) rfl) ?_
   obtain ⟨y198, hy199, hp⟩ := bnd hp
   obtain ⟨q200, v202, v203, rfl, at201, h204, h205⟩ := FAt.open h197 hy199
   refine FL.v (E.nilCheck rfl) ?_
   refine FL.v (E.fieldAddr tf86_0 rfl) ?_
   refine FL.v (E.load rfl (run_load1 Tryz.isAgg5 (at201.now S194.sl) rfl)) ?_
   refine FL.v (E.move k178) ?_
   refine FL.v (E.eql rfl rfl) ?_
   refine FL.call rfl rfl rfl (E.call Tryz.call135 (A2 rfl rfl)) (w_impl_ruleFor S194.sl y198.op (((i35 : Nat) : Int) == 0)) ?_
   rintro e w206 ⟨rfl, r207⟩
   refine ⟨_, rfl, ?_⟩
   have S208 := S194.call r207
   refine FL.v (E.assign (v := Value.int .i64 (PF.impl_ruleFor y198.op (((i35 : Nat) : Int) == 0))) rfl) ?_
   refine FL.nil (FW.seq (FW.region ?_))
   refine FL.v (E.move (v := Value.int .i64 (PF.impl_ruleFor y198.op (((i35 : Nat) : Int) == 0))) rfl) ?_
   refine FL.v (E.neq rfl rfl) ?_
   refine FL.nil ?_
   rcases ifB hp with ⟨c209, hp⟩ | ⟨c209, hp⟩
   ·
    refine FW.condT rfl c209 ?_
    refine FW.seq (FW.region ?_)
    refine FL.v (E.move (v := Value.pointer (some q200)) rfl) ?_
    refine FL.v (E.move (v := Value.int .i64 (PF.impl_ruleFor y198.op (((i35 : Nat) : Int) == 0))) rfl) ?_
    refine FL.v (E.assign (v := Value.pointer (some q200)) rfl) ?_
    refine FL.v (E.assign (v := Value.int .i64 (PF.impl_ruleFor y198.op (((i35 : Nat) : Int) == 0))) rfl) ?_
    refine FL.nil ?_
    refine FW.ret ?_
    obtain rfl := Option.some.inj hp
    exact ⟨nofun, rfl, ⟨nofun, rfl, ⟨.inr rfl, res2 rfl rfl rfl ⟨_, _, rfl, S208.run, h197⟩⟩⟩⟩
   ·
    refine FW.condF rfl c209 ?_
    refine FW.skip (FW.region ?_)
    refine FL.v (E.add k177 rfl) ?_
    refine FL.v (E.move (v := Value.int .i64 (wr (((i133 : Nat) : Int) + 1))) rfl) ?_
    refine FL.nil ?_
    obtain rfl := Option.some.inj hp
    exact ⟨rfl, ⟨_, S208, (i174.tr r195.inc), (nat_succ rfl (lt_of_get hx133) (h131.mono ((i116.tr i174).tr r195.inc)).le), k178, k179, k180, k181, k182, k183⟩⟩
  ·
   clear hp hq
   rintro s133 f223 w222 ⟨H219, S220, i221, k224, k225, k226, k227, k228, k229, k230⟩
   refine FW.seq (FW.region ?_)
   refine FL.v (E.lss k224 k230) ?_
   refine FL.nil (FW.seq ?_)
   refine FW.condF rfl dlt_len ?_
   refine FW.exit ?_
   exact ⟨nofun, rfl, ⟨_, S220, i221, k226, k227, k228⟩⟩
  ·
   clear hq
   intro e f215 w214 hD
   rcases q133 with s133 | x133
   ·
    obtain ⟨rfl, hD⟩ := hD
    obtain ⟨H211, S212, i213, k216, k217, k218⟩ := hD
    replace hp := el_go hp
    refine FW.region ?_
    refine FL.v (E.add k218 rfl) ?_
    refine FL.v (E.move (v := Value.int .i64 (wr (((i35 : Nat) : Int) + 1))) rfl) ?_
    refine FL.nil ?_
    obtain rfl := Option.some.inj hp
    exact ⟨rfl, ⟨_, S212, (i116.tr i213), (nat_succ rfl hj35 (chk_le hchk35)), k216, k217⟩⟩
   ·
    obtain ⟨he, hL⟩ := hD
    replace hp := el_rt hp
    obtain rfl := Option.some.inj hp
    subst he
    exact hL
 ·
  clear hp hq
  rintro s35 f241 w240 ⟨H237, S238, i239, k242, k243, k244⟩
  refine FW.seq (FW.region ?_)
  refine FL.v (E.lss k242 k244) ?_
  refine FL.nil (FW.seq ?_)
  refine FW.condF rfl (dlt_maxchk hchk35) ?_
  refine FW.exit ?_
  exact ⟨nofun, rfl, ⟨_, S238, i239⟩⟩
 ·
  clear hq
  intro e f236 w235 hD
  rcases q35 with s35 | x35
  ·
   obtain ⟨rfl, hD⟩ := hD
   obtain ⟨H232, S233, i234⟩ := hD
   replace hp := el_go hp
   refine FW.seq (FW.region ?_)
   refine FL.v (E.assign (v := Value.pointer none) rfl) ?_
   refine FL.v (E.assign (v := Value.int .i64 0) rfl) ?_
   refine FL.nil ?_
   refine FW.ret ?_
   obtain rfl := Option.some.inj hp
   exact ⟨.inr rfl, res2 rfl rfl rfl ⟨_, _, rfl, S233.run, FAt.nil⟩⟩
  ·
   obtain ⟨he, hL⟩ := hD
   replace hp := el_rt hp
   obtain rfl := Option.some.inj hp
   subst he
   exact hL

@[reducible] def p_slices_DeleteFunc_string_string (H0 : GH) (w0 : World) (Ha : GH) (L : List MO) (r : (List ByteArray)) : Ending → World → Prop :=
 fun e w' => ∃ H' : GH, ∃ v0r : Value, ∃ n0r : Nat, ∃ c0r : List Value, e = .returned (v0r) ∧ (St H0 w0 H' w' (.row 9 1 v0r n0r c0r :: L) ∧ Inc Ha H') ∧ Els (up w0.heap.size H') eS 1 c0r r
set_option maxHeartbeats 4000000 in
theorem w_slices_DeleteFunc_string_string {H0 Ha : GH} {w0 wa : World} {L : List MO} {v0 : Value} {n0 : Nat} {k0 : List Value} (S0 : St H0 w0 Ha wa (.row 9 1 v0 n0 k0 :: L)) (a0 : List ByteArray) (p0 : Els (up w0.heap.size Ha) eS 1 k0 a0) (v1 : Value) (a1 : ByteArray → Option Bool) (p1 : Fn_S_to_B Tryz.prog Ha v1 a1) {r : (List ByteArray)} (hp : (PF.slices_DeleteFunc_string_string a0 a1) = some r) :
  Calls Tryz.prog 155 #[v0, v1] wa (p_slices_DeleteFunc_string_string H0 w0 Ha L r) := by
 unfold PF.slices_DeleteFunc_string_string at hp
 refine calls_go (N := 42) (args := [v0, v1]) Tryz.func155 rfl rfl rfl ?_
 refine FW.seq (FW.region ?_)
 refine FL.v (E.assign (v := Value.slice none 0 0) rfl) ?_
 refine FL.nil (FW.seq (FW.region ?_))
 refine FL.v (E.move (v := v0) rfl) ?_
 refine FL.v (E.move (v := v1) rfl) ?_
 obtain ⟨H21, S22, i23, h24, nv25⟩ := S0.sealRowU (i := 0) (l' := L) rfl p0 (by decide) rfl
 obtain ⟨r26, hr27, hp⟩ := bnd hp
 refine FL.call rfl rfl rfl (E.call Tryz.call142 (A2 rfl rfl)) (w_slices_IndexFunc_string_string S22.sl v0 a0 (h24.mono upI) v1 a1 (p1.mono i23) hr27) ?_
 rintro e w28 ⟨rfl, r29⟩
 refine ⟨_, rfl, ?_⟩
 have r29 := Run.lend i23 S0.sl r29
 have S30 := S0.call r29
 refine FL.v (E.assign (v := Value.int .i64 r26) rfl) ?_
 refine FL.nil (FW.seq (FW.seq (FW.region ?_)))
 refine FL.v (E.move (v := Value.int .i64 r26) rfl) ?_
 refine FL.v (E.eql rfl rfl) ?_
 refine FL.nil ?_
 rcases ifB hp with ⟨c31, hp⟩ | ⟨c31, hp⟩
 ·
  refine FW.condT rfl c31 ?_
  refine FW.seq (FW.region ?_)
  refine FL.v (E.move (v := v0) rfl) ?_
  refine FL.v (E.assign (v := v0) rfl) ?_
  refine FL.nil ?_
  refine FW.ret ?_
  obtain rfl := Option.some.inj hp
  exact ⟨.inr rfl, res1 rfl rfl ⟨_, _, _, _, rfl, ⟨S30, (Inc.rfl _)⟩, p0⟩⟩
 ·
  refine FW.condF rfl c31 ?_
  refine FW.skip (FW.seq (FW.seq (FW.region ?_)))
  refine FL.v (E.move (v := Value.int .i64 r26) rfl) ?_
  refine FL.v (E.add rfl rfl) ?_
  refine FL.v (E.assign (v := Value.int .i64 (wr (r26 + 1))) rfl) ?_
  refine FL.nil ?_
  obtain ⟨q32, hq, hp⟩ := bndR hp
  refine FW.block ?_
  refine FW.mono (FW.iter (S := ((List ByteArray) × Int × Int)) (X := Empty) (fun (s32 : ((List ByteArray) × Int × Int)) f w => ∃ H : GH, ∃ cs78 : List Value, St H0 w0 H w (.row 9 1 v0 n0 cs78 :: L) ∧ Inc Ha H ∧ Els (up w0.heap.size H) eS 1 cs78 s32.1 ∧ f 0 = v0 ∧ f 1 = v1 ∧ f 5 = Value.int .i64 s32.2.1 ∧ f 6 = Value.int .i64 s32.2.2) (fun (q : Rs ((List ByteArray) × Int × Int) Empty) e f w => match q with | .go s32 => e = Exit.exit 0 ∧ (∃ H : GH, ∃ cs78 : List Value, St H0 w0 H w (.row 9 1 v0 n0 cs78 :: L) ∧ Inc Ha H ∧ Els (up w0.heap.size H) eS 1 cs78 s32.1 ∧ f 0 = v0 ∧ f 5 = Value.int .i64 s32.2.1) | .rt x => x.elim) hq ⟨_, _, S30, (Inc.rfl _), p0, rfl, rfl, rfl, rfl⟩ ?_) ?_
  ·
   clear hp hq
   rintro s32 f129 w128 ⟨H125, cs78, S126, i127, els79, k130, k131, k132, k133⟩ o170 hp
   refine FW.seq (FW.seq (FW.region ?_))
   refine FL.v (E.move k133) ?_
   refine FL.v (E.move k130) ?_
   refine FL.v (E.lenO te30 rfl S126 (i := 0) rfl els79 (by decide)) ?_
   refine FL.v (E.lss rfl rfl) ?_
   refine FL.nil ?_
   rcases ifB hp with ⟨c134, hp⟩ | ⟨c134, hp⟩
   ·
    refine FW.condT rfl c134 ?_
    refine FW.skip (FW.seq (FW.block (FW.seq (FW.region ?_))))
    refine FL.v (E.move k130) ?_
    refine FL.v (E.move k133) ?_
    obtain ⟨x141, hx142, hp⟩ := bnd hp
    obtain ⟨p135, cs136, pt137, l138, at139, rel140⟩ := S126.row_at (i := 0) rfl els79 (by decide) hx142
    obtain rfl := eS_open rel140
    refine FL.v (E.indexAddr te30 rfl rfl pt137) ?_
    refine FL.v (E.load rfl (run_load0 Tryz.isAgg9 at139 rfl)) ?_
    refine FL.v (E.assign (v := Value.string x141) rfl) ?_
    refine FL.nil (FW.seq (FW.region ?_))
    refine FL.v (E.move k131) ?_
    refine FL.v (E.move (v := Value.string x141) rfl) ?_
    obtain ⟨r143, hr144, hp⟩ := bnd hp
    obtain ⟨fi148, cs149, hv150, he151, hc152⟩ := (p1.mono i127) H125 w128 (Inc.rfl _) S126.sl x141 r143 hr144
    refine FL.call rfl rfl rfl (E.callV he151 (Eq.trans rfl hv150) (appA (A1 rfl) cs149)) hc152 ?_
    rintro e w145 ⟨rfl, r146⟩
    refine ⟨_, rfl, ?_⟩
    have S147 := S126.call r146
    refine FL.v (E.not rfl) ?_
    refine FL.nil ?_
    rcases ifB hp with ⟨c153, hp⟩ | ⟨c153, hp⟩
    ·
     refine FW.condT rfl c153 ?_
     refine FW.seq (FW.region ?_)
     refine FL.v (E.move k130) ?_
     refine FL.v (E.move k132) ?_
     refine FL.v (E.move (v := Value.string x141) rfl) ?_
     obtain ⟨x160, hx161, hp⟩ := bnd hp
     obtain ⟨p154, cs155, pt156, l157, at158, rel159⟩ := S147.row_at (i := 0) rfl els79 (by decide) hx161
     obtain rfl := eS_open rel159
     refine FL.v (E.indexAddr te30 rfl rfl pt156) ?_
     obtain ⟨xs165, hput166, hp⟩ := bnd hp
     obtain ⟨w162, cs168, run163, S164, els167, ce169⟩ := S147.putEls (P := Tryz.prog) (t := 9) (i := 0) rfl els79 hput166 pt156 Tryz.sizeOf9 (u := Value.string x141) (c := [Value.string x141]) rfl rfl (ones_cons rfl ones_nil) rfl
     have S164 : St H0 w0 H125 w162 (.row 9 1 v0 n0 cs168 :: L) := S164
     refine FL.act rfl rfl (E.store rfl rfl run163) ?_
     refine FL.nil (FW.region ?_)
     refine FL.v (E.move k132) ?_
     refine FL.v (E.add rfl rfl) ?_
     refine FL.v (E.assign (v := Value.int .i64 (wr (s32.2.1 + 1))) rfl) ?_
     refine FL.nil (FW.region ?_)
     refine FL.v (E.move k133) ?_
     refine FL.v (E.add rfl rfl) ?_
     refine FL.v (E.assign (v := Value.int .i64 (wr (s32.2.2 + 1))) rfl) ?_
     refine FL.nil ?_
     obtain rfl := Option.some.inj hp
     exact ⟨rfl, ⟨_, _, S164, i127, els167, k130, k131, rfl, rfl⟩⟩
    ·
     refine FW.condF rfl c153 ?_
     refine FW.skip (FW.region ?_)
     refine FL.v (E.move k133) ?_
     refine FL.v (E.add rfl rfl) ?_
     refine FL.v (E.assign (v := Value.int .i64 (wr (s32.2.2 + 1))) rfl) ?_
     refine FL.nil ?_
     obtain rfl := Option.some.inj hp
     exact ⟨rfl, ⟨_, _, S147, i127, els79, k130, k131, k132, rfl⟩⟩
   ·
    refine FW.condF rfl c134 ?_
    refine FW.exit ?_
    obtain rfl := Option.some.inj hp
    exact ⟨nofun, rfl, ⟨_, _, S126, i127, els79, k130, k132⟩⟩
  ·
   clear hq
   intro e f175 w174 hD
   rcases q32 with s32 | x32
   ·
    obtain ⟨rfl, hD⟩ := hD
    obtain ⟨H171, cs78, S172, i173, els79, k176, k177⟩ := hD
    replace hp := el_go hp
    refine FW.seq (FW.region ?_)
    refine FL.v (E.move k176) ?_
    refine FL.v (E.move k177) ?_
    obtain ⟨xs178, hc179, hp⟩ := bnd hp
    obtain ⟨v180, run181, h182⟩ := S172.tail te30 (kk := .i64) (i := 0) rfl els79 hc179
    refine FL.v (E.slice te30 rfl (congrArg some rfl) rfl rfl (run181 _)) ?_
    obtain ⟨w183, cs184, run185, S186, els187⟩ := S172.clearTail (P := Tryz.prog) te30 (i := 0) rfl els79 h182 rfl (ones_cons rfl ones_nil)
    have S186 : St H0 w0 H171 w183 (.row 9 1 v0 n0 cs184 :: L) := S186
    refine FL.val0 rfl rfl (E.clear rfl run185) ?_
    refine FL.nil (FW.seq (FW.region ?_))
    refine FL.v (E.move k176) ?_
    refine FL.v (E.move k177) ?_
    obtain ⟨xs188, hc189, hp⟩ := bnd hp
    obtain ⟨v190, n191, cs192, run193, S194, els195, nd196⟩ := S186.cutRow te30 (kk := .i64) (i := 0) rfl els187 hc189
    have S194 : St H0 w0 H171 w183 (.row 9 1 v190 n191 cs192 :: L) := S194
    refine FL.v (E.slice te30 rfl rfl (congrArg some rfl) rfl (run193 _)) ?_
    refine FL.v (E.assign (v := v190) rfl) ?_
    refine FL.nil ?_
    refine FW.ret ?_
    obtain rfl := Option.some.inj hp
    exact ⟨.inr rfl, res1 rfl rfl ⟨_, _, _, _, rfl, ⟨S194, i173⟩, els195⟩⟩
   ·
    exact x32.elim

theorem w_impl_lacking_1 {Ha : GH} {wa : World} (hs : Sl Ha wa) (a0 : ByteArray) (q0 : Addr) (b0 : ByteArray) (c0 : CAt Ha q0 [Value.string b0]) :
  Calls Tryz.prog 156 #[Value.string a0, Value.pointer (some q0)] wa (Sc Ha wa (Value.bool (PF.impl_lacking_1 a0 b0))) := by
 obtain ⟨r, hp⟩ : ∃ r, (PF.impl_lacking_1 a0 b0) = r := ⟨_, rfl⟩
 rw [hp]
 unfold PF.impl_lacking_1 at hp
 have S0 := St.init hs
 refine calls_go (N := 7) (args := [Value.string a0, Value.pointer (some q0)]) Tryz.func156 rfl rfl rfl ?_
 refine FW.seq (FW.region ?_)
 refine FL.v (E.assign (v := Value.bool false) rfl) ?_
 refine FL.nil (FW.seq (FW.region ?_))
 refine FL.v (E.load rfl (run_load0 Tryz.isAgg9 (c0.now S0.sl) rfl)) ?_
 refine FL.v (E.move (v := Value.string a0) rfl) ?_
 refine FL.v (E.eqlS rfl rfl) ?_
 refine FL.v (E.assign (v := Value.bool (b0.toList == a0.toList)) rfl) ?_
 refine FL.nil ?_
 refine FW.ret ?_
 obtain rfl := hp
 exact ⟨.inr rfl, res1 rfl rfl ⟨rfl, S0.back⟩⟩

@[reducible] def p_impl_lacking (Ha : GH) (wa : World) (r : (List ByteArray)) : Ending → World → Prop :=
 fun e w' => ∃ H' : GH, ∃ v0 : Value, ∃ n0 : Nat, ∃ c0 : List Value, e = .returned (v0) ∧ St Ha wa H' w' [.row 9 1 v0 n0 c0] ∧ Els (up wa.heap.size H') eS 1 c0 r
theorem w_impl_lacking {Ha : GH} {wa : World} (hs : Sl Ha wa) (v0 : Value) (a0 : List ByteArray) (p0 : RSl Ha eS 1 v0 a0) (a1 : ByteArray) {r : (List ByteArray)} (hp : (PF.impl_lacking a0 a1) = some r) :
  Calls Tryz.prog 136 #[v0, Value.string a1] wa (p_impl_lacking Ha wa r) := by
 unfold PF.impl_lacking at hp
 have S0 := St.init hs
 refine calls_go (N := 9) (args := [v0, Value.string a1]) Tryz.func136 rfl rfl rfl ?_
 refine FW.seq (FW.region ?_)
 obtain ⟨b21, w22, run23, S24⟩ := S0.box (P := Tryz.prog) 9 [Value.string a1] (v := Value.string a1) rfl (ones_cons rfl ones_nil)
 refine FL.v (E.box rfl run23) ?_
 obtain ⟨H25, S26, i27, at28⟩ := S24.sealBox (i := 0) (l' := []) rfl rfl
 refine FL.v (E.assign (v := Value.slice none 0 0) rfl) ?_
 refine FL.nil (FW.seq (FW.region ?_))
 refine FL.v (E.move (v := v0) rfl) ?_
 obtain ⟨r29, hr30, hp⟩ := bnd hp
 refine FL.call rfl rfl rfl (E.call Tryz.call132 (A1 rfl)) (w_slices_Clone_string_string S26.sl v0 a0 (p0.mono i27) hr30) ?_
 rintro e w32 ⟨H31, v35, n36, cs37, rfl, r34, els38⟩
 refine ⟨_, rfl, ?_⟩
 have els38 := els38.mono (up_le S26.size)
 have S33 := S26.join (l' := [.row 9 1 v35 n36 cs37]) r34 rfl
 refine FL.v (E.makeFunc A0 (A1 rfl)) ?_
 obtain ⟨r39, hr40, hp⟩ := bnd hp
 refine FL.call rfl rfl rfl (E.call Tryz.call155 (A2 rfl rfl)) (w_slices_DeleteFunc_string_string (L := []) S33 r29 els38 (Value.func (.func 156) #[] #[Value.pointer (some ⟨b21, 0, none⟩)]) (fun x0 => some (PF.impl_lacking_1 x0 a1)) (fun H2 w2 hi2 hs2 x0 r hr => ⟨156, #[Value.pointer (some ⟨b21, 0, none⟩)], rfl, Tryz.call156, by cases hr; exact w_impl_lacking_1 hs2 x0 ⟨b21, 0, none⟩ a1 ((at28.mono r34.run.inc).mono hi2)⟩) hr40) ?_
 rintro e w42 ⟨H41, v45, n46, cs47, rfl, ⟨S43, i44⟩, els48⟩
 refine ⟨_, rfl, ?_⟩
 have S43 : St Ha wa H41 w42 [.row 9 1 v45 n46 cs47] := S43
 refine FL.v (E.assign (v := v45) rfl) ?_
 refine FL.nil ?_
 refine FW.ret ?_
 obtain rfl := Option.some.inj hp
 exact ⟨.inr rfl, res1 rfl rfl ⟨_, _, _, _, rfl, S43, els48⟩⟩

end Go.Proofs
